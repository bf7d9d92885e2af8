/- Walks: the order of names, and the place of a name among files. Conditions: sizes a machine can have. -/
import Derived.Test.YthehpafkaefohaaDoorCkM16
import Derived.Laws.Cover1
import Derived.Deep.QuietTactic
import Derived.BigQuiet
import Derived.Deep.DeepCutAuto
import Derived.Lib.AppendZeros
import Derived.LoopN
namespace Go.Proofs.YthehpafkaefohaaDoor
open Go.RowKit
set_option maxRecDepth 20000 in
set_option maxHeartbeats 1000000 in
theorem cmp_any (a b : ByteArray) (w : World) : Calls Tryd.prog 40 #[.string a, .string b] w fun e w' => e = .returned (.int .i64 (cmpN a b)) ∧ w = w' := by
  by_cases h1 : ltN a b = true
  · have hc : cmpN a b = -1 := by unfold cmpN; rw [if_pos h1]
    have HC := Lib.hid hc
    unfold ltN at h1
    clear hc
    go_enter Tryd.func40, Tryd.ntmps40
    go_wp2
    go_ret
    exact ⟨by rw [HC.out]; rfl, rfl⟩
  · have h1 : ltN a b = false := by simpa using h1
    by_cases h2 : eqN a b = true
    · have hc : cmpN a b = 0 := by unfold cmpN; rw [if_neg (by simp [h1]), if_pos h2]
      have HC := Lib.hid hc
      unfold ltN at h1
      unfold eqN at h2
      clear hc
      go_enter Tryd.func40, Tryd.ntmps40
      go_wp2
      go_ret
      exact ⟨by rw [HC.out]; rfl, rfl⟩
    · have h2 : eqN a b = false := by simpa using h2
      have hc : cmpN a b = 1 := by unfold cmpN; rw [if_neg (by simp [h1]), if_neg (by simp [h2])]
      have HC := Lib.hid hc
      unfold ltN at h1
      unfold eqN at h2
      clear hc
      go_enter Tryd.func40, Tryd.ntmps40
      go_wp2
      go_ret
      exact ⟨by rw [HC.out]; rfl, rfl⟩
/-- what holds a file against a name -/
theorem place1_any (f : DF) (v : Value) (n : ByteArray) (w : World) : Calls Tryd.prog 39 #[.agg #[.string f.nm, v, .int .i64 f.sf], .string n] w fun e w' => e = .returned (.int .i64 (cmpN f.nm n)) ∧ Below w.heap.size w w' := by
  have HB := Lib.hid ((Below.refl w.heap.size w).alloc (Nat.le_refl _) (.cells #[.string f.nm, v, .int .i64 f.sf] 58))
  go_enter Tryd.func39, Tryd.ntmps39
  go_wp2_with fail
  refine (cmp_any _ _ _).mono ?_
  rintro e w' ⟨rfl, rfl⟩
  go_wp2
  go_ret
  exact ⟨rfl, HB.out⟩
end Go.Proofs.YthehpafkaefohaaDoor
namespace Go.Proofs.YthehpafkaefohaaDoor
open Go.RowKit
theorem LOwn.len {α : Type} {T : TypeId} {m : Mv α} {base : Nat} {w : World} {v : Value} {xs : List α} (h : LOwn T m base w v xs) : xs.length ≤ maxLen := by
  obtain ⟨cells, ho, _⟩ := h
  rcases ho.2 with ⟨rfl, h2⟩ | ⟨g, cap, cur, rfl, hb, hh, h3, h4, _⟩
  · simp [h2]
  · omega
theorem sorted_at {fs : List DF} (hs : SortedF fs) {i j : Nat} {f g : DF} (hij : i < j) (hf : fs[i]? = some f) (hg : fs[j]? = some g) : ltN f.nm g.nm = true := by
  have h1 := (List.getElem?_eq_some_iff.1 hf)
  have h2 := (List.getElem?_eq_some_iff.1 hg)
  have := List.pairwise_iff_getElem.1 hs i j h1.1 h2.1 hij
  rw [h1.2, h2.2] at this
  exact this
/-- a file's cells in the row -/
theorem file_at {base : Nat} {w : World} {v : Value} {fs : List DF} (h : LOwn 58 mFl base w v fs) {i : Nat} {f : DF} (hf : fs[i]? = some f) :
    ∃ g c u, v = .slice (some ⟨g, 0, none⟩) fs.length c ∧ w.cell? ⟨g, i * 3, none⟩ = some (.string f.nm) ∧ w.cell? ⟨g, i * 3 + 1, none⟩ = some u ∧ w.cell? ⟨g, i * 3 + 2, none⟩ = some (.int .i64 f.sf) ∧ Bytes base w u f.bs ∧ ∃ cs, w.heap[g]? = some (.cells cs 58) := by
  obtain ⟨g, c, cur, us, h1, h2, h3, h4, h5, h6⟩ := h.elem hf
  obtain ⟨u, rfl, hu⟩ := mFl_form h5
  refine ⟨g, c, u, h1, ?_, ?_, ?_, hu, cur, h2⟩
  · rw [blk_cell h2]; exact h6 0 _ rfl
  · rw [blk_cell h2]; exact h6 1 _ rfl
  · rw [blk_cell h2]; exact h6 2 _ rfl
set_option maxRecDepth 20000 in
set_option maxHeartbeats 1000000 in
theorem bsearch_any (v : Value) (fs : List DF) (n : ByteArray) (w : World) (h : LOwn 58 mFl 0 w v fs) (hs : SortedF fs) (hsz : fs.length ≤ 1000000) :
    Calls Tryd.prog 38 #[v, .string n, .func (.func 39) #[] #[]] w fun e w' => e = .returned (.tuple #[.int .i64 (plc fs n), .bool (hasN fs n)]) ∧ Below w.heap.size w w' := by
  have H := Lib.hid h
  have HS := Lib.hid hs
  obtain ⟨A, c, rfl⟩ := h.form
  obtain ⟨N, hN⟩ : ∃ N, fs.length = N := ⟨_, rfl⟩
  have HN := Lib.hid hN
  rw [hN] at hsz H ⊢
  clear h hs hN
  have HB0 := Lib.hid (Below.refl w.heap.size w)
  go_enter Tryd.func38, Tryd.ntmps38
  go_wp2
  go_loopw [9, 10] (fun i j wr => ∃ lo hi : Nat, i = .int .i64 lo ∧ j = .int .i64 hi ∧ lo ≤ hi ∧ hi ≤ N ∧ Hid (∀ t f, t < lo → fs[t]? = some f → ltN f.nm n = true) ∧ Hid (∀ t f, hi ≤ t → fs[t]? = some f → ltN f.nm n = false) ∧ Hid (Below w.heap.size w wr)) (fun i j _ => ((intOf j) - (intOf i)).toNat)
  case atStart => exact ⟨0, N, rfl, rfl, Nat.zero_le _, Nat.le_refl _, Lib.hid (fun t f h => by omega), Lib.hid (fun t f h hf => by have := (List.getElem?_eq_some_iff.1 hf).1; rw [HN.out] at this; omega), HB0⟩
  case round =>
    obtain ⟨lo, hi, rfl, rfl, h1, h2, H1, H2, HB⟩ := hrel
    by_cases hlt : lo < hi
    · obtain ⟨m, hm⟩ : ∃ m, (lo + hi) / 2 = m := ⟨_, rfl⟩
      have hml : lo ≤ m ∧ m < hi := by omega
      obtain ⟨f, hf⟩ : ∃ f, fs[m]? = some f := ⟨fs[m]'(by rw [HN.out]; omega), List.getElem?_eq_getElem _⟩
      have HW := Lib.hid (H.out.keep mFl_law (Stay.below HB.out))
      obtain ⟨g, c', u, hv, d0, d1, d2, _, _⟩ := file_at HW.out hf
      injection hv with hv1 hv2 hv3
      subst hv1
      subst hv3
      have he : ((lo : Int) + hi) / 2 = (m : Int) := by omega
      have hmn : (m : Int) < N := by omega
      have HF := Lib.hid hf
      have HM := Lib.hid hml
      have HE := Lib.hid he
      clear hf hm he hml hv2
      go_upto_region 5 with fail
      rw [HE.out]
      go_wp2_with fail
      refine (place1_any f u n wr).mono ?_
      rintro e w2 ⟨rfl, hb⟩
      have HB2 := Lib.hid (HB.out.trans (hb.mono HB.out.size))
      clear hb d0 d1 d2 HW
      by_cases hc : ltN f.nm n = true
      · have hcm := cmpN_neg.2 hc
        have HC := Lib.hid hc
        clear hc
        go_wp2
        go_roundw
        case rel => exact ⟨m + 1, hi, by go_num, rfl, by have := HM.out; omega, h2, Lib.hid (fun t f' ht hf' => by
          have hmf := HF.out
          rcases Nat.lt_or_ge t m with h | h
          · exact ltN_trans (sorted_at HS.out h hf' hmf) HC.out
          · have : t = m := by omega
            subst this
            rw [hmf] at hf'
            injection hf' with hf'
            rw [← hf']; exact HC.out), H2, HB2⟩
        case measure => have := HM.out; simp [intOf]; omega
      · have hcm : ¬ cmpN f.nm n < 0 := fun h => hc (cmpN_neg.1 h)
        have HC : Hid (ltN f.nm n = false) := by show _ = _; simpa using hc
        clear hc
        go_wp2
        go_roundw
        case rel => exact ⟨lo, m, rfl, rfl, HM.out.1, by have := HM.out; omega, H1, Lib.hid (fun t f' ht hf' => by
          have hmf := HF.out
          rcases Nat.lt_or_ge m t with h | h
          · cases hx : ltN f'.nm n with
            | false => rfl
            | true =>
              have h9 := ltN_trans (sorted_at HS.out h hmf hf') hx
              rw [HC.out] at h9
              cases h9
          · have : t = m := by omega
            subst this
            rw [hmf] at hf'
            injection hf' with hf'
            rw [← hf']; exact HC.out), HB2⟩
        case measure => have := HM.out; simp [intOf]; omega
    · obtain rfl : lo = hi := by omega
      have hp : lo = plc fs n := plc_unique HS.out (by rw [HN.out]; exact h2) H1.out H2.out
      by_cases hl : lo < N
      · obtain ⟨f, hf⟩ : ∃ f, fs[lo]? = some f := ⟨fs[lo]'(by rw [HN.out]; omega), List.getElem?_eq_getElem _⟩
        have HW := Lib.hid (H.out.keep mFl_law (Stay.below HB.out))
        obtain ⟨g, c', u, hv, d0, d1, d2, _, _⟩ := file_at HW.out hf
        injection hv with hv1 hv2 hv3
        subst hv1
        subst hv3
        have hmn : (lo : Int) < N := by omega
        have HH : Hid (hasN fs n = eqN f.nm n) := by show _ = _; unfold hasN; rw [← hp, hf]
        have HP := Lib.hid hp
        clear hf hp hv2 h1
        go_wp2_with fail
        refine (place1_any f u n wr).mono ?_
        rintro e w2 ⟨rfl, hb⟩
        have HB2 := Lib.hid (HB.out.trans (hb.mono HB.out.size))
        clear hb d0 d1 d2 HW
        by_cases hc : eqN f.nm n = true
        · have hcm := cmpN_zero.2 hc
          have HC := Lib.hid hc
          clear hc
          go_wp2
          go_ret2
          exact ⟨by rw [← HP.out, HH.out, HC.out]; rfl, HB2.out⟩
        · have hcm : ¬ cmpN f.nm n = 0 := fun h => hc (cmpN_zero.1 h)
          have hcm2 : (cmpN f.nm n == 0) = false := by simpa using hcm
          have HC : Hid (eqN f.nm n = false) := by show _ = _; simpa using hc
          clear hc
          go_wp2
          go_ret2
          exact ⟨by rw [← HP.out, HH.out, HC.out]; rfl, HB2.out⟩
      · have HH : Hid (hasN fs n = false) := by
          show _ = _
          unfold hasN
          rw [← hp, List.getElem?_eq_none (by rw [HN.out]; omega)]
        have HP := Lib.hid hp
        clear hp
        go_wp2
        go_ret2
        exact ⟨by rw [← HP.out, HH.out]; rfl, HB.out⟩
end Go.Proofs.YthehpafkaefohaaDoor
namespace Go.Proofs.YthehpafkaefohaaDoor
open Go.RowKit
set_option maxRecDepth 20000 in
set_option maxHeartbeats 1000000 in
theorem place_any (v : Value) (fs : List DF) (n : ByteArray) (w : World) (h : LOwn 58 mFl 0 w v fs) (hs : SortedF fs) (hsz : fs.length ≤ 1000000) :
    Calls Tryd.prog 17 #[v, .string n] w fun e w' => e = .returned (.tuple #[.int .i64 (plc fs n), .bool (hasN fs n)]) ∧ Below w.heap.size w w' := by
  have HC := Lib.hid (bsearch_any v fs n w h hs hsz)
  obtain ⟨A, c, rfl⟩ := h.form
  clear h hs hsz
  go_enter Tryd.func17, Tryd.ntmps17
  go_wp2_with fail
  refine HC.out.mono ?_
  rintro e w2 ⟨rfl, hb⟩
  have HB := Lib.hid hb
  clear hb
  go_wp2
  go_ret2
  exact ⟨rfl, HB.out⟩
end Go.Proofs.YthehpafkaefohaaDoor
namespace Go.Proofs.YthehpafkaefohaaDoor
open Go.RowKit
theorem DkAt.cells {w : World} {d : Nat} {st : DkSt} {v : Value} (h : DkAt w d st v) : w.cell? ⟨d, 0, none⟩ = some v ∧ w.cell? ⟨d, 1, none⟩ = some (.int .i64 st.room) ∧ w.cell? ⟨d, 2, none⟩ = some (.int .i64 st.fuse) ∧ w.cell? ⟨d, 3, none⟩ = some (.bool st.dark) ∧ w.cell? ⟨d, 4, none⟩ = some (.func (.func 17) #[] #[]) := by
  refine ⟨?_, ?_, ?_, ?_, ?_⟩ <;> (rw [blk_cell h.blk]; rfl)
theorem equalIn_func (d : Nat) (f : Nat) (a b : Array Value) (w : World) : Sem.run Tryd.prog (Op.equalIn (d + 1) 49 (.func (.func f) a b) .nilFunc) w = .ok false w := by
  simp [Op.equalIn, run_underlying Tryd.underlying49]
theorem equal_func (f : Nat) (a b : Array Value) (w : World) : Sem.run Tryd.prog (Op.equal 49 (.func (.func f) a b) .nilFunc) w = .ok false w := equalIn_func 9999 f a b w
theorem neq_func (f : Nat) (a b : Array Value) (w : World) : Sem.run Tryd.prog (binOp .neq 49 (.func (.func f) a b) .nilFunc) w = .ok (.bool true) w := by
  simp only [binOp]
  simp [equal_func f a b w]
set_option maxRecDepth 20000 in
set_option maxHeartbeats 1000000 in
theorem made_any {w : World} {d : Nat} {st : DkSt} {v : Value} (h : DkAt w d st v) : Calls Tryd.prog 41 #[.pointer (some ⟨d, 0, none⟩)] w fun e w' => e = .returned (.bool true) ∧ w = w' := by
  obtain ⟨_, _, _, _, c4⟩ := h.cells
  have hq := neq_func
  clear h
  go_enter Tryd.func41, Tryd.ntmps41
  go_wp2
  go_ret
  exact ⟨rfl, rfl⟩
def litE (st : DkSt) : Int := if st.dark = true then 15 else 0
set_option maxRecDepth 20000 in
set_option maxHeartbeats 1000000 in
theorem lit_any {w : World} {d : Nat} {st : DkSt} {v : Value} (h : DkAt w d st v) : Calls Tryd.prog 31 #[.pointer (some ⟨d, 0, none⟩)] w fun e w' => e = .returned (.int .i64 (litE st)) ∧ w = w' := by
  have HM := Lib.hid (made_any h)
  obtain ⟨_, _, _, c3, _⟩ := h.cells
  clear h
  unfold litE
  cases hd : st.dark with
  | true =>
    rw [hd] at c3
    clear hd
    go_enter Tryd.func31, Tryd.ntmps31
    go_wp2_with fail
    refine HM.out.mono ?_
    rintro e w2 ⟨rfl, hw⟩
    subst hw
    go_wp2
    go_ret
    exact ⟨rfl, rfl⟩
  | false =>
    rw [hd] at c3
    clear hd
    go_enter Tryd.func31, Tryd.ntmps31
    go_wp2_with fail
    refine HM.out.mono ?_
    rintro e w2 ⟨rfl, hw⟩
    subst hw
    go_wp2
    go_ret
    exact ⟨rfl, rfl⟩
theorem usedF_take (fs : List DF) (k : Nat) (f : DF) (h : fs[k]? = some f) : usedF (fs.take (k + 1)) = usedF (fs.take k) + f.bs.length := by
  unfold usedF
  rw [List.take_add_one, h]
  simp
theorem usedF_take_le (fs : List DF) (k : Nat) : usedF (fs.take k) ≤ usedF fs := by
  have : usedF fs = usedF (fs.take k) + usedF (fs.drop k) := by
    unfold usedF
    rw [← List.sum_append, ← List.map_append, List.take_append_drop]
  omega
set_option maxRecDepth 20000 in
set_option maxHeartbeats 1000000 in
theorem used_any {w : World} {d : Nat} {st : DkSt} {v : Value} (h : DkAt w d st v) (hu : usedF st.fs ≤ 1000000000) (hsz : st.fs.length ≤ 1000000) : Calls Tryd.prog 51 #[.pointer (some ⟨d, 0, none⟩)] w fun e w' => e = .returned (.int .i64 (usedF st.fs)) ∧ Below w.heap.size w w' := by
  have HM := Lib.hid (made_any h)
  obtain ⟨c0, _, _, _, _⟩ := h.cells
  obtain ⟨A, c, rfl⟩ := h.own.form
  have HD := Lib.hid h
  obtain ⟨fs, hfs⟩ : ∃ fs, st.fs = fs := ⟨_, rfl⟩
  have HO : Hid (LOwn 58 mFl 0 w (.slice A fs.length c) fs) := by show LOwn _ _ _ _ _ _; rw [← hfs]; exact h.own
  rw [hfs] at hu hsz c0 ⊢
  obtain ⟨N, hN⟩ : ∃ N, fs.length = N := ⟨_, rfl⟩
  have HN := Lib.hid hN
  rw [hN] at hsz HO c0
  clear h hfs hN
  have HB0 := Lib.hid (Below.refl w.heap.size w)
  have HU := Lib.hid (usedF_take_le fs)
  go_enter Tryd.func51, Tryd.ntmps51
  go_wp2_with fail
  refine HM.out.mono ?_
  rintro e w2 ⟨rfl, hw⟩
  subst hw
  clear HM
  go_wp2
  clear c0
  go_loopw [3, 13] (fun a i wr => ∃ k : Nat, i = .int .i64 k ∧ k ≤ N ∧ a = .int .i64 (usedF (fs.take k)) ∧ Hid (Below w.heap.size w wr)) (fun _ i _ => N - (intOf i).toNat)
  case atStart => exact ⟨0, rfl, Nat.zero_le _, rfl, HB0⟩
  case round =>
    obtain ⟨k, rfl, hk, rfl, HB⟩ := hrel
    by_cases hlt : k < N
    · obtain ⟨f, hf⟩ : ∃ f, fs[k]? = some f := ⟨fs[k]'(by rw [HN.out]; omega), List.getElem?_eq_getElem _⟩
      have HW := Lib.hid (HO.out.keep mFl_law (Stay.below HB.out))
      obtain ⟨g, c', u, hv, d0, d1, d2, hby, _⟩ := file_at HW.out hf
      obtain ⟨Au, cu, rfl, _, _⟩ := hby.reads.form
      injection hv with hv1 hv2 hv3
      subst hv1
      subst hv3
      have HT := Lib.hid (usedF_take fs k f hf)
      have hul := HU.out (k + 1)
      rw [HT.out] at hul
      obtain ⟨L, hL⟩ : ∃ L, f.bs.length = L := ⟨_, rfl⟩
      rw [hL] at d1 hul HT
      obtain ⟨U, hUU⟩ : ∃ U, usedF (fs.take k) = U := ⟨_, rfl⟩
      rw [hUU] at hul HT ⊢
      have hkn : (k : Int) < N := by omega
      have HBA := Lib.hid (HB.out.alloc HB.out.size (.cells #[.string f.nm, .slice Au L cu, .int .i64 f.sf] 58))
      clear hf hv2 hby HW hL hUU
      go_wp2
      go_roundw
      case rel => exact ⟨k + 1, by go_num, by omega, by rw [HT.out]; go_num, HBA⟩
      case measure => simp [intOf]; omega
    · obtain rfl : k = N := by omega
      have HT : Hid (usedF (fs.take k) = usedF fs) := by show _ = _; rw [List.take_of_length_le (by rw [HN.out]; exact Nat.le_refl _)]
      go_wp2
      go_ret
      exact ⟨by rw [← HT.out]; rfl, HB.out⟩
end Go.Proofs.YthehpafkaefohaaDoor
namespace Go.Proofs.YthehpafkaefohaaDoor
open Go.RowKit
theorem okC_iff (c : UInt8) : okC c = decide ((97 ≤ (c.toNat : Int) ∧ (c.toNat : Int) ≤ 122) ∨ (48 ≤ (c.toNat : Int) ∧ (c.toNat : Int) ≤ 57) ∨ (c.toNat : Int) = 46 ∨ (c.toNat : Int) = 45) := by
  unfold okC
  rw [Bool.eq_iff_iff]
  have h1 : ∀ n : Nat, n < 256 → ((c == UInt8.ofNat n) = true ↔ c.toNat = n) := fun n hn => by
    rw [beq_iff_eq]
    constructor
    · rintro rfl; rw [UInt8.toNat_ofNat']; omega
    · intro h; rw [← h]; simp
  have h46 := h1 46 (by omega)
  have h45 := h1 45 (by omega)
  simp only [Bool.or_eq_true, Bool.and_eq_true, decide_eq_true_eq, UInt8.le_iff_toNat_le]
  have e46 : (c == 46) = true ↔ c.toNat = 46 := h46
  have e45 : (c == 45) = true ↔ c.toNat = 45 := h45
  rw [e46, e45]
  simp
  omega
set_option maxRecDepth 20000 in
set_option maxHeartbeats 2000000 in
theorem named_any (s : ByteArray) (w : World) (hs : s.size ≤ 9000000000000000000) : Calls Tryd.prog 50 #[.string s] w fun e w' => e = .returned (.bool (namedB s)) ∧ w = w' := by
  obtain ⟨r, hr⟩ : ∃ r, namedB s = r := ⟨_, rfl⟩
  have HR := Lib.hid hr
  rw [hr]
  clear hr
  go_enter Tryd.func50, Tryd.ntmps50
  go_wp2
  go_loop [9] (fun i => ∃ k : Nat, i = .int .i64 k ∧ k ≤ s.size ∧ Hid ((s.data.toList.take k).all okC = true)) (fun i => s.size - (intOf i).toNat)
  case atStart => exact ⟨0, rfl, Nat.zero_le _, Lib.hid (by simp)⟩
  case round =>
    obtain ⟨k, rfl, hk, HA⟩ := hrel
    by_cases hlt : k < s.size
    · have HT : Hid ((s.data.toList.take (k + 1)).all okC = okC s[k]) := by
        show _ = _
        have h1 : s.data.toList.take (k + 1) = s.data.toList.take k ++ [s[k]] := by
          rw [List.take_succ_eq_append_getElem (by simpa using hlt)]; rfl
        rw [h1, List.all_append, HA.out]
        simp
      have HO := Lib.hid (okC_iff s[k])
      have HN : Hid (okC s[k] = false → r = false) := by
        intro h
        rw [← HR.out]
        unfold namedB
        have : s.data.toList.all okC = false := by
          rw [List.all_eq_false]
          exact ⟨s[k], by have := List.getElem_mem (l := s.data.toList) (n := k) (by simpa using hlt); exact this, by simp [h]⟩
        rw [this]; rfl
      obtain ⟨x, hx⟩ : ∃ x : Int, ((s[k].toNat : Nat) : Int) = x := ⟨_, rfl⟩
      have hx0 : 0 ≤ x ∧ x < 256 := by have := s[k].toNat_lt; omega
      have HX := Lib.hid hx
      have HO2 : Hid (okC s[k] = decide ((97 ≤ x ∧ x ≤ 122) ∨ (48 ≤ x ∧ x ≤ 57) ∨ x = 46 ∨ x = 45)) := by show _ = _; rw [← HX.out]; exact HO.out
      obtain ⟨x0, x1⟩ := hx0
      clear HO
      by_cases a1 : 97 ≤ x <;> by_cases a2 : x ≤ 122 <;> by_cases a3 : 48 ≤ x <;> by_cases a4 : x ≤ 57 <;> by_cases a5 : x = 46 <;> by_cases a6 : x = 45
      all_goals first
        | (exfalso; omega)
        | skip
      all_goals (
        first
        | (have hg : okC s[k] = true := by rw [HO2.out]; simp; omega
           have HG := Lib.hid hg
           clear hg HO2 HN
           go_wp2
           first
           | exact ⟨⟨k + 1, by go_num, by omega, Lib.hid (by rw [HT.out]; exact HG.out)⟩, by simp [intOf]; omega⟩
           | (go_round; case rel => exact ⟨k + 1, by go_num, by omega, Lib.hid (by rw [HT.out]; exact HG.out)⟩; case measure => simp [intOf]; omega))
        | (have hg : okC s[k] = false := by rw [HO2.out]; simp; omega
           have HF := Lib.hid (HN.out hg)
           have b5 : (x == 46) = false := by simpa using a5
           have b6 : (x == 45) = false := by simpa using a6
           have b7 : (x != 46) = true := by simpa using a5
           have b8 : (x != 45) = true := by simpa using a6
           clear hg HO2 HN
           go_wp2
           go_ret
           exact ⟨by rw [HF.out]; rfl, rfl⟩))
    · obtain rfl : k = s.size := by omega
      have HF : Hid (r = (decide (0 < s.size) && decide (s.size ≤ 60))) := by
        show _ = _
        have h1 := HA.out
        rw [List.take_of_length_le (by simp)] at h1
        rw [← HR.out]
        unfold namedB
        rw [h1]
        simp
      by_cases b1 : 0 < s.size
      · by_cases b2 : s.size ≤ 60
        · have HG : Hid (r = true) := by show _ = _; rw [HF.out]; simp [b1, b2]
          have b3 : (s.size : Int) ≤ 60 := by omega
          go_wp2
          go_ret
          exact ⟨by rw [HG.out]; rfl, rfl⟩
        · have HG : Hid (r = false) := by show _ = _; rw [HF.out]; simp [b2]
          have b3 : ¬ (s.size : Int) ≤ 60 := by omega
          go_wp2
          go_ret
          exact ⟨by rw [HG.out]; rfl, rfl⟩
      · have HG : Hid (r = false) := by show _ = _; rw [HF.out]; simp [b1]
        go_wp2
        go_ret
        exact ⟨by rw [HG.out]; rfl, rfl⟩
end Go.Proofs.YthehpafkaefohaaDoor
namespace Go.Proofs.YthehpafkaefohaaDoor
open Go.RowKit
set_option maxRecDepth 20000 in
set_option maxHeartbeats 1000000 in
theorem grow_any (n : Nat) (w : World) (hn : n ≤ 100000000000) : Calls Tryd.prog 67 #[.slice none 0 0, .int .i64 n] w fun e w' => ∃ v, e = .returned v ∧ Bytes w.heap.size w' v [] ∧ Below w.heap.size w w' := by
  rcases Nat.eq_zero_or_pos n with rfl | h0
  · go_enter Tryd.func67, Tryd.ntmps67
    go_wp2
    go_ret
    exact ⟨_, rfl, Bytes.nil _ _, Below.refl _ _⟩
  · obtain ⟨i0, hi, hz0, hz1, hz2⟩ := info_parts infoB
    have hr := Lib.run_append_nil_zeros (P := Tryd.prog) w 43 3 43 5 i0 (.int .u8 0) .i64 .i64 Tryd.underlying43 Tryd.underlying3 hi hz0 n h0 (by rw [hz1]; omega) (by omega) (by rw [hz2]; omega)
    have hcap : n ≤ grownCap w n 0 5 := grownCap_ge _ _ _ _
    have hmax : grownCap w n 0 5 ≤ maxLen := grownCap_le_maxLen _ _ _ _ (by simp only [maxLen]; omega)
    have ho : Bytes w.heap.size (w.drew.alloc (.cells (Builtin.zeroCells (Value.int .u8 0).cells n ++ Builtin.zeroCells (Value.int .u8 0).cells (grownCap w n 0 5 - n)) 5)) (.slice (some ⟨w.heap.size, 0, none⟩) 0 (grownCap w n 0 5)) [] :=
      World.ownsRow_made (w.drew) _ _ (Nat.le_refl _) hmax (by rw [Array.size_append, size_zeroCells, size_zeroCells]; simp [Value.cells]; omega)
    have hb : Below w.heap.size w (w.drew.alloc (.cells (Builtin.zeroCells (Value.int .u8 0).cells n ++ Builtin.zeroCells (Value.int .u8 0).cells (grownCap w n 0 5 - n)) 5)) := (below_drewN (Below.refl _ _) 1).alloc (Nat.le_refl _) _
    generalize (w.drew.alloc (.cells (Builtin.zeroCells (Value.int .u8 0).cells n ++ Builtin.zeroCells (Value.int .u8 0).cells (grownCap w n 0 5 - n)) 5)) = w1 at *
    generalize grownCap w n 0 5 = cp at *
    have HR := Lib.hid hr
    have HO := Lib.hid ho
    have HB := Lib.hid hb
    have hn0 : (0 : Int) < n := by omega
    clear hr ho hb hi hz0 hz1 hz2
    go_enter Tryd.func67, Tryd.ntmps67
    go_wp2_with (refine Lib.wpList_append_run w rfl (.tmp 20) (.tmp 21) 43 3 rfl (.slice none 0 0) (.int .i64 n) rfl rfl _ _ HR.out ?_)
    go_ret
    exact ⟨_, rfl, HO.out, HB.out⟩
end Go.Proofs.YthehpafkaefohaaDoor
namespace Go.Proofs.YthehpafkaefohaaDoor
open Go.RowKit
theorem ext_below9 {base n size : Nat} {e : TypeId} {v v' : Value} {xs : List Value} {w0 w w' : World} (h : Ext w w' v v') (ho : w.ownsRow base e size v n xs) (hb : Below base w0 w) (hB : base ≤ w0.heap.size) : Below base w0 w' :=
  ⟨h.1.os.trans hb.os, h.1.tape.trans hb.tape, h.1.output.trans hb.output, Nat.le_trans hb.size h.1.size, fun k hk => by
    by_cases hlt : k < w.heap.size
    · refine (h.1.block k hlt ?_).trans (hb.block k hk)
      rcases ho.2 with ⟨rfl, _⟩ | ⟨g, cap, cur, rfl, hg, _⟩
      · intro e; cases e
      · intro e
        have : k = g := by simpa [Value.ownBlock] using e
        omega
    · have := hb.size
      omega⟩
set_option maxRecDepth 20000 in
set_option maxHeartbeats 1000000 in
theorem concat_any (b : Nat) (u v : Value) (xs ys : List UInt8) (w : World) (hu : RdB w u xs) (hv : RdB w v ys) (hb : w.heap[b]? = some (.cells #[u, v] 43)) (hl : xs.length + ys.length ≤ 100000000000) :
    Calls Tryd.prog 55 #[.slice (some ⟨b, 0, none⟩) 2 2] w fun e w' => ∃ z, e = .returned z ∧ Bytes w.heap.size w' z (xs ++ ys) ∧ Below w.heap.size w w' := by
  obtain ⟨A, c, rfl, hu2, hu3⟩ := hu.form
  obtain ⟨A', c', rfl, hv2, hv3⟩ := hv.form
  obtain ⟨nx, hnx⟩ : ∃ n, xs.length = n := ⟨_, rfl⟩
  obtain ⟨ny, hny⟩ : ∃ n, ys.length = n := ⟨_, rfl⟩
  have HNX := Lib.hid hnx
  have HNY := Lib.hid hny
  have HU := Lib.hid hu
  have HV := Lib.hid hv
  rw [hnx] at HU hb hl
  rw [hny] at HV hb hl
  have HBB := Lib.hid hb
  have d0 := blk_cell hb 0
  have d1 := blk_cell hb 1
  simp at d0 d1
  have HG := Lib.hid (grow_any (nx + ny) w hl)
  have hs0 : ((nx : Int) + (ny : Int)) = ((nx + ny : Nat) : Int) := by omega
  have HS := Lib.hid hs0
  clear hu hv hu2 hu3 hv2 hv3 hnx hny hb hs0
  go_enter Tryd.func55, Tryd.ntmps55
  go_wp2
  refine wp_loop_rounds 3 ?_
  rw [rounds_succ]
  go_wp2
  rw [rounds_succ]
  go_wp2
  rw [rounds_succ]
  go_wp2_with fail
  rw [HS.out]
  refine HG.out.mono ?_
  rintro e w2 ⟨z, rfl, ho, hbl⟩
  obtain ⟨Az, cz, rfl, _, _⟩ := ho.reads.form
  have HO := Lib.hid ho
  have HB := Lib.hid hbl
  have HBB2 := Lib.hid (blk_below hbl HBB.out)
  have HU2 := Lib.hid (HU.out.below hbl)
  have hs2 : w.heap.size ≤ w2.heap.size := hbl.size
  clear ho hbl d0 d1
  have d0 := blk_cell HBB2.out 0
  have d1 := blk_cell HBB2.out 1
  simp at d0 d1
  go_wp2
  refine wp_loop_rounds 3 ?_
  rw [rounds_succ]
  go_wp2_with (at_builtin; refine wpList_append_bytes rfl (.tmp 31) (.tmp 32) rfl w.heap.size _ _ [] xs rfl HO.out rfl HU2.out (by rw [HNX.out]; simp; omega) hs2 ?_; intro v1 w3 hown hext)
  obtain ⟨A1, c1, rfl, _, _⟩ := hown.reads.form
  have hb3 := ext_below9 hext HO.out HB.out (Nat.le_refl _)
  have HO3 := Lib.hid hown
  have HB3 := Lib.hid hb3
  have HBB3 := Lib.hid (blk_below hb3 HBB.out)
  have HV3 := Lib.hid (HV.out.below hb3)
  have hs3 : w.heap.size ≤ w3.heap.size := hb3.size
  clear hown hext hb3 d0 d1
  have d0 := blk_cell HBB3.out 0
  have d1 := blk_cell HBB3.out 1
  simp at d0 d1
  rw [rounds_succ]
  go_wp2_with (at_builtin; refine wpList_append_bytes rfl (.tmp 31) (.tmp 32) rfl w.heap.size _ _ ([] ++ xs) ys rfl HO3.out rfl HV3.out (by rw [HNY.out, List.nil_append, HNX.out]; omega) hs3 ?_; intro v2 w4 hown hext)
  obtain ⟨A2, c2, rfl, _, _⟩ := hown.reads.form
  have hb4 := ext_below9 hext HO3.out HB3.out (Nat.le_refl _)
  have HO4 := Lib.hid hown
  have HB4 := Lib.hid hb4
  clear hown hext hb4 d0 d1
  rw [rounds_succ]
  go_wp2
  go_ret
  exact ⟨_, rfl, by simpa using HO4.out, HB4.out⟩
end Go.Proofs.YthehpafkaefohaaDoor

/- Walks: Arm, List, Trim of a log that is over. Conditions: sizes a machine can have. -/
import Derived.Test.YthehpafkaefohaaGreatDoorCkLgH1
import Derived.Test.YthehpafkaefohaaGreatDoorCkM24
import Derived.Test.YthehpafkaefohaaGreatDoorCkM25
namespace Go.Proofs.YthehpafkaefohaaGreatDoor
open Go.RowKit
set_option maxRecDepth 20000 in
set_option maxHeartbeats 1000000 in
theorem arm_lit {w : World} {d : Nat} {st : DkSt} {v : Value} (h : DkAt w d st v) (hd : st.dark = false) (n : Int) (h0 : 0 ≤ n) :
    Calls Tryz.prog 25 #[.pointer (some ⟨d, 0, none⟩), .int .i64 n] w fun e w' => e = .returned (.tuple #[]) ∧ DkAt w' d { st with fuse := n } v ∧ ChgS (dkS d v) w w' := by
  have HL := lit_any h
  rw [show litE st = 0 by unfold litE; rw [if_neg (by simp [hd])]] at HL
  have HC := Lib.hid HL
  have f2 := blk_free h.blk 2
  have HD := Lib.hid (h.set_fuse n)
  have HCH := Lib.hid (((ChgS.refl (dkS d v) w)).set (b := d) (.inl (by simp [dkS])) 2 (.int .i64 n))
  obtain ⟨q0, q1, q2, q3, q4⟩ := h.cells
  have hm : max 0 n = n := by omega
  clear h hd HL
  go_enter Tryz.func25, Tryz.ntmps25
  go_wp2_with fail
  refine HC.out.mono ?_
  rintro e w2 ⟨rfl, hw⟩
  subst hw
  go_wp2
  exact bodyPost_end (v := .tuple #[]) (by simp [results]) rfl ⟨rfl, HD.out, HCH.out⟩
set_option maxRecDepth 20000 in
set_option maxHeartbeats 1000000 in
theorem trim_over {w : World} {d l : Nat} {S : List Nat} {dk : DkSt} {lg : LgSt} (h : LB w d l dk lg S) (ho : lg.over = true) (n : Int) : Calls Tryz.prog 15 #[.pointer (some ⟨l, 0, none⟩), .int .i64 n] w fun e w' => e = .returned (.tuple #[.slice none 0 0, .int .i64 17]) ∧ Below w.heap.size w w' := by
  obtain ⟨W1, hW1⟩ : ∃ x, w.alloc (.cells #[.pointer (some ⟨l, 0, none⟩)] 23) = x := ⟨_, rfl⟩
  have hb1 : Below w.heap.size w W1 := by rw [← hW1]; exact below1 w _
  have hU := up_any (h.below hb1)
  rw [show upE lg = 17 by unfold upE; rw [if_pos ho]] at hU
  have HU := Lib.hid hU
  have k1 : W1.heap[w.heap.size]? = some (.cells #[.pointer (some ⟨l, 0, none⟩)] 23) := by rw [← hW1]; exact alloc_at _ _
  have e1 := blk_cell k1 0
  simp at e1
  have HB1 := Lib.hid hb1
  clear hb1 k1 hU h ho
  go_enter Tryz.func15, Tryz.ntmps15
  go_upto_region 1 with fail
  clear hW1
  go_wp2_with fail
  refine HU.out.mono ?_
  rintro e w2 ⟨rfl, hw⟩
  subst hw
  go_wp2
  exact bodyPost_ret (v := .tuple #[.slice none 0 0, .int .i64 17]) (by simp [results]) rfl ⟨rfl, HB1.out⟩
theorem made_cellsS (n : Nat) : madeCells (Value.string ⟨#[]⟩).cells (n * 1) = (List.replicate n (Value.string ⟨#[]⟩)).toArray := by
  rw [Nat.mul_one]
  apply Array.ext
  · simp [madeCells]
  · intro i h1 h2
    simp [madeCells, Value.cells, Nat.mod_one]
theorem make_strs (w : World) (n : Nat) (hn : n ≤ 1000000) : Sem.run Tryz.prog (Instr.makeSlice 32 (.int .i64 n) (.int .i64 n)) w = .ok (.slice (some ⟨w.heap.size, 0, none⟩) n n) (w.alloc (.cells (List.replicate n (Value.string ⟨#[]⟩)).toArray 9)) := by
  obtain ⟨i0, hi, hz0, hz1, hz2⟩ := info_parts elS.info
  have := run_makeSlice (P := Tryz.prog) w 32 9 i0 _ elS.ut hi hz0 .i64 .i64 (n : Int) (n : Int) (by omega) (by omega) (by rw [hz1, Int.toNat_natCast]; omega) (by rw [hz2]; omega) (by omega)
  rw [this, hz1, Int.toNat_natCast, made_cellsS]
set_option maxRecDepth 20000 in
set_option maxHeartbeats 1000000 in
theorem list_any {w : World} {d : Nat} {st : DkSt} {v : Value} (h : DkAt w d st v) (hm : st.fs.length ≤ 1000000) :
    Calls Tryz.prog 27 #[.pointer (some ⟨d, 0, none⟩)] w fun e w' => ∃ z, e = .returned z ∧ RdT w' z (st.fs.map (·.nm)) ∧ Below w.heap.size w w' := by
  have HM := Lib.hid (made_any h)
  obtain ⟨A, c, rfl⟩ := h.own.form
  obtain ⟨N, hN⟩ : ∃ N, st.fs.length = N := ⟨_, rfl⟩
  have HN := Lib.hid hN
  have HH := Lib.hid h
  obtain ⟨q0, _, _, _, _⟩ := h.cells
  rw [hN] at q0 HH hm
  obtain ⟨R, hR⟩ : ∃ R, List.replicate N (Value.string ⟨#[]⟩) = R := ⟨_, rfl⟩
  have hmk := make_strs w N hm
  rw [hR] at hmk
  have HRL : Hid (R.length = N) := by show _ = _; rw [← hR]; simp
  obtain ⟨W1, hW1⟩ : ∃ x, w.alloc (.cells R.toArray 9) = x := ⟨_, rfl⟩
  rw [hW1] at hmk
  have hb1 : Below w.heap.size w W1 := by rw [← hW1]; exact below1 _ _
  have HK1 : Hid (W1.heap[w.heap.size]? = some (.cells R.toArray 9)) := by show _ = _; rw [← hW1]; exact alloc_at _ _
  have HB1 := Lib.hid hb1
  have q1 := cell_later hb1 q0
  clear h hN hR hW1 hb1
  go_enter Tryz.func27, Tryz.ntmps27
  go_wp2_with fail
  refine HM.out.mono ?_
  rintro e w2 ⟨rfl, hw⟩
  subst hw
  go_wp2
  clear hmk
  go_loopw [20] (fun i wr => ∃ (k : Nat) (cs : Array Value), i = .int .i64 k ∧ k ≤ N ∧ Hid (wr.heap[w.heap.size]? = some (.cells cs 9)) ∧ Hid (cs.size = N) ∧ Hid (∀ (j : Nat) (f : DF), j < k → st.fs[j]? = some f → cs[j]? = some (.string f.nm)) ∧ Hid (Below w.heap.size w wr)) (fun i _ => N - (intOf i).toNat)
  case atStart => exact ⟨0, _, rfl, Nat.zero_le _, HK1, Lib.hid (by simp [HRL.out]), Lib.hid (fun j f h => by omega), HB1⟩
  case round =>
    obtain ⟨k, cs, rfl, hk, HK, HS, HC, HB⟩ := hrel
    by_cases hlt : k < N
    · obtain ⟨f, hf⟩ : ∃ f, st.fs[k]? = some f := ⟨_, List.getElem?_eq_getElem (by rw [HN.out]; exact hlt)⟩
      obtain ⟨g, cg, u, hv, d0, d1, d2, hby, _⟩ := file_at (HH.out.below HB.out).own hf
      obtain ⟨Au, cu, rfl⟩ := bytes_form hby
      injection hv with hv1 hv2 hv3
      subst hv1
      have hkn : (k : Int) < N := by omega
      have HF := Lib.hid hf
      have hks : k < cs.size := by rw [HS.out]; exact hlt
      have t1 : wr.cell? ⟨w.heap.size, k, none⟩ = some cs[k] := by rw [blk_cell HK.out]; exact Array.getElem?_eq_getElem hks
      have t2 := blk_free HK.out k
      obtain ⟨y, hy⟩ : ∃ y, cs[k] = y := ⟨_, rfl⟩
      rw [hy] at t1
      obtain ⟨W2, hW2⟩ : ∃ x, wr.alloc (.cells #[.string f.nm, .slice Au f.bs.length cu, .int .i64 f.sf] 115) = x := ⟨_, rfl⟩
      have hb2 : Below wr.heap.size wr W2 := by rw [← hW2]; exact below1 _ _
      have t3 := cell_later hb2 t1
      have t4 := blk_free (blk_below hb2 HK.out) k
      have HK2 := Lib.hid (blk_below hb2 HK.out)
      have HB2 := Lib.hid (HB.out.trans (hb2.mono HB.out.size))
      have k2 : W2.heap[wr.heap.size]? = some (.cells #[.string f.nm, .slice Au f.bs.length cu, .int .i64 f.sf] 115) := by rw [← hW2]; exact alloc_at _ _
      have d4 := blk_cell k2 0
      simp at d4
      clear hv2 hv3 hf hy hks hby hb2 k2
      go_upto_region 7 with fail
      clear hW2
      go_wp2
      have hk9 := blk_set HK2.out k (.string f.nm)
      have hcs9 : ∀ (j : Nat) (f' : DF), j < k + 1 → st.fs[j]? = some f' → (cs.setIfInBounds k (.string f.nm))[j]? = some (.string f'.nm) := by
        intro j f' hj hf'
        rw [Array.getElem?_setIfInBounds]
        by_cases e : k = j
        · subst e
          have := HF.out
          rw [hf'] at this
          injection this with this
          subst this
          rw [if_pos rfl, if_pos (by rw [HS.out]; exact hlt)]
        · rw [if_neg e]
          exact HC.out j f' (by omega) hf'
      have hb9 := below_set HB2.out (Nat.le_refl w.heap.size) k (.string f.nm)
      exact ⟨⟨k + 1, _, by go_num, by omega, Lib.hid hk9, Lib.hid (by rw [Array.size_setIfInBounds]; exact HS.out), Lib.hid hcs9, Lib.hid hb9⟩, by simp [intOf]; omega⟩
    · obtain rfl : k = N := by omega
      go_wp2
      refine bodyPost_ret (v := .slice (some ⟨w.heap.size, 0, none⟩) k k) (by simp [results]) rfl ⟨_, rfl, ?_, HB.out⟩
      refine .inr ⟨w.heap.size, 0, k, ?_, ?_, ?_, fun j s hj => ?_⟩
      · rw [List.length_map, HN.out]
      · rw [List.length_map, HN.out]; exact Nat.le_refl _
      · simp only [maxLen]; omega
      · rw [List.getElem?_map] at hj
        cases hf : st.fs[j]? with
        | none => rw [hf] at hj; simp at hj
        | some f =>
          rw [hf] at hj
          have hj : f.nm = s := by simpa using hj
          subst hj
          have hjk : j < k := by have := (List.getElem?_eq_some_iff.1 hf).1; rw [HN.out] at this; exact this
          rw [blk_cell HK.out, Nat.zero_add]
          exact HC.out j f hjk hf
end Go.Proofs.YthehpafkaefohaaGreatDoor
namespace Go.Proofs.YthehpafkaefohaaGreatDoor
open Go.RowKit
structure LE (k : Nat) (dk : DkSt) (lg : LgSt) : Prop where
  ok : DkOk dk
  fuse : dk.fuse ≤ 1000
  lo : 0 ≤ lg.last
  hi : lg.last ≤ k
  many : lg.firsts.length ≤ k
theorem LE.up {k : Nat} {dk : DkSt} {lg : LgSt} (h : LE k dk lg) : LE (k + 1) dk lg := ⟨h.ok, h.fuse, h.lo, by have := h.hi; omega, by have := h.many; omega⟩
theorem lPut_facts (dk : DkSt) (lg : LgSt) (ok : DkOk dk) (n : Int) (body : List UInt8) : (lPut dk lg n body).1.fuse ≤ max dk.fuse 0 ∧ (lPut dk lg n body).2.1.firsts = lg.firsts := by
  have h := (dAppend_keep dk ok (fileL lg) (frameB body)).2.2
  unfold lPut
  simp only
  split <;> exact ⟨h, rfl⟩
theorem lNext_firsts (dk : DkSt) (lg : LgSt) (n : Int) : (lNext dk lg n).2.1.firsts.length ≤ lg.firsts.length + 1 := by
  unfold lNext
  simp only
  split
  · simp
  · split
    · simp
    · simp
theorem LE.write {k : Nat} {dk : DkSt} {lg : LgSt} (h : LE k dk lg) (ho : lg.over = false) {recs : List (List UInt8)} (hb : batchE (lg.last + 1) recs = 0) :
    LE (k + 1) (lWrite dk lg recs).1 (lWrite dk lg recs).2.1 ∧ ((lWrite dk lg recs).2.2.2 = 0 ↔ (lWrite dk lg recs).2.1.over = false) := by
  obtain ⟨a, b⟩ := write_end h.ok ho hb
  have h1 := h.lo
  have h2 := h.hi
  have h3 := h.many
  have h4 := h.fuse
  have key : (lWrite dk lg recs).1.fuse ≤ 1000 ∧ (lWrite dk lg recs).2.1.firsts.length ≤ k + 1 := by
    unfold lWrite
    rw [if_neg (by simp [ho]), if_neg (by simp [hb])]
    have hk := lNext_keep dk lg h.ok (lg.last + 1)
    have hf := lNext_firsts dk lg (lg.last + 1)
    have he := (next_end h.ok ho (lg.last + 1)).1
    split
    · simp only
      split
      · exact ⟨by have := hk.2.2; simp only; omega, by simp only; omega⟩
      · have hp := lPut_facts (lNext dk lg (lg.last + 1)).1 (lNext dk lg (lg.last + 1)).2.1 he (lg.last + 1) (batchB (lg.last + 1).toNat recs)
        exact ⟨by have := hp.1; have := hk.2.2; omega, by rw [hp.2]; omega⟩
    · have hp := lPut_facts dk lg h.ok (lg.last + 1) (batchB (lg.last + 1).toNat recs)
      exact ⟨by have := hp.1; omega, by rw [hp.2]; omega⟩
  exact ⟨⟨a, key.1, by have := b.lo; omega, by have := b.hi; omega, key.2⟩, b.over⟩
theorem LE.sync {k : Nat} {dk : DkSt} {lg : LgSt} (h : LE k dk lg) (ho : lg.over = false) : LE k (lSync dk lg).1 (lSync dk lg).2.1 ∧ ((lSync dk lg).2.2 = 0 ↔ (lSync dk lg).2.1.over = false) := by
  obtain ⟨a, b, c⟩ := sync_end h.ok ho
  have h1 := h.lo
  have h2 := h.hi
  have h3 := h.many
  have h4 := h.fuse
  have hk := (syncFile_keep dk lg h.ok.fuse).2.2
  have key : (lSync dk lg).1.fuse ≤ 1000 ∧ (lSync dk lg).2.1.firsts = lg.firsts := by
    unfold lSync
    rw [if_neg (by simp [ho])]
    simp only
    split <;> exact ⟨by simp only; omega, rfl⟩
  exact ⟨⟨a, key.1, by rw [c]; exact h1, by rw [c]; exact h2, by rw [key.2]; exact h3⟩, b.over⟩
theorem batch_small {n : Int} (h0 : 1 ≤ n) (h1 : n ≤ 1152921504606846976) {l : List (List UInt8)} (hne : l ≠ []) (hs : smallV l = true) : batchE n l = 0 := by
  obtain ⟨s1, s2⟩ := (smallV_iff l).1 hs
  exact (batch_fits h0 h1 ⟨List.length_pos_iff.2 hne, s1, s2⟩).1
/-- a row of batches -/
def RdLL (w : World) (v : Value) (bs : List (List (List UInt8))) : Prop := (∃ A c, v = .slice A 0 c ∧ c ≤ maxLen ∧ bs = []) ∨
  ∃ b o c, v = .slice (some ⟨b, o, none⟩) bs.length c ∧ bs.length ≤ c ∧ c ≤ maxLen ∧ b < w.heap.size ∧ ∀ (j : Nat) (x : List (List UInt8)), bs[j]? = some x → ∃ u, w.cell? ⟨b, o + j, none⟩ = some u ∧ RdL w u x
theorem RdLL.form {w : World} {v : Value} {bs : List (List (List UInt8))} (h : RdLL w v bs) : ∃ A c, v = .slice A bs.length c ∧ bs.length ≤ c ∧ c ≤ maxLen := by
  rcases h with ⟨A, c, rfl, h1, rfl⟩ | ⟨b, o, c, rfl, h1, h2, _⟩
  · exact ⟨A, c, rfl, Nat.zero_le _, h1⟩
  · exact ⟨_, c, rfl, h1, h2⟩
theorem RdLL.at {w : World} {A : Option Addr} {c n : Nat} {bs : List (List (List UInt8))} (h : RdLL w (.slice A n c) bs) {j : Nat} {x : List (List UInt8)} (hj : bs[j]? = some x) : ∃ b o u, A = some ⟨b, o, none⟩ ∧ w.cell? ⟨b, o + j, none⟩ = some u ∧ RdL w u x := by
  rcases h with ⟨_, _, _, _, rfl⟩ | ⟨b, o, c, hv, _, _, _, h4⟩
  · simp at hj
  · obtain ⟨u, hu, hr⟩ := h4 j x hj
    injection hv with hv
    exact ⟨b, o, u, hv, hu, hr⟩
theorem AX.arm {w w1 w2 : World} {d l : Nat} {dk dk' : DkSt} {lg : LgSt} {S : List Nat} (h : AX w w1 d l dk lg S) (hd : ∀ v, DkAt w1 d dk v → DkAt w2 d dk' v ∧ ChgS (dkS d v) w1 w2) : AX w w2 d l dk' lg S := by
  obtain ⟨v, u, h1, h2, rfl⟩ := h.lb
  obtain ⟨k1, k2⟩ := hd v h1
  refine ⟨h.gk, ⟨v, u, k1, h2.keepD h1 k2, rfl⟩, h.be.trans (k2.below (fun x hx => h.ge x (List.mem_append_left _ hx)) h.be.size), h.ge⟩
theorem RdT.below {w w' : World} {v : Value} {xs : List ByteArray} (h : RdT w v xs) (hb : Below w.heap.size w w') : RdT w' v xs := by
  rcases h with h | ⟨b, o, c, rfl, h1, h2, h3⟩
  · exact .inl h
  · exact .inr ⟨b, o, c, rfl, h1, h2, fun j s hj => cell_later hb (h3 j s hj)⟩
theorem AX.used {w w1 : World} {d l : Nat} {dk : DkSt} {lg : LgSt} {S : List Nat} (h : AX w w1 d l dk lg S) (ok : DkOk dk) : Calls Tryz.prog 26 #[.pointer (some ⟨d, 0, none⟩)] w1 fun e w' => e = .returned (.int .i64 (usedF dk.fs)) ∧ Below w1.heap.size w1 w' := by
  obtain ⟨v, u, h1, _, _⟩ := h.lb
  exact used_any h1 (by have := ok.used; have := ok.room; omega) (by have := ok.many; omega)
def namesF (dk : DkSt) : List ByteArray := dk.fs.map (·.nm)
theorem AX.list {w w1 : World} {d l : Nat} {dk : DkSt} {lg : LgSt} {S : List Nat} (h : AX w w1 d l dk lg S) (ok : DkOk dk) : Calls Tryz.prog 27 #[.pointer (some ⟨d, 0, none⟩)] w1 fun e w' => ∃ z, e = .returned z ∧ RdT w' z (namesF dk) ∧ Below w1.heap.size w1 w' := by
  obtain ⟨v, u, h1, _, _⟩ := h.lb
  exact list_any h1 (by have := ok.many; omega)
theorem AX.files {w w1 : World} {d l : Nat} {dk : DkSt} {lg : LgSt} {S : List Nat} (h : AX w w1 d l dk lg S) (hn : lg.firsts.length ≤ 1000000) : Calls Tryz.prog 19 #[.pointer (some ⟨l, 0, none⟩)] w1 fun e w' => ∃ z, e = .returned z ∧ RdT w' z (lFiles lg) ∧ Below w1.heap.size w1 w' :=
  (files_any h.lb h.gb hn).mono fun _ _ ⟨v, h1, h2, h3⟩ => ⟨v, h1, rdT_own h2, h3⟩
set_option maxRecDepth 20000 in
set_option maxHeartbeats 2000000 in
theorem write_ov {w : World} {d l : Nat} {S : List Nat} {dk : DkSt} {lg : LgSt} (h : LB w d l dk lg S) (ho : lg.over = true) (v : Value) : Calls Tryz.prog 14 #[.pointer (some ⟨l, 0, none⟩), v] w fun e w' => e = .returned (.tuple #[.int .i64 0, .int .i64 17]) ∧ Below w.heap.size w w' := by
  obtain ⟨W1, hW1⟩ : ∃ x, w.alloc (.cells #[.pointer (some ⟨l, 0, none⟩)] 23) = x := ⟨_, rfl⟩
  have hb1 : Below w.heap.size w W1 := by rw [← hW1]; exact below1 w _
  have hU := up_any (h.below hb1)
  rw [show upE lg = 17 by unfold upE; rw [if_pos ho]] at hU
  have HU := Lib.hid hU
  have HP := Lib.hid hb1
  have k1 : W1.heap[w.heap.size]? = some (.cells #[.pointer (some ⟨l, 0, none⟩)] 23) := by rw [← hW1]; exact alloc_at _ _
  have e1 := blk_cell k1 0
  simp at e1
  clear h ho hb1 hU k1
  go_enter Tryz.func14, Tryz.ntmps14
  go_upto_region 1 with fail
  clear hW1
  go_wp2_with fail
  refine HU.out.mono ?_
  rintro e w2 ⟨rfl, hw⟩
  subst hw
  go_wp2
  exact bodyPost_ret (v := .tuple #[.int .i64 0, .int .i64 17]) (by simp [results]) rfl ⟨rfl, HP.out⟩
set_option maxRecDepth 20000 in
set_option maxHeartbeats 2000000 in
theorem logsync_ov {w : World} {d l : Nat} {S : List Nat} {dk : DkSt} {lg : LgSt} (h : LB w d l dk lg S) (ho : lg.over = true) : Calls Tryz.prog 16 #[.pointer (some ⟨l, 0, none⟩)] w fun e w' => e = .returned (.int .i64 17) ∧ Below w.heap.size w w' := by
  obtain ⟨W1, hW1⟩ : ∃ x, w.alloc (.cells #[.pointer (some ⟨l, 0, none⟩)] 23) = x := ⟨_, rfl⟩
  have hb1 : Below w.heap.size w W1 := by rw [← hW1]; exact below1 w _
  have hU := up_any (h.below hb1)
  rw [show upE lg = 17 by unfold upE; rw [if_pos ho]] at hU
  have HU := Lib.hid hU
  have HP := Lib.hid hb1
  have k1 : W1.heap[w.heap.size]? = some (.cells #[.pointer (some ⟨l, 0, none⟩)] 23) := by rw [← hW1]; exact alloc_at _ _
  have e1 := blk_cell k1 0
  simp at e1
  clear h ho hb1 hU k1
  go_enter Tryz.func16, Tryz.ntmps16
  go_upto_region 1 with fail
  clear hW1
  go_wp2_with fail
  refine HU.out.mono ?_
  rintro e w2 ⟨rfl, hw⟩
  subst hw
  go_wp2
  exact bodyPost_ret (v := .int .i64 17) (by simp [results]) rfl ⟨rfl, HP.out⟩
end Go.Proofs.YthehpafkaefohaaGreatDoor

/- The walk of bytes.GetBlob. Conditions: sizes a machine can have. -/
import Derived.Test.YtckooioikcenmaaDoorBytesW4
import Derived.Deep.RegionHeld
namespace Go.Proofs.YtckooioikcenmaaDoor
open Go.RowKit
/-- what GetBlob answers, by what GetUint answers -/
def gB (ys : List UInt8) (n : Nat) (m e most : Int) : List UInt8 × Int × Int :=
  if e ≠ 0 then ([], 0, e)
  else if most < 0 ∨ most < n then ([], 0, 3)
  else if (ys.length : Int) - m < n then ([], 0, 11)
  else ((ys.drop m.toNat).take n, m + n, 0)
def getB (ys : List UInt8) (a most : Int) : List UInt8 × Int × Int := gB ys (getU ys a).1 (getU ys a).2.1 (getU ys a).2.2 most
def GetBPost (ys : List UInt8) (a most : Int) (w : World) (e : Ending) (w' : World) : Prop :=
  ∃ v, e = .returned (.tuple #[v, .int .i64 (getB ys a most).2.1, .int .i64 (getB ys a most).2.2]) ∧ Bytes w.heap.size w' v (getB ys a most).1 ∧ Below w.heap.size w w'
theorem made_own {w w' : World} {g n : Nat} {ys : List UInt8} (hg : w'.heap[g]? = some (.cells (splice (List.replicate n (.int .u8 0)) 0 (Lib.byteCells ys)).toArray 5)) (hn : ys.length = n) (hm : n ≤ maxLen) (hb : w.heap.size ≤ g) :
    Bytes w.heap.size w' (.slice (some ⟨g, 0, none⟩) n n) ys := by
  subst hn
  have e : splice (List.replicate ys.length (.int .u8 0)) 0 (Lib.byteCells ys) = Lib.byteCells ys := by
    simp [splice, Lib.byteCells]
  rw [e] at hg
  refine ⟨by simp [Lib.byteCells], .inr ⟨g, ys.length, _, rfl, hb, hg, Nat.le_refl _, hm, by simp [Lib.byteCells], ?_⟩⟩
  simp [Lib.byteCells, List.take_of_length_le]
theorem made_cells (n : Nat) : madeCells (Value.int .u8 0).cells (n * 1) = (List.replicate n (Value.int .u8 0)).toArray := by
  rw [Nat.mul_one]
  apply Array.ext
  · simp [madeCells]
  · intro i h1 h2
    simp [madeCells, Value.cells, Nat.mod_one]
theorem infoB1 : (Tryd.prog.info? 5).map (·.size) = some 1 := by kernel_rfl
/-- the bytes that are copied are the source's -/
def SrcOk (w : World) (sp : Option Addr) (cs : List UInt8) : Prop :=
  0 < (Lib.byteCells cs).length → ∃ ad, sp = some ad ∧ ∀ j v, (Lib.byteCells cs)[j]? = some v → w.cell? (ad.add j) = some v
theorem SrcOk.use {w : World} {sp : Option Addr} {cs : List UInt8} (h : SrcOk w sp cs) (g : Addr) : 0 < (Lib.byteCells cs).length → some g = some g ∧ ∃ ad, sp = some ad ∧ ∀ j v, (Lib.byteCells cs)[j]? = some v → w.cell? (ad.add j) = some v :=
  fun h0 => ⟨rfl, h h0⟩
theorem w64 (n : Int) (h : -9223372036854775808 ≤ n ∧ n ≤ 9223372036854775807) : wrap64 n = n := by unfold wrap64; omega
set_option maxRecDepth 20000 in
set_option maxHeartbeats 1000000 in
theorem getBlob_nil (w : World) (ys cs : List UInt8) (a most : Int) (n k : Nat) (R : List Value) (_hz : n = 0) (hk : k = 0)
    (HG : Hid (Calls Tryd.prog 50 #[.slice none 0 0, .int .i64 a] w fun e w' => e = .returned (.tuple #[.int .u64 n, .int .i64 k, .int .i64 0]) ∧ w = w'))
    (hm5 : 0 ≤ most) (hm6 : (n : Int) ≤ most) (hm7 : most ≤ 9223372036854775807) (r1 : n < 18446744073709551616) (hn : n ≤ 140737488355328)
    (hmk : Sem.run Tryd.prog (Instr.makeSlice 35 (.int .u64 n) (.int .u64 n)) w = .ok (.slice (some ⟨w.heap.size, 0, none⟩) n n) (w.alloc (.cells R.toArray 5)))
    (HR : Hid (R = List.replicate n (.int .u8 0))) (HL' : Hid (cs.length = n)) (HD : Hid (getB ys a most = (cs, (k : Int) + n, 0)))
    (HR3 : Hid (0 + (Lib.byteCells cs).length ≤ R.length))
    (HM : Hid ((Lib.byteCells cs).length = Nat.min 0 n))
    (HP : SrcOk (w.alloc (.cells R.toArray 5)) (none) cs) :
    Calls Tryd.prog 49 #[.slice none 0 0, .int .i64 a, .int .i64 most] w (GetBPost ys a most w) := by
  have HL := Lib.hid (show (Lib.byteCells cs).length = n by rw [Lib.byteCells_length]; exact HL'.out)
  subst hk
  simp only [Int.natCast_zero] at HG HD
  have hz1 : ¬ (0 : Int) < n := by omega
  clear _hz
  go_enter Tryd.func49, Tryd.ntmps49
  go_wp2_with fail
  refine HG.out.mono ?_
  rintro e w' ⟨rfl, rfl⟩
  go_wp2_with (with_reducible (refine wpList_copy_splice rfl (.tmp 50) (.tmp 53) 35 35 rfl 5 Tryd.underlying35 infoB1 (some ⟨w.heap.size, 0, none⟩) none n n 0 0 rfl rfl w.heap.size 0 R 5 (alloc_at _ _) (Lib.byteCells cs) HM.out (HP.use _) HR3.out (Lib.byteCells_one _) w.heap.size w ((Below.refl _ _).alloc (Nat.le_refl _) _) (Nat.le_refl _) ?_); intro w' hg' hb')
  go_ret3
  exact ⟨.slice (some ⟨w.heap.size, 0, none⟩) n n, by rw [HD.out]; simp [HL.out, w64 (n : Int) (by omega)], by rw [HD.out]; exact made_own (by rw [← HR.out]; exact hg'.out) HL'.out (by simp only [maxLen]; omega) (Nat.le_refl _), hb'⟩
set_option maxRecDepth 20000 in
set_option maxHeartbeats 1000000 in
theorem getBlob_full (w : World) (ys cs : List UInt8) (a most : Int) (n k : Nat) (R : List Value) (b o : Nat) (_hz : Hid (n = 0)) (hz2 : ¬ (0 : Int) < n) (hc : k ≤ 9223372036854775807)
    (HG : Hid (Calls Tryd.prog 50 #[.slice (some ⟨b, o, none⟩) k k, .int .i64 a] w fun e w' => e = .returned (.tuple #[.int .u64 n, .int .i64 k, .int .i64 0]) ∧ w = w'))
    (hm5 : 0 ≤ most) (hm6 : (n : Int) ≤ most) (hm7 : most ≤ 9223372036854775807) (r1 : n < 18446744073709551616) (hn : n ≤ 140737488355328)
    (hmk : Sem.run Tryd.prog (Instr.makeSlice 35 (.int .u64 n) (.int .u64 n)) w = .ok (.slice (some ⟨w.heap.size, 0, none⟩) n n) (w.alloc (.cells R.toArray 5)))
    (HR : Hid (R = List.replicate n (.int .u8 0))) (HL' : Hid (cs.length = n)) (HD : Hid (getB ys a most = (cs, (k : Int) + n, 0)))
    (HR3 : Hid (0 + (Lib.byteCells cs).length ≤ R.length))
    (HM : Hid ((Lib.byteCells cs).length = Nat.min 0 n))
    (HP : SrcOk (w.alloc (.cells R.toArray 5)) (some ⟨b, o, none⟩) cs) :
    Calls Tryd.prog 49 #[.slice (some ⟨b, o, none⟩) k k, .int .i64 a, .int .i64 most] w (GetBPost ys a most w) := by
  have HL := Lib.hid (show (Lib.byteCells cs).length = n by rw [Lib.byteCells_length]; exact HL'.out)
  go_enter Tryd.func49, Tryd.ntmps49
  go_wp2_with fail
  refine HG.out.mono ?_
  rintro e w' ⟨rfl, rfl⟩
  go_wp2_with (with_reducible (refine wpList_copy_splice rfl (.tmp 50) (.tmp 53) 35 35 rfl 5 Tryd.underlying35 infoB1 (some ⟨w.heap.size, 0, none⟩) (some ⟨b, o, none⟩) n n 0 0 rfl rfl w.heap.size 0 R 5 (alloc_at _ _) (Lib.byteCells cs) HM.out (HP.use _) HR3.out (Lib.byteCells_one _) w.heap.size w ((Below.refl _ _).alloc (Nat.le_refl _) _) (Nat.le_refl _) ?_); intro w' hg' hb')
  go_ret3
  exact ⟨.slice (some ⟨w.heap.size, 0, none⟩) n n, by rw [HD.out]; simp [HL.out, w64 ((k : Int) + n) (by omega)], by rw [HD.out]; exact made_own (by rw [← HR.out]; exact hg'.out) HL'.out (by simp only [maxLen]; omega) (Nat.le_refl _), hb'⟩
set_option maxRecDepth 20000 in
set_option maxHeartbeats 1000000 in
theorem getBlob_part (w : World) (ys cs : List UInt8) (a most : Int) (n k : Nat) (R : List Value) (b o c : Nat) (hk : k < c) (hy : ys.length ≤ c) (hc : c ≤ 9223372036854775807) (hkn : k + n ≤ ys.length)
    (HG : Hid (Calls Tryd.prog 50 #[.slice (some ⟨b, o, none⟩) ys.length c, .int .i64 a] w fun e w' => e = .returned (.tuple #[.int .u64 n, .int .i64 k, .int .i64 0]) ∧ w = w'))
    (hm5 : 0 ≤ most) (hm6 : (n : Int) ≤ most) (hm7 : most ≤ 9223372036854775807) (r1 : n < 18446744073709551616) (hn : n ≤ 140737488355328)
    (hmk : Sem.run Tryd.prog (Instr.makeSlice 35 (.int .u64 n) (.int .u64 n)) w = .ok (.slice (some ⟨w.heap.size, 0, none⟩) n n) (w.alloc (.cells R.toArray 5)))
    (HR : Hid (R = List.replicate n (.int .u8 0))) (HL' : Hid (cs.length = n)) (HD : Hid (getB ys a most = (cs, (k : Int) + n, 0)))
    (HR3 : Hid (0 + (Lib.byteCells cs).length ≤ R.length))
    (HM : Hid ((Lib.byteCells cs).length = Nat.min (ys.length - k) n))
    (HP : SrcOk (w.alloc (.cells R.toArray 5)) (some ⟨b, o + k, none⟩) cs) :
    Calls Tryd.prog 49 #[.slice (some ⟨b, o, none⟩) ys.length c, .int .i64 a, .int .i64 most] w (GetBPost ys a most w) := by
  have HL := Lib.hid (show (Lib.byteCells cs).length = n by rw [Lib.byteCells_length]; exact HL'.out)
  go_enter Tryd.func49, Tryd.ntmps49
  go_wp2_with fail
  refine HG.out.mono ?_
  rintro e w' ⟨rfl, rfl⟩
  go_wp2_with (with_reducible (refine wpList_copy_splice rfl (.tmp 50) (.tmp 53) 35 35 rfl 5 Tryd.underlying35 infoB1 (some ⟨w.heap.size, 0, none⟩) (some ⟨b, o + k, none⟩) n n (ys.length - k) (c - k) rfl rfl w.heap.size 0 R 5 (alloc_at _ _) (Lib.byteCells cs) HM.out (HP.use _) HR3.out (Lib.byteCells_one _) w.heap.size w ((Below.refl _ _).alloc (Nat.le_refl _) _) (Nat.le_refl _) ?_); intro w' hg' hb')
  go_ret3
  exact ⟨.slice (some ⟨w.heap.size, 0, none⟩) n n, by rw [HD.out]; simp [HL.out, w64 ((k : Int) + n) (by omega)], by rw [HD.out]; exact made_own (by rw [← HR.out]; exact hg'.out) HL'.out (by simp only [maxLen]; omega) (Nat.le_refl _), hb'⟩
set_option maxRecDepth 20000 in
set_option maxHeartbeats 1000000 in
theorem getBlob_any (v : Value) (ys : List UInt8) (a most : Int) (w : World) (hr : RdB w v ys) (h64 : a ≤ 9223372036854775807) (hl : ys.length ≤ 140737488355328) (hm0 : -9223372036854775808 ≤ most) (hm1 : most ≤ 9223372036854775807) :
    Calls Tryd.prog 49 #[v, .int .i64 a, .int .i64 most] w (GetBPost ys a most w) := by
  have hG := getUint_any v ys a w hr h64
  obtain ⟨r1, r2, r3⟩ := getU_range ys a hl
  unfold GetPost at hG
  have hd := Lib.hid (show getB ys a most = gB ys (getU ys a).1 (getU ys a).2.1 (getU ys a).2.2 most from rfl)
  generalize (getU ys a).1 = n at *
  generalize (getU ys a).2.1 = m at *
  generalize (getU ys a).2.2 = e at *
  have HG := Lib.hid hG
  clear hG
  have hr' := Lib.hid hr
  obtain ⟨A, c, rfl, hc, hm⟩ := hr.form
  clear hr
  have bad : ∀ e1 : Int, Hid (getB ys a most = ([], 0, e1)) → ∀ w', w = w' → GetBPost ys a most w (.returned (.tuple #[.slice none 0 0, .int .i64 0, .int .i64 e1])) w' := by
    rintro e1 h w' rfl
    exact ⟨_, by rw [h.out], by rw [h.out]; exact Bytes.nil _ _, Below.refl _ _⟩
  have BAD := Lib.hid bad
  clear bad
  by_cases he : e = 0
  · subst he
    by_cases hm2 : most < 0 ∨ most < n
    · have HD := Lib.hid (hd.out.trans (by unfold gB; rw [if_neg (by simp), if_pos hm2]))
      by_cases hm3 : most < 0
      · clear hm2
        go_enter Tryd.func49, Tryd.ntmps49
        go_wp2_with fail
        refine HG.out.mono ?_
        rintro e w' ⟨rfl, rfl⟩
        go_wp2
        go_ret3
        exact BAD.out 3 HD _ rfl
      · have hm4 : most < n := by omega
        clear hm2
        go_enter Tryd.func49, Tryd.ntmps49
        go_wp2_with fail
        refine HG.out.mono ?_
        rintro e w' ⟨rfl, rfl⟩
        go_wp2
        go_ret3
        exact BAD.out 3 HD _ rfl
    · by_cases hm4 : (ys.length : Int) - m < n
      · have HD := Lib.hid (hd.out.trans (by unfold gB; rw [if_neg (by simp), if_neg hm2, if_pos hm4]))
        have hm5 : ¬ most < 0 := by omega
        have hm6 : ¬ most < n := by omega
        clear hm2
        go_enter Tryd.func49, Tryd.ntmps49
        go_wp2_with fail
        refine HG.out.mono ?_
        rintro e w' ⟨rfl, rfl⟩
        go_wp2
        go_ret3
        exact BAD.out 11 HD _ rfl
      · have HD := Lib.hid (hd.out.trans (by unfold gB; rw [if_neg (by simp), if_neg hm2, if_neg hm4]))
        have hm5 : ¬ most < 0 := by omega
        have hm6 : ¬ most < n := by omega
        clear hm2
        obtain ⟨i0, hi, hz0, hz1, hz2⟩ := info_parts infoB
        have hmk := run_make (P := Tryd.prog) w 35 5 i0 (.int .u8 0) Tryd.underlying35 hi hz0 .u64 .u64 n n (by omega) (by omega) (by rw [hz2]; omega) (by omega)
        have e1 : madeCells (Value.int .u8 0).cells ((n : Int).toNat * i0.size) = (List.replicate n (Value.int .u8 0)).toArray := by
          rw [hz1, Int.toNat_natCast]; exact made_cells n
        rw [e1, Int.toNat_natCast] at hmk
        clear e1 hi hz0 hz1 hz2
        obtain ⟨R, hR⟩ : ∃ R, R = List.replicate n (Value.int .u8 0) := ⟨_, rfl⟩
        rw [← hR] at hmk
        have HR := Lib.hid hR
        have HR2 : Hid (∀ cs : List UInt8, cs.length = n → 0 + (Lib.byteCells cs).length ≤ R.length) := fun cs h => by rw [hR, Lib.byteCells_length]; simp [h]
        clear hR
        obtain ⟨k, rfl⟩ := Int.eq_ofNat_of_zero_le r2
        rw [Int.toNat_natCast] at HD
        have hl1 : ((ys.drop k).take n).length = n := by rw [List.length_take, List.length_drop]; omega
        have HS : Hid (∀ b o, A = some ⟨b, o, none⟩ → ∀ j u, (Lib.byteCells ((ys.drop k).take n))[j]? = some u → w.cell? (((⟨b, o, none⟩ : Addr).add k).add j) = some u) := by
          intro b o hA j u hj
          obtain ⟨x, hx, rfl⟩ := cell_get _ j u hj
          rcases hr'.out with ⟨h1, h2⟩ | ⟨b', o', c', h1, _, _, _, h4⟩
          · injection h1 with h1; rw [hA] at h1; cases h1
          · injection h1 with h1; rw [hA] at h1; injection h1 with h1; injection h1 with h1 h2
            subst h1; subst h2
            rw [addr_add, addr_add, Nat.add_assoc]
            refine h4 (k + j) x ?_
            rw [List.getElem?_take] at hx
            split at hx
            · rw [List.getElem?_drop] at hx; exact hx
            · cases hx
        generalize (ys.drop k).take n = cs at *
        have HL' := Lib.hid hl1
        have HL := Lib.hid (show (Lib.byteCells cs).length = n by rw [Lib.byteCells_length]; exact hl1)
        have HR3 := Lib.hid (HR2.out cs hl1)
        clear hl1 HR2
        rcases A with _ | ⟨b, o, sp⟩
        · have h0 : ys = [] := by
            rcases hr'.out with ⟨_, h2⟩ | ⟨_, _, _, h1, _⟩
            · exact h2
            · injection h1 with h1; cases h1
          subst h0
          have hc0 : c = 0 := by
            rcases hr'.out with ⟨h1, _⟩ | ⟨_, _, _, h1, _⟩
            · injection h1
            · injection h1 with h1; cases h1
          subst hc0
          have hk0 : k = 0 := by simp at r3; exact r3
          have hn0 : n = 0 := by simp at hm4; omega
          exact getBlob_nil w [] cs a most n k R hn0 hk0 HG (by omega) (by omega) hm1 r1 (by omega) hmk HR HL' HD HR3
            (by show _ = _; rw [HL.out, hn0]; rfl) (fun h => by rw [HL.out] at h; omega)
        · obtain rfl : sp = none := by
            rcases hr'.out with ⟨h1, _⟩ | ⟨_, _, _, h1, _⟩
            · injection h1 with h1; cases h1
            · injection h1 with h1; injection h1 with h1; injection h1
          have HS' := Lib.hid (HS.out b o rfl)
          clear HS
          have HM : Hid ((Lib.byteCells cs).length = Nat.min (ys.length - k) n) := by
            show _ = _
            rw [HL.out]; simp only [Nat.min_def]; split <;> omega
          have hcc : c ≤ 9223372036854775807 := by
            have := hm
            simp only [maxLen] at this; omega
          by_cases hkc : k = c
          · have hyc : ys.length = k := by omega
            have hn0 : n = 0 := by omega
            have e2 : (Value.slice (some ⟨b, o, none⟩) ys.length c) = .slice (some ⟨b, o, none⟩) k k := by rw [hyc, ← hkc]
            rw [e2] at HG ⊢
            exact getBlob_full w ys cs a most n k R b o hn0 (by omega) (by omega) HG (by omega) (by omega) hm1 r1 (by omega) hmk HR HL' HD HR3
              (by show _ = _; rw [HL.out, hn0]; rfl) (fun h => by rw [HL.out] at h; omega)
          · exact getBlob_part w ys cs a most n k R b o c (by omega) (by omega) hcc (by omega) HG (by omega) (by omega) hm1 r1 (by omega) hmk HR HL' HD HR3 HM
              (fun _ => ⟨_, rfl, fun j v hj => by
                have h9 := HS'.out j v hj
                rw [addr_add] at h9
                exact (World.cell?_alloc_some _ _ _ (by rw [h9]; rfl)).trans h9⟩)
  · have HD := Lib.hid (hd.out.trans (by unfold gB; rw [if_pos he]))
    go_enter Tryd.func49, Tryd.ntmps49
    go_wp2_with fail
    refine HG.out.mono ?_
    rintro e w' ⟨rfl, rfl⟩
    go_wp2
    go_ret3
    exact BAD.out _ HD _ rfl
end Go.Proofs.YtckooioikcenmaaDoor

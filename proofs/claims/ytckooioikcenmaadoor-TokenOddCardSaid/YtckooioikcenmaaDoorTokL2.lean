/- TokenOdd: the law's walk. Conditions: the library's variables read as they are laid. -/
import Derived.Test.YtckooioikcenmaaDoorTokW7
import Derived.KernelRfl
namespace Go.Proofs.YtckooioikcenmaaDoor
open Go.RowKit
attribute [local go_sem] frozen?_alloc_cells World.cell?_alloc_some
/-- the six ways to spoil a text -/
def odd (f m : ByteArray) : Nat → ByteArray
  | 0 => ⟨#[48]⟩ ++ m
  | 1 => ⟨#[43]⟩ ++ m
  | 2 => ⟨#[32]⟩ ++ m
  | 3 => ⟨#[45]⟩ ++ m
  | 4 => m.extract 0 (m.size - f.size)
  | _ => ⟨#[]⟩
theorem mkT_size (f : ByteArray) (n t : Int) : (mkT f n t).size = (dgs n).size + 1 + (dgs t).size + 1 + f.size := by
  rw [mkT_head2, app_size, head2_size]
/-- the first byte of a number's digits is none of these -/
def firstOk (l : List UInt8) : Bool := match l with
  | [] => false
  | c :: _ => c != 48 && c != 43 && c != 32 && c != 45
theorem dgs_first : ∀ k, k < 201 → 1 ≤ k → firstOk (dg3 k) = true := by decide +kernel
theorem mk_first {f : ByteArray} {n t : Int} (h : rightB f n t = true) : firstOk (mkT f n t).data.toList = true := by
  have r := rightB_iff.1 h
  obtain ⟨k, rfl⟩ := Int.eq_ofNat_of_zero_le (by omega : 0 ≤ n)
  have hk := dgs_first k (by omega) (by omega)
  rw [mkT_data, dgs_data, Int.toNat_natCast, dec_dg3 k (by omega)]
  revert hk
  cases dg3 k with
  | nil => intro h; cases h
  | cons c r => intro h; exact h
theorem not_first {s : ByteArray} (h : firstOk s.data.toList = false) : readT s = none :=
  readT_none fun f n t hr e => by
    have := mk_first hr
    rw [← e, h] at this
    cases this
theorem odd_first (c : UInt8) (s : ByteArray) (h : firstOk [c] = false) : readT (⟨#[c]⟩ ++ s) = none :=
  not_first (by simp [firstOk] at h ⊢; exact h)
theorem odd_cut {f : ByteArray} {n t : Int} (h : rightB f n t = true) : readT (odd f (mkT f n t) 4) = none := by
  have r := rightB_iff.1 h
  have e : (odd f (mkT f n t) 4).data.toList = (dgs n).data.toList ++ 46 :: ((dgs t).data.toList ++ 46 :: []) := by
    show ((mkT f n t).extract 0 ((mkT f n t).size - f.size)).data.toList = _
    have hz : (mkT f n t).size - f.size = (head2 n t).size := by rw [mkT_size, head2_size]; omega
    rw [hz, mkT_head2, app_ext]
    simp [head2]
  refine readT_calc (a := (dgs n).data.toList) (r := (dgs t).data.toList ++ 46 :: []) (b := (dgs t).data.toList) (f := []) (one := true) (two := true) ?_ ?_ (.inl ?_)
  · rw [e]; exact cutD_at (numOf_dgs (by omega) (by omega)).2
  · exact cutD_at (numOf_dgs (by omega) (by omega)).2
  · simp [rightB, bs, ByteArray.size]
theorem odd_none {f : ByteArray} {n t : Int} (h : rightB f n t = true) : ∀ k, readT (odd f (mkT f n t) k) = none
  | 0 => odd_first 48 _ rfl
  | 1 => odd_first 43 _ rfl
  | 2 => odd_first 32 _ rfl
  | 3 => odd_first 45 _ rfl
  | 4 => odd_cut h
  | _ + 5 => no_lit0
theorem odd_size {f : ByteArray} {n t : Int} (h : rightB f n t = true) (k : Nat) : (odd f (mkT f n t) k).size ≤ 60 := by
  have r := rightB_iff.1 h
  have s1 := dgs_size (n := n) (by omega)
  have s2 := dgs_size (n := t) (by omega)
  have z := mkT_size f n t
  match k with
  | 0 | 1 | 2 | 3 => show (_ ++ mkT f n t).size ≤ 60; rw [app_size, z]; show 1 + _ ≤ 60; omega
  | 4 => show ((mkT f n t).extract 0 ((mkT f n t).size - f.size)).size ≤ 60; rw [ByteArray.size_extract]; omega
  | _ + 5 => show 0 ≤ 60; omega
theorem idx0 (a0 a1 a2 a3 a4 a5 : Value) (w : World) : (Instr.index 56 (.agg #[a0, a1, a2, a3, a4, a5]) (.int .u8 0)).run Tryd.prog w = .ok a0 w := by kernel_rfl
theorem idx1 (a0 a1 a2 a3 a4 a5 : Value) (w : World) : (Instr.index 56 (.agg #[a0, a1, a2, a3, a4, a5]) (.int .u8 1)).run Tryd.prog w = .ok a1 w := by kernel_rfl
theorem idx2 (a0 a1 a2 a3 a4 a5 : Value) (w : World) : (Instr.index 56 (.agg #[a0, a1, a2, a3, a4, a5]) (.int .u8 2)).run Tryd.prog w = .ok a2 w := by kernel_rfl
theorem idx3 (a0 a1 a2 a3 a4 a5 : Value) (w : World) : (Instr.index 56 (.agg #[a0, a1, a2, a3, a4, a5]) (.int .u8 3)).run Tryd.prog w = .ok a3 w := by kernel_rfl
theorem idx4 (a0 a1 a2 a3 a4 a5 : Value) (w : World) : (Instr.index 56 (.agg #[a0, a1, a2, a3, a4, a5]) (.int .u8 4)).run Tryd.prog w = .ok a4 w := by kernel_rfl
theorem idx5 (a0 a1 a2 a3 a4 a5 : Value) (w : World) : (Instr.index 56 (.agg #[a0, a1, a2, a3, a4, a5]) (.int .u8 5)).run Tryd.prog w = .ok a5 w := by kernel_rfl
set_option maxRecDepth 20000 in
set_option maxHeartbeats 4000000 in
theorem odd_any (f : ByteArray) (n t : Int) (c : Int) (h0 : 0 ≤ c) (h1 : c ≤ 255) (w : World) (hg : GOK w) :
    Calls Tryd.prog 9 #[.agg #[.string f, .int .i64 n, .int .i64 t], .int .u8 c] w fun e w' => e = .returned (.bool true) ∧ Below w.heap.size w w' := by
  have hg0 := hg.below ((Below.refl w.heap.size w).alloc (Nat.le_refl _) (.cells #[.string f, .int .i64 n, .int .i64 t] 49))
  by_cases h2 : f.size ≤ 3000
  · cases hr : rightB f n t with
    | false =>
      have M1 := Lib.hid (make_no f n t (h := hr))
      clear hr
      go_enter Tryd.func9, Tryd.ntmps9
      go_wp2_with fail
      refine (M1.out _).mono ?_
      rintro e w1 ⟨rfl, hb1⟩
      have hB1 := below_alloc (Below.refl _ _) (Nat.le_refl _) hb1
      have hg1 := hg0.below hb1
      go_wp2_with fail
      refine (awake_any _ hg1).mono ?_
      rintro e w5 ⟨rfl, hb5⟩
      go_wp2_with fail
      go_ret
      exact ⟨rfl, below_on hB1 hB1.size hb5⟩
    | true =>
      have hr' := Lib.hid hr
      have r := rightB_iff.1 hr
      clear hr
      have M1 := Lib.hid (make_yes f n t (h := hr'.out))
      have z := mkT_size f n t
      have s1 := dgs_size (n := n) (by omega)
      have s2 := dgs_size (n := t) (by omega)
      have z1 : (mkT f n t).size ≤ 50 := by omega
      have z2 : f.size ≤ (mkT f n t).size := by omega
      clear z
      have O := Lib.hid (fun k => And.intro (odd_none hr'.out k) (odd_size hr'.out k))
      generalize hm : mkT f n t = m at *
      clear hm hr'
      have hq : c % 6 = 0 ∨ c % 6 = 1 ∨ c % 6 = 2 ∨ c % 6 = 3 ∨ c % 6 = 4 ∨ c % 6 = 5 := by omega
      rcases hq with hq | hq | hq | hq | hq | hq
      · have IX := fun w => idx0 (.string (⟨#[48]⟩ ++ m)) (.string (⟨#[43]⟩ ++ m)) (.string (⟨#[32]⟩ ++ m)) (.string (⟨#[45]⟩ ++ m)) (.string (m.extract 0 (m.size - f.size))) (.string ⟨#[]⟩) w
        have R := Lib.hid (fun w hg => read_no (s := ⟨#[48]⟩ ++ m) (O.out 0).1 w (Nat.le_trans (O.out 0).2 (by decide)) hg)
        clear O
        go_enter Tryd.func9, Tryd.ntmps9
        go_wp2_with fail
        refine (M1.out _ hg0).mono ?_
        rintro e w1 ⟨rfl, hb1⟩
        have hB1 := below_alloc (Below.refl _ _) (Nat.le_refl _) hb1
        have hg1 := hg0.below hb1
        have k1 := blk_below hb1 (alloc_at w _)
        have q0 : w1.cell? ⟨w.heap.size, 0, none⟩ = some (.string f) := blk_cell k1 0
        have q1 : w1.cell? ⟨w.heap.size, 1, none⟩ = some (.int .i64 n) := blk_cell k1 1
        have q2 : w1.cell? ⟨w.heap.size, 2, none⟩ = some (.int .i64 t) := blk_cell k1 2
        clear k1 hb1
        go_wp2_with fail
        refine (R.out _ hg1).mono ?_
        rintro e w2 ⟨rfl, hb2⟩
        have hB2 := below_on hB1 hB1.size hb2
        have hg2 := hg1.below hb2
        have hs2 := hb2.size
        clear hb2
        go_wp2_with fail
        refine (awake_any _ (hg2.below ((Below.refl w2.heap.size w2).alloc (Nat.le_refl _) _))).mono ?_
        rintro e w5 ⟨rfl, hb5⟩
        go_wp2_with fail
        go_ret
        exact ⟨rfl, below_alloc hB2 hB2.size hb5⟩
      · have IX := fun w => idx1 (.string (⟨#[48]⟩ ++ m)) (.string (⟨#[43]⟩ ++ m)) (.string (⟨#[32]⟩ ++ m)) (.string (⟨#[45]⟩ ++ m)) (.string (m.extract 0 (m.size - f.size))) (.string ⟨#[]⟩) w
        have R := Lib.hid (fun w hg => read_no (s := ⟨#[43]⟩ ++ m) (O.out 1).1 w (Nat.le_trans (O.out 1).2 (by decide)) hg)
        clear O
        go_enter Tryd.func9, Tryd.ntmps9
        go_wp2_with fail
        refine (M1.out _ hg0).mono ?_
        rintro e w1 ⟨rfl, hb1⟩
        have hB1 := below_alloc (Below.refl _ _) (Nat.le_refl _) hb1
        have hg1 := hg0.below hb1
        have k1 := blk_below hb1 (alloc_at w _)
        have q0 : w1.cell? ⟨w.heap.size, 0, none⟩ = some (.string f) := blk_cell k1 0
        have q1 : w1.cell? ⟨w.heap.size, 1, none⟩ = some (.int .i64 n) := blk_cell k1 1
        have q2 : w1.cell? ⟨w.heap.size, 2, none⟩ = some (.int .i64 t) := blk_cell k1 2
        clear k1 hb1
        go_wp2_with fail
        refine (R.out _ hg1).mono ?_
        rintro e w2 ⟨rfl, hb2⟩
        have hB2 := below_on hB1 hB1.size hb2
        have hg2 := hg1.below hb2
        have hs2 := hb2.size
        clear hb2
        go_wp2_with fail
        refine (awake_any _ (hg2.below ((Below.refl w2.heap.size w2).alloc (Nat.le_refl _) _))).mono ?_
        rintro e w5 ⟨rfl, hb5⟩
        go_wp2_with fail
        go_ret
        exact ⟨rfl, below_alloc hB2 hB2.size hb5⟩
      · have IX := fun w => idx2 (.string (⟨#[48]⟩ ++ m)) (.string (⟨#[43]⟩ ++ m)) (.string (⟨#[32]⟩ ++ m)) (.string (⟨#[45]⟩ ++ m)) (.string (m.extract 0 (m.size - f.size))) (.string ⟨#[]⟩) w
        have R := Lib.hid (fun w hg => read_no (s := ⟨#[32]⟩ ++ m) (O.out 2).1 w (Nat.le_trans (O.out 2).2 (by decide)) hg)
        clear O
        go_enter Tryd.func9, Tryd.ntmps9
        go_wp2_with fail
        refine (M1.out _ hg0).mono ?_
        rintro e w1 ⟨rfl, hb1⟩
        have hB1 := below_alloc (Below.refl _ _) (Nat.le_refl _) hb1
        have hg1 := hg0.below hb1
        have k1 := blk_below hb1 (alloc_at w _)
        have q0 : w1.cell? ⟨w.heap.size, 0, none⟩ = some (.string f) := blk_cell k1 0
        have q1 : w1.cell? ⟨w.heap.size, 1, none⟩ = some (.int .i64 n) := blk_cell k1 1
        have q2 : w1.cell? ⟨w.heap.size, 2, none⟩ = some (.int .i64 t) := blk_cell k1 2
        clear k1 hb1
        go_wp2_with fail
        refine (R.out _ hg1).mono ?_
        rintro e w2 ⟨rfl, hb2⟩
        have hB2 := below_on hB1 hB1.size hb2
        have hg2 := hg1.below hb2
        have hs2 := hb2.size
        clear hb2
        go_wp2_with fail
        refine (awake_any _ (hg2.below ((Below.refl w2.heap.size w2).alloc (Nat.le_refl _) _))).mono ?_
        rintro e w5 ⟨rfl, hb5⟩
        go_wp2_with fail
        go_ret
        exact ⟨rfl, below_alloc hB2 hB2.size hb5⟩
      · have IX := fun w => idx3 (.string (⟨#[48]⟩ ++ m)) (.string (⟨#[43]⟩ ++ m)) (.string (⟨#[32]⟩ ++ m)) (.string (⟨#[45]⟩ ++ m)) (.string (m.extract 0 (m.size - f.size))) (.string ⟨#[]⟩) w
        have R := Lib.hid (fun w hg => read_no (s := ⟨#[45]⟩ ++ m) (O.out 3).1 w (Nat.le_trans (O.out 3).2 (by decide)) hg)
        clear O
        go_enter Tryd.func9, Tryd.ntmps9
        go_wp2_with fail
        refine (M1.out _ hg0).mono ?_
        rintro e w1 ⟨rfl, hb1⟩
        have hB1 := below_alloc (Below.refl _ _) (Nat.le_refl _) hb1
        have hg1 := hg0.below hb1
        have k1 := blk_below hb1 (alloc_at w _)
        have q0 : w1.cell? ⟨w.heap.size, 0, none⟩ = some (.string f) := blk_cell k1 0
        have q1 : w1.cell? ⟨w.heap.size, 1, none⟩ = some (.int .i64 n) := blk_cell k1 1
        have q2 : w1.cell? ⟨w.heap.size, 2, none⟩ = some (.int .i64 t) := blk_cell k1 2
        clear k1 hb1
        go_wp2_with fail
        refine (R.out _ hg1).mono ?_
        rintro e w2 ⟨rfl, hb2⟩
        have hB2 := below_on hB1 hB1.size hb2
        have hg2 := hg1.below hb2
        have hs2 := hb2.size
        clear hb2
        go_wp2_with fail
        refine (awake_any _ (hg2.below ((Below.refl w2.heap.size w2).alloc (Nat.le_refl _) _))).mono ?_
        rintro e w5 ⟨rfl, hb5⟩
        go_wp2_with fail
        go_ret
        exact ⟨rfl, below_alloc hB2 hB2.size hb5⟩
      · have IX := fun w => idx4 (.string (⟨#[48]⟩ ++ m)) (.string (⟨#[43]⟩ ++ m)) (.string (⟨#[32]⟩ ++ m)) (.string (⟨#[45]⟩ ++ m)) (.string (m.extract 0 (m.size - f.size))) (.string ⟨#[]⟩) w
        have R := Lib.hid (fun w hg => read_no (s := m.extract 0 (m.size - f.size)) (O.out 4).1 w (Nat.le_trans (O.out 4).2 (by decide)) hg)
        clear O
        go_enter Tryd.func9, Tryd.ntmps9
        go_wp2_with fail
        refine (M1.out _ hg0).mono ?_
        rintro e w1 ⟨rfl, hb1⟩
        have hB1 := below_alloc (Below.refl _ _) (Nat.le_refl _) hb1
        have hg1 := hg0.below hb1
        have k1 := blk_below hb1 (alloc_at w _)
        have q0 : w1.cell? ⟨w.heap.size, 0, none⟩ = some (.string f) := blk_cell k1 0
        have q1 : w1.cell? ⟨w.heap.size, 1, none⟩ = some (.int .i64 n) := blk_cell k1 1
        have q2 : w1.cell? ⟨w.heap.size, 2, none⟩ = some (.int .i64 t) := blk_cell k1 2
        clear k1 hb1
        go_wp2_with fail
        refine (R.out _ hg1).mono ?_
        rintro e w2 ⟨rfl, hb2⟩
        have hB2 := below_on hB1 hB1.size hb2
        have hg2 := hg1.below hb2
        have hs2 := hb2.size
        clear hb2
        go_wp2_with fail
        refine (awake_any _ (hg2.below ((Below.refl w2.heap.size w2).alloc (Nat.le_refl _) _))).mono ?_
        rintro e w5 ⟨rfl, hb5⟩
        go_wp2_with fail
        go_ret
        exact ⟨rfl, below_alloc hB2 hB2.size hb5⟩
      · have IX := fun w => idx5 (.string (⟨#[48]⟩ ++ m)) (.string (⟨#[43]⟩ ++ m)) (.string (⟨#[32]⟩ ++ m)) (.string (⟨#[45]⟩ ++ m)) (.string (m.extract 0 (m.size - f.size))) (.string ⟨#[]⟩) w
        have R := Lib.hid (fun w hg => read_no (s := ⟨#[]⟩) (O.out 5).1 w (Nat.le_trans (O.out 5).2 (by decide)) hg)
        clear O
        go_enter Tryd.func9, Tryd.ntmps9
        go_wp2_with fail
        refine (M1.out _ hg0).mono ?_
        rintro e w1 ⟨rfl, hb1⟩
        have hB1 := below_alloc (Below.refl _ _) (Nat.le_refl _) hb1
        have hg1 := hg0.below hb1
        have k1 := blk_below hb1 (alloc_at w _)
        have q0 : w1.cell? ⟨w.heap.size, 0, none⟩ = some (.string f) := blk_cell k1 0
        have q1 : w1.cell? ⟨w.heap.size, 1, none⟩ = some (.int .i64 n) := blk_cell k1 1
        have q2 : w1.cell? ⟨w.heap.size, 2, none⟩ = some (.int .i64 t) := blk_cell k1 2
        clear k1 hb1
        go_wp2_with fail
        refine (R.out _ hg1).mono ?_
        rintro e w2 ⟨rfl, hb2⟩
        have hB2 := below_on hB1 hB1.size hb2
        have hg2 := hg1.below hb2
        have hs2 := hb2.size
        clear hb2
        go_wp2_with fail
        refine (awake_any _ (hg2.below ((Below.refl w2.heap.size w2).alloc (Nat.le_refl _) _))).mono ?_
        rintro e w5 ⟨rfl, hb5⟩
        go_wp2_with fail
        go_ret
        exact ⟨rfl, below_alloc hB2 hB2.size hb5⟩
  · go_enter Tryd.func9, Tryd.ntmps9
    go_wp2_with fail
    refine (awake_any _ hg0).mono ?_
    rintro e w1 ⟨rfl, hb1⟩
    go_wp2_with fail
    go_ret
    exact ⟨rfl, below_alloc (Below.refl _ _) (Nat.le_refl _) hb1⟩
end Go.Proofs.YtckooioikcenmaaDoor

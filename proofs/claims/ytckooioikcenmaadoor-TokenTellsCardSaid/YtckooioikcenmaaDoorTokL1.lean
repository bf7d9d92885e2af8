/- TokenTells: the law's walk. Conditions: the library's variables read as they are laid. -/
import Derived.Test.YtckooioikcenmaaDoorTokW7
namespace Go.Proofs.YtckooioikcenmaaDoor
open Go.RowKit
attribute [local go_sem] frozen?_alloc_cells World.cell?_alloc_some
theorem rread_yes {s f : ByteArray} {n t : Int} (h : readT s = some (f, n, t)) (w : World) (hs : s.size ≤ 3000) :
    Calls Tryd.prog 24 #[.string s] w fun e w' => e = .returned (.tuple #[.agg #[.string f, .int .i64 n, .int .i64 t], .int .i64 0]) ∧ Below w.heap.size w w' := by
  have := rread_any s w hs; rw [h] at this; exact this
theorem rread_no {s : ByteArray} (h : readT s = none) (w : World) (hs : s.size ≤ 3000) :
    Calls Tryd.prog 24 #[.string s] w fun e w' => e = .returned (.tuple #[.agg #[.string ⟨#[]⟩, .int .i64 0, .int .i64 0], .int .i64 109]) ∧ Below w.heap.size w w' := by
  have := rread_any s w hs; rw [h] at this; exact this
theorem make_two (f : ByteArray) (n t : Int) : ∃ (a : ByteArray) (e : Int), (∀ w, GOK w → Calls Tryd.prog 21 #[.agg #[.string f, .int .i64 n, .int .i64 t]] w fun x w' => x = .returned (.tuple #[.string a, .int .i64 e]) ∧ Below w.heap.size w w') ∧
    (∀ w, Calls Tryd.prog 22 #[.agg #[.string f, .int .i64 n, .int .i64 t]] w fun x w' => x = .returned (.tuple #[.string a, .int .i64 e]) ∧ Below w.heap.size w w') := by
  cases h : rightB f n t with
  | true => exact ⟨_, _, fun w hg => make_yes f n t w h hg, fun w => by have := rmake_any f n t w; unfold makeV at this; rw [h] at this; exact this⟩
  | false => exact ⟨_, _, fun w _ => make_no f n t w h, fun w => by have := rmake_any f n t w; unfold makeV at this; rw [h] at this; exact this⟩
theorem read_two (s : ByteArray) (hs : s.size ≤ 3000) : ∃ (f : ByteArray) (n t e : Int), (∀ w, GOK w → Calls Tryd.prog 23 #[.string s] w fun x w' => x = .returned (.tuple #[.agg #[.string f, .int .i64 n, .int .i64 t], .int .i64 e]) ∧ Below w.heap.size w w') ∧
    (∀ w, Calls Tryd.prog 24 #[.string s] w fun x w' => x = .returned (.tuple #[.agg #[.string f, .int .i64 n, .int .i64 t], .int .i64 e]) ∧ Below w.heap.size w w') := by
  cases h : readT s with
  | some x => obtain ⟨f, n, t⟩ := x; exact ⟨_, _, _, _, fun w hg => read_yes h w hs hg, fun w => rread_yes h w hs⟩
  | none => exact ⟨_, _, _, _, fun w hg => read_no h w hs hg, fun w => rread_no h w hs⟩
set_option maxRecDepth 20000 in
set_option maxHeartbeats 4000000 in
theorem tells_any (f : ByteArray) (n t : Int) (s : ByteArray) (w : World) (hg : GOK w) :
    Calls Tryd.prog 7 #[.agg #[.string f, .int .i64 n, .int .i64 t], .string s] w fun e w' => e = .returned (.bool true) ∧ Below w.heap.size w w' := by
  have hg0 := hg.below ((Below.refl w.heap.size w).alloc (Nat.le_refl _) (.cells #[.string f, .int .i64 n, .int .i64 t] 49))
  by_cases h1 : f.size ≤ 3000
  · by_cases h2 : s.size ≤ 3000
    · obtain ⟨a, e, m1, m2⟩ := make_two f n t
      obtain ⟨f', n', t', e', r1, r2⟩ := read_two s h2
      have M1 := Lib.hid m1; have M2 := Lib.hid m2; have R1 := Lib.hid r1; have R2 := Lib.hid r2
      clear m1 m2 r1 r2
      go_enter Tryd.func7, Tryd.ntmps7
      go_wp2_with fail
      refine (M1.out _ hg0).mono ?_
      rintro e w1 ⟨rfl, hb1⟩
      have hg1 := hg0.below hb1
      have k1 := blk_below hb1 (alloc_at w _)
      have hB1 := below_alloc (Below.refl _ _) (Nat.le_refl _) hb1
      have hs1 := size_alloc hb1
      have q0 : w1.cell? ⟨w.heap.size, 0, none⟩ = some (.string f) := blk_cell k1 0
      have q1 : w1.cell? ⟨w.heap.size, 1, none⟩ = some (.int .i64 n) := blk_cell k1 1
      have q2 : w1.cell? ⟨w.heap.size, 2, none⟩ = some (.int .i64 t) := blk_cell k1 2
      clear hb1 k1
      go_wp2_with fail
      refine (M2.out _).mono ?_
      rintro e w2 ⟨rfl, hb2⟩
      have hg2 := hg1.below hb2
      have hB2 := below_on hB1 (by omega) hb2
      have hs2 := hb2.size
      clear hb2
      go_wp2_with fail
      refine (R1.out _ hg2).mono ?_
      rintro e w3 ⟨rfl, hb3⟩
      have hg3 := hg2.below hb3
      have hB3 := below_on hB2 (by omega) hb3
      have hs3 := hb3.size
      clear hb3
      go_wp2_with fail
      refine (R2.out _).mono ?_
      rintro e w4 ⟨rfl, hb4⟩
      have k9 := blk_below hb4 (alloc_at w3 _)
      have q9 : w4.cell? ⟨w3.heap.size, 0, none⟩ = some (.string f') := blk_cell k9 0
      have q10 : w4.cell? ⟨w3.heap.size, 1, none⟩ = some (.int .i64 n') := blk_cell k9 1
      have q11 : w4.cell? ⟨w3.heap.size, 2, none⟩ = some (.int .i64 t') := blk_cell k9 2
      have hB4 := below_alloc hB3 (by omega) hb4
      have hs4 := size_alloc hb4
      have hg4 := hg3.below (((Below.refl w3.heap.size w3).alloc (Nat.le_refl _) _).trans (hb4.mono (by simp)))
      clear hb4 k9
      go_wp2_with fail
      refine (awake_any _ (hg4.below ((Below.refl w4.heap.size w4).alloc (Nat.le_refl _) _))).mono ?_
      rintro e w5 ⟨rfl, hb5⟩
      go_wp2_with fail
      go_ret
      exact ⟨rfl, below_alloc hB4 (by omega) hb5⟩
    · go_enter Tryd.func7, Tryd.ntmps7
      go_wp2_with fail
      refine (awake_any _ (hg.below ((Below.refl w.heap.size w).alloc (Nat.le_refl _) _))).mono ?_
      rintro e w1 ⟨rfl, hb1⟩
      go_wp2_with fail
      go_ret
      exact ⟨rfl, below_alloc (Below.refl _ _) (Nat.le_refl _) hb1⟩
  · go_enter Tryd.func7, Tryd.ntmps7
    go_wp2_with fail
    refine (awake_any _ (hg.below ((Below.refl w.heap.size w).alloc (Nat.le_refl _) _))).mono ?_
    rintro e w1 ⟨rfl, hb1⟩
    go_wp2_with fail
    go_ret
    exact ⟨rfl, below_alloc (Below.refl _ _) (Nat.le_refl _) hb1⟩
end Go.Proofs.YtckooioikcenmaaDoor

/- Walks of program.shape and named. Conditions: none. -/
import Derived.Test.YtckooioikcenmaaDoorPgPure
import Derived.Test.YtckooioikcenmaaDoorProg
import Derived.Test.YtckooioikcenmaaDoorBase
import Derived.WalkKit
import Derived.Below
import Derived.Lib.Hide
import Derived.Deep.QuietTactic
import Derived.BigQuiet
import Derived.Test.YtckooioikcenmaaDoorPgMap
namespace Go.Proofs.YtckooioikcenmaaDoor
open Go.RowKit
theorem named_walk (s : ByteArray) (w : World) : Calls Tryd.prog 25 #[.string s] w fun e w' => e = .returned (.bool (namedOk s)) ∧ w = w' := by
  by_cases h1 : (1 : Int) ≤ s.size
  · have hd := Lib.hid (show namedOk s = decide ((s.size : Int) ≤ 40) by simp only [namedOk, h1, decide_true, Bool.true_and])
    go_enter Tryd.func25, Tryd.ntmps25
    go_wp2
    go_ret
    exact ⟨by rw [hd.out]; rfl, rfl⟩
  · have hd := Lib.hid (show namedOk s = false by simp only [namedOk, h1, decide_false, Bool.false_and])
    go_enter Tryd.func25, Tryd.ntmps25
    go_wp2
    go_ret
    exact ⟨by rw [hd.out]; rfl, rfl⟩
theorem under102 : Tryd.prog.underlying 102 = some (.map 32 101) := by kernel_rfl
theorem under32 : Tryd.prog.underlying 32 = some (.int .u8) := by kernel_rfl
def shapeList : List (Int × Value) := [(16, .agg #[.string ⟨#[114, 45, 45, 45, 45]⟩]), (15, .agg #[.string ⟨#[114, 45, 45, 45, 45]⟩]), (14, .agg #[.string ⟨#[114, 45, 45, 45, 45]⟩]), (13, .agg #[.string ⟨#[114, 114, 114, 45, 45]⟩]), (12, .agg #[.string ⟨#[114, 114, 45, 45, 115]⟩]), (11, .agg #[.string ⟨#[114, 114, 45, 45, 45]⟩]), (10, .agg #[.string ⟨#[114, 114, 112, 45, 115]⟩]), (9, .agg #[.string ⟨#[114, 45, 45, 106, 45]⟩]), (8, .agg #[.string ⟨#[45, 45, 45, 106, 45]⟩]), (7, .agg #[.string ⟨#[114, 114, 114, 45, 45]⟩]), (6, .agg #[.string ⟨#[114, 114, 114, 45, 45]⟩]), (5, .agg #[.string ⟨#[114, 114, 114, 45, 45]⟩]), (4, .agg #[.string ⟨#[114, 114, 114, 45, 45]⟩]), (3, .agg #[.string ⟨#[114, 114, 114, 45, 45]⟩]), (2, .agg #[.string ⟨#[114, 114, 45, 45, 45]⟩]), (1, .agg #[.string ⟨#[114, 45, 45, 110, 45]⟩])]
theorem zero101 (w : World) : (zeroValue 101).run Tryd.prog w = .ok (.agg #[.string ⟨#[]⟩]) w := by kernel_rfl
theorem shape_look (o : Int) : look o shapeList = if shapeOf o = ⟨#[]⟩ then none else some (.agg #[.string (shapeOf o)]) := by
  by_cases h : 1 ≤ o ∧ o ≤ 16
  · have : o = 1 ∨ o = 2 ∨ o = 3 ∨ o = 4 ∨ o = 5 ∨ o = 6 ∨ o = 7 ∨ o = 8 ∨ o = 9 ∨ o = 10 ∨ o = 11 ∨ o = 12 ∨ o = 13 ∨ o = 14 ∨ o = 15 ∨ o = 16 := by omega
    rcases this with rfl | rfl | rfl | rfl | rfl | rfl | rfl | rfl | rfl | rfl | rfl | rfl | rfl | rfl | rfl | rfl <;> rfl
  · have e1 : shapeOf o = ⟨#[]⟩ := by
      unfold shapeOf
      repeat (rw [if_neg (by omega)])
    rw [if_pos e1]
    unfold shapeList
    simp only [look]
    repeat (rw [if_neg (by omega)])
theorem shape_run (o : Int) (w : World) (b : Nat) (h : MapL w b shapeList) : (Instr.lookup 102 (.map (some b)) (.int .u8 o) false).run Tryd.prog w = .ok (.agg #[.string (shapeOf o)]) w := by
  have hl := shape_look o
  by_cases he : shapeOf o = ⟨#[]⟩
  · rw [if_pos he] at hl
    rw [he]
    exact h.lacks under102 under32 hl (zero101 w)
  · rw [if_neg he] at hl
    exact h.found under102 under32 hl
theorem shape_run' (o : Int) (w : World) (b : Nat) (h : MapL w b [(16, .agg #[.string ⟨#[114, 45, 45, 45, 45]⟩]), (15, .agg #[.string ⟨#[114, 45, 45, 45, 45]⟩]), (14, .agg #[.string ⟨#[114, 45, 45, 45, 45]⟩]), (13, .agg #[.string ⟨#[114, 114, 114, 45, 45]⟩]), (12, .agg #[.string ⟨#[114, 114, 45, 45, 115]⟩]), (11, .agg #[.string ⟨#[114, 114, 45, 45, 45]⟩]), (10, .agg #[.string ⟨#[114, 114, 112, 45, 115]⟩]), (9, .agg #[.string ⟨#[114, 45, 45, 106, 45]⟩]), (8, .agg #[.string ⟨#[45, 45, 45, 106, 45]⟩]), (7, .agg #[.string ⟨#[114, 114, 114, 45, 45]⟩]), (6, .agg #[.string ⟨#[114, 114, 114, 45, 45]⟩]), (5, .agg #[.string ⟨#[114, 114, 114, 45, 45]⟩]), (4, .agg #[.string ⟨#[114, 114, 114, 45, 45]⟩]), (3, .agg #[.string ⟨#[114, 114, 114, 45, 45]⟩]), (2, .agg #[.string ⟨#[114, 114, 45, 45, 45]⟩]), (1, .agg #[.string ⟨#[114, 45, 45, 110, 45]⟩])]) : (Instr.lookup 102 (.map (some b)) (.int .u8 o) false).run Tryd.prog w = .ok (.agg #[.string (shapeOf o)]) w := shape_run o w b h
set_option maxRecDepth 100000 in
set_option maxHeartbeats 4000000 in
theorem shape_walk (o : Int) (w : World) : Calls Tryd.prog 45 #[.int .u8 o] w fun e w' => e = .returned (.string (shapeOf o)) ∧ Below w.heap.size w w' := by
  have hmm := @run_makeMap Tryd.prog
  have hfld : ∀ (s : ByteArray) (w : World), (Instr.field 101 (.agg #[.string s]) 0).run Tryd.prog w = .ok (.string s) w := fun s w => by kernel_rfl
  have hm0 := MapL.empty w
  have hb0 : Below w.heap.size w (w.alloc (.map #[] 0)) := (Below.refl _ _).alloc (Nat.le_refl _) _
  go_enter Tryd.func45, Tryd.ntmps45
  go_wp2_with (first
    | (with_reducible refine wpList_insert _ rfl _ _ _ 102 rfl 32 101 under102 under32 w.heap.size _ rfl (by assumption) 1 (.agg #[.string ⟨#[114, 45, 45, 110, 45]⟩]) rfl rfl w.heap.size w (Nat.le_refl _) (by assumption) ?_; intro w1 hm1 hb1)
    | (with_reducible refine wpList_insert _ rfl _ _ _ 102 rfl 32 101 under102 under32 w.heap.size _ rfl (by assumption) 2 (.agg #[.string ⟨#[114, 114, 45, 45, 45]⟩]) rfl rfl w.heap.size w (Nat.le_refl _) (by assumption) ?_; intro w1 hm1 hb1)
    | (with_reducible refine wpList_insert _ rfl _ _ _ 102 rfl 32 101 under102 under32 w.heap.size _ rfl (by assumption) 3 (.agg #[.string ⟨#[114, 114, 114, 45, 45]⟩]) rfl rfl w.heap.size w (Nat.le_refl _) (by assumption) ?_; intro w1 hm1 hb1)
    | (with_reducible refine wpList_insert _ rfl _ _ _ 102 rfl 32 101 under102 under32 w.heap.size _ rfl (by assumption) 4 (.agg #[.string ⟨#[114, 114, 114, 45, 45]⟩]) rfl rfl w.heap.size w (Nat.le_refl _) (by assumption) ?_; intro w1 hm1 hb1)
    | (with_reducible refine wpList_insert _ rfl _ _ _ 102 rfl 32 101 under102 under32 w.heap.size _ rfl (by assumption) 5 (.agg #[.string ⟨#[114, 114, 114, 45, 45]⟩]) rfl rfl w.heap.size w (Nat.le_refl _) (by assumption) ?_; intro w1 hm1 hb1)
    | (with_reducible refine wpList_insert _ rfl _ _ _ 102 rfl 32 101 under102 under32 w.heap.size _ rfl (by assumption) 6 (.agg #[.string ⟨#[114, 114, 114, 45, 45]⟩]) rfl rfl w.heap.size w (Nat.le_refl _) (by assumption) ?_; intro w1 hm1 hb1)
    | (with_reducible refine wpList_insert _ rfl _ _ _ 102 rfl 32 101 under102 under32 w.heap.size _ rfl (by assumption) 7 (.agg #[.string ⟨#[114, 114, 114, 45, 45]⟩]) rfl rfl w.heap.size w (Nat.le_refl _) (by assumption) ?_; intro w1 hm1 hb1)
    | (with_reducible refine wpList_insert _ rfl _ _ _ 102 rfl 32 101 under102 under32 w.heap.size _ rfl (by assumption) 8 (.agg #[.string ⟨#[45, 45, 45, 106, 45]⟩]) rfl rfl w.heap.size w (Nat.le_refl _) (by assumption) ?_; intro w1 hm1 hb1)
    | (with_reducible refine wpList_insert _ rfl _ _ _ 102 rfl 32 101 under102 under32 w.heap.size _ rfl (by assumption) 9 (.agg #[.string ⟨#[114, 45, 45, 106, 45]⟩]) rfl rfl w.heap.size w (Nat.le_refl _) (by assumption) ?_; intro w1 hm1 hb1)
    | (with_reducible refine wpList_insert _ rfl _ _ _ 102 rfl 32 101 under102 under32 w.heap.size _ rfl (by assumption) 10 (.agg #[.string ⟨#[114, 114, 112, 45, 115]⟩]) rfl rfl w.heap.size w (Nat.le_refl _) (by assumption) ?_; intro w1 hm1 hb1)
    | (with_reducible refine wpList_insert _ rfl _ _ _ 102 rfl 32 101 under102 under32 w.heap.size _ rfl (by assumption) 11 (.agg #[.string ⟨#[114, 114, 45, 45, 45]⟩]) rfl rfl w.heap.size w (Nat.le_refl _) (by assumption) ?_; intro w1 hm1 hb1)
    | (with_reducible refine wpList_insert _ rfl _ _ _ 102 rfl 32 101 under102 under32 w.heap.size _ rfl (by assumption) 12 (.agg #[.string ⟨#[114, 114, 45, 45, 115]⟩]) rfl rfl w.heap.size w (Nat.le_refl _) (by assumption) ?_; intro w1 hm1 hb1)
    | (with_reducible refine wpList_insert _ rfl _ _ _ 102 rfl 32 101 under102 under32 w.heap.size _ rfl (by assumption) 13 (.agg #[.string ⟨#[114, 114, 114, 45, 45]⟩]) rfl rfl w.heap.size w (Nat.le_refl _) (by assumption) ?_; intro w1 hm1 hb1)
    | (with_reducible refine wpList_insert _ rfl _ _ _ 102 rfl 32 101 under102 under32 w.heap.size _ rfl (by assumption) 14 (.agg #[.string ⟨#[114, 45, 45, 45, 45]⟩]) rfl rfl w.heap.size w (Nat.le_refl _) (by assumption) ?_; intro w1 hm1 hb1)
    | (with_reducible refine wpList_insert _ rfl _ _ _ 102 rfl 32 101 under102 under32 w.heap.size _ rfl (by assumption) 15 (.agg #[.string ⟨#[114, 45, 45, 45, 45]⟩]) rfl rfl w.heap.size w (Nat.le_refl _) (by assumption) ?_; intro w1 hm1 hb1)
    | (with_reducible refine wpList_insert _ rfl _ _ _ 102 rfl 32 101 under102 under32 w.heap.size _ rfl (by assumption) 16 (.agg #[.string ⟨#[114, 45, 45, 45, 45]⟩]) rfl rfl w.heap.size w (Nat.le_refl _) (by assumption) ?_; intro w1 hm1 hb1; have hsr := shape_run' o w1 w.heap.size hm1; clear hm1))
  go_ret
  exact ⟨rfl, by assumption⟩
end Go.Proofs.YtckooioikcenmaaDoor

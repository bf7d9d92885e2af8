/- Walks of the reference's Make and Read of tokens. Conditions: texts of at most 3000 bytes; the library's variables read as they are laid. -/
import Derived.Test.YtckooioikcenmaaDoorTokW4
namespace Go.Proofs.YtckooioikcenmaaDoor
open Go.RowKit
attribute [local go_sem] frozen?_alloc_cells World.cell?_alloc_some
/-- what Make answers -/
def makeV (f : ByteArray) (n t : Int) : Value := if rightB f n t then .tuple #[.string (mkT f n t), .int .i64 0] else .tuple #[.string ⟨#[]⟩, .int .i64 109]
theorem make_any (f : ByteArray) (n t : Int) (w : World) (hg : GOK w) :
    Calls Tryd.prog 21 #[.agg #[.string f, .int .i64 n, .int .i64 t]] w fun e w' => e = .returned (makeV f n t) ∧ Below w.heap.size w w' := by
  unfold makeV
  cases h : rightB f n t with
  | false => exact make_no f n t w h
  | true => exact make_yes f n t w h hg
theorem rmake_yes (f : ByteArray) (n t : Int) (w : World) (h : rightB f n t = true) :
    Calls Tryd.prog 22 #[.agg #[.string f, .int .i64 n, .int .i64 t]] w fun e w' => e = .returned (makeV f n t) ∧ Below w.heap.size w w' := by
  have hd := Lib.hid h
  obtain ⟨h1, h2, h3, h4, h5, h6⟩ := rightB_iff.1 h
  clear h
  have s1 := dgs_size (n := n) (by omega)
  have s2 := dgs_size (n := t) (by omega)
  have k0 := Lib.hid (alloc_at w (.cells #[.string f, .int .i64 n, .int .i64 t] 49))
  have c0 : (w.alloc (.cells #[.string f, .int .i64 n, .int .i64 t] 49)).cell? ⟨w.heap.size, 0, none⟩ = some (.string f) := blk_cell k0.out 0
  have c1 : (w.alloc (.cells #[.string f, .int .i64 n, .int .i64 t] 49)).cell? ⟨w.heap.size, 1, none⟩ = some (.int .i64 n) := blk_cell k0.out 1
  have c2 : (w.alloc (.cells #[.string f, .int .i64 n, .int .i64 t] 49)).cell? ⟨w.heap.size, 2, none⟩ = some (.int .i64 t) := blk_cell k0.out 2
  have HB : Below w.heap.size w (w.alloc (.cells #[.string f, .int .i64 n, .int .i64 t] 49)) := (Below.refl _ _).alloc (Nat.le_refl _) _
  have HS : w.heap.size ≤ (w.alloc (.cells #[.string f, .int .i64 n, .int .i64 t] 49)).heap.size := HB.size
  generalize hW : w.alloc (.cells #[.string f, .int .i64 n, .int .i64 t] 49) = w1 at *
  have HW := Lib.hid hW
  have a1 : ¬ 9223372036854775807 < (dgs n).size + 1 := by omega
  have a2 : ¬ 9223372036854775807 < (dgs n).size + 1 + (dgs t).size := by omega
  have a3 : ¬ 9223372036854775807 < (dgs n).size + 1 + (dgs t).size + 1 := by omega
  have a4 : ¬ 9223372036854775807 < (dgs n).size + 1 + (dgs t).size + 1 + f.size := by omega
  clear hW k0
  go_enter Tryd.func22, Tryd.ntmps22
  go_wp2_with fail
  rw [HW.out]
  go_region_held3 (fun w' => w'.cell? ⟨w.heap.size, 0, none⟩ = some (.string f) ∧ w'.cell? ⟨w.heap.size, 1, none⟩ = some (.int .i64 n) ∧ w'.cell? ⟨w.heap.size, 2, none⟩ = some (.int .i64 t) ∧ Below w.heap.size w w' ∧ w.heap.size ≤ w'.heap.size)
    (first | exact ⟨c0, c1, c2, HB.drew, HS⟩ | (go_split_ands; exact ⟨cell_later hb (by assumption), cell_later hb (by assumption), cell_later hb (by assumption), below_on (by assumption) (by assumption) hb, Nat.le_trans (by assumption) hb.size⟩))
    (first | (go_at_call 38; go_split_ands; refine (digits_any _ _ (by omega) (by omega)).mono ?_; rintro e w2 ⟨rfl, hb⟩))
  go_split_ands
  go_wp2
  go_ret2
  exact ⟨by unfold makeV; rw [hd.out]; rfl, by assumption⟩
theorem rmake_any (f : ByteArray) (n t : Int) (w : World) :
    Calls Tryd.prog 22 #[.agg #[.string f, .int .i64 n, .int .i64 t]] w fun e w' => e = .returned (makeV f n t) ∧ Below w.heap.size w w' := by
  by_cases h1 : 1 ≤ f.size
  · by_cases h2 : f.size ≤ 40
    · by_cases h3 : 1 ≤ n
      · by_cases h4 : n ≤ 200
        · by_cases h5 : 1 ≤ t
          · by_cases h6 : t ≤ 100
            · have hd := Lib.hid (show rightB f n t = true from decide_eq_true (by omega))
              exact rmake_yes f n t w hd.out
            · have hd := Lib.hid (show rightB f n t = false from decide_eq_false (by omega))
              go_enter Tryd.func22, Tryd.ntmps22
              go_wp2
              go_ret2
              exact ⟨by unfold makeV; rw [hd.out]; rfl, (Below.refl _ _).alloc (Nat.le_refl _) _⟩
          · have hd := Lib.hid (show rightB f n t = false from decide_eq_false (by omega))
            go_enter Tryd.func22, Tryd.ntmps22
            go_wp2
            go_ret2
            exact ⟨by unfold makeV; rw [hd.out]; rfl, (Below.refl _ _).alloc (Nat.le_refl _) _⟩
        · have hd := Lib.hid (show rightB f n t = false from decide_eq_false (by omega))
          go_enter Tryd.func22, Tryd.ntmps22
          go_wp2
          go_ret2
          exact ⟨by unfold makeV; rw [hd.out]; rfl, (Below.refl _ _).alloc (Nat.le_refl _) _⟩
      · have hd := Lib.hid (show rightB f n t = false from decide_eq_false (by omega))
        go_enter Tryd.func22, Tryd.ntmps22
        go_wp2
        go_ret2
        exact ⟨by unfold makeV; rw [hd.out]; rfl, (Below.refl _ _).alloc (Nat.le_refl _) _⟩
    · have hd := Lib.hid (show rightB f n t = false from decide_eq_false (by omega))
      go_enter Tryd.func22, Tryd.ntmps22
      go_wp2
      go_ret2
      exact ⟨by unfold makeV; rw [hd.out]; rfl, (Below.refl _ _).alloc (Nat.le_refl _) _⟩
  · have hd := Lib.hid (show rightB f n t = false from decide_eq_false (by omega))
    go_enter Tryd.func22, Tryd.ntmps22
    go_wp2
    go_ret2
    exact ⟨by unfold makeV; rw [hd.out]; rfl, (Below.refl _ _).alloc (Nat.le_refl _) _⟩
end Go.Proofs.YtckooioikcenmaaDoor

/- Walks of token.right and token.Make, and of the reference's Make. Conditions: the library's table of powers of ten reads as it is laid. -/
import Derived.Test.YtckooioikcenmaaDoorTokW1
import Derived.Test.YtckooioikcenmaaDoorBase
import Derived.Deep.RegionHeld3
namespace Go.Proofs.YtckooioikcenmaaDoor
open Go.RowKit
/-- What of the package-level variables is used. -/
structure GOK (w : World) : Prop where
  tab : Lib.TabIs Tryd.prog w "internal/strconv.uint64pow10" .u64 Lib.pow10Tab
  syn : ∃ ev, w.cell? ⟨1, 0, none⟩ = some ev ∧ (ev = .nilIface ∨ ∃ te pe, ev = .iface te pe)
  rng : ∃ ev, w.cell? ⟨2, 0, none⟩ = some ev ∧ (ev = .nilIface ∨ ∃ te pe, ev = .iface te pe)
  mx : ∃ m, w.cell? ⟨3, 0, none⟩ = some (.int .i64 m)
theorem right_any (f : ByteArray) (n t : Int) (w : World) :
    Calls Tryd.prog 36 #[.agg #[.string f, .int .i64 n, .int .i64 t]] w fun e w' => e = .returned (.bool (rightB f n t)) ∧ Below w.heap.size w w' := by
  by_cases h1 : 1 ≤ f.size
  · by_cases h2 : f.size ≤ 40
    · by_cases h3 : 1 ≤ n
      · by_cases h4 : n ≤ 200
        · by_cases h5 : 1 ≤ t
          · by_cases h6 : t ≤ 100
            · have hd := Lib.hid (show rightB f n t = true from decide_eq_true (by omega))
              go_enter Tryd.func36, Tryd.ntmps36
              go_wp2
              go_ret
              exact ⟨by rw [hd.out]; rfl, (Below.refl _ _).alloc (Nat.le_refl _) _⟩
            · have hd := Lib.hid (show rightB f n t = false from decide_eq_false (by omega))
              go_enter Tryd.func36, Tryd.ntmps36
              go_wp2
              go_ret
              exact ⟨by rw [hd.out]; rfl, (Below.refl _ _).alloc (Nat.le_refl _) _⟩
          · have hd := Lib.hid (show rightB f n t = false from decide_eq_false (by omega))
            go_enter Tryd.func36, Tryd.ntmps36
            go_wp2
            go_ret
            exact ⟨by rw [hd.out]; rfl, (Below.refl _ _).alloc (Nat.le_refl _) _⟩
        · have hd := Lib.hid (show rightB f n t = false from decide_eq_false (by omega))
          go_enter Tryd.func36, Tryd.ntmps36
          go_wp2
          go_ret
          exact ⟨by rw [hd.out]; rfl, (Below.refl _ _).alloc (Nat.le_refl _) _⟩
      · have hd := Lib.hid (show rightB f n t = false from decide_eq_false (by omega))
        go_enter Tryd.func36, Tryd.ntmps36
        go_wp2
        go_ret
        exact ⟨by rw [hd.out]; rfl, (Below.refl _ _).alloc (Nat.le_refl _) _⟩
    · have hd := Lib.hid (show rightB f n t = false from decide_eq_false (by omega))
      go_enter Tryd.func36, Tryd.ntmps36
      go_wp2
      go_ret
      exact ⟨by rw [hd.out]; rfl, (Below.refl _ _).alloc (Nat.le_refl _) _⟩
  · have hd := Lib.hid (show rightB f n t = false from decide_eq_false (by omega))
    go_enter Tryd.func36, Tryd.ntmps36
    go_wp2
    go_ret
    exact ⟨by rw [hd.out]; rfl, (Below.refl _ _).alloc (Nat.le_refl _) _⟩
theorem make_no (f : ByteArray) (n t : Int) (w : World) (h : rightB f n t = false) :
    Calls Tryd.prog 21 #[.agg #[.string f, .int .i64 n, .int .i64 t]] w fun e w' => e = .returned (.tuple #[.string ⟨#[]⟩, .int .i64 109]) ∧ Below w.heap.size w w' := by
  go_enter Tryd.func21, Tryd.ntmps21
  go_wp2_with fail
  refine (right_any _ _ _ _).mono ?_
  rintro e w1 ⟨rfl, hb1⟩
  go_wp2
  go_ret2
  exact ⟨rfl, ((Below.refl _ _).alloc (Nat.le_refl _) _).trans (hb1.mono (by simp))⟩
theorem below_grow (w : World) (os : Array Obj) : Below w.heap.size w (Sort.grow w os) :=
  ⟨rfl, rfl, rfl, by simp [Sort.grow], fun k hk => by
    show (w.heap ++ os)[k]? = _
    rw [Array.getElem?_append_left hk]⟩
theorem itoa_any (n : Int) (w : World) (h0 : 0 ≤ n) (h1 : n ≤ 9223372036854775807) (hg : GOK w) :
    Calls Tryd.prog 37 #[.int .i64 n] w fun e w' => e = .returned (.string (dgs n)) ∧ Below w.heap.size w w' := by
  refine (Tryd.strconv_Itoa n (by omega) (by omega) w hg.tab).mono ?_
  rintro e w' ⟨rfl, k, os, rfl⟩
  exact ⟨by unfold dgs Lib.itoa; rw [if_neg (by omega)], (below_drewN (Below.refl _ _) k).trans (below_grow (w.drewN k) os)⟩
theorem GOK.below {w w' : World} (h : GOK w) (hb : Below w.heap.size w w') : GOK w' := by
  refine ⟨?_, (let ⟨e, h1, h2⟩ := h.syn; ⟨e, cell_later hb h1, h2⟩), (let ⟨e, h1, h2⟩ := h.rng; ⟨e, cell_later hb h1, h2⟩), (let ⟨e, h1⟩ := h.mx; ⟨e, cell_later hb h1⟩)⟩
  have := h.tab
  unfold Lib.TabIs World.var? at *
  cases hg : Tryd.prog.globalNamed "internal/strconv.uint64pow10" with
  | none => rw [hg] at this; simp at this
  | some g =>
    rw [hg] at this
    simp only [Option.bind_some] at this ⊢
    by_cases hl : g < w.heap.size
    · rw [hb.block g hl]; exact this
    · rw [Array.getElem?_eq_none (by omega)] at this; simp at this
theorem GOK.drew {w : World} (h : GOK w) : GOK w.drew := ⟨h.tab, h.syn, h.rng, h.mx⟩
theorem make_yes (f : ByteArray) (n t : Int) (w : World) (h : rightB f n t = true) (hg : GOK w) :
    Calls Tryd.prog 21 #[.agg #[.string f, .int .i64 n, .int .i64 t]] w fun e w' => e = .returned (.tuple #[.string (mkT f n t), .int .i64 0]) ∧ Below w.heap.size w w' := by
  obtain ⟨h1, h2, h3, h4, h5, h6⟩ := rightB_iff.1 h
  have s1 := dgs_size (n := n) (by omega)
  have s2 := dgs_size (n := t) (by omega)
  go_enter Tryd.func21, Tryd.ntmps21
  go_wp2_with fail
  refine (right_any _ _ _ _).mono ?_
  rintro e w1 ⟨rfl, hb1⟩
  have c0 : w1.cell? ⟨w.heap.size, 0, none⟩ = some (.string f) := (hb1.cell (by simp)).trans (by simp [go_sem])
  have c1 : w1.cell? ⟨w.heap.size, 1, none⟩ = some (.int .i64 n) := (hb1.cell (by simp)).trans (by simp [go_sem])
  have c2 : w1.cell? ⟨w.heap.size, 2, none⟩ = some (.int .i64 t) := (hb1.cell (by simp)).trans (by simp [go_sem])
  have HB : Below w.heap.size w w1 := ((Below.refl _ _).alloc (Nat.le_refl _) _).trans (hb1.mono (by simp))
  have HG := hg.below HB
  have HS : w.heap.size ≤ w1.heap.size := by have := hb1.size; simp at this; omega
  clear hb1
  have a1 : ¬ 9223372036854775807 < (dgs n).size + 1 := by omega
  have a2 : ¬ 9223372036854775807 < (dgs n).size + 1 + (dgs t).size := by omega
  have a3 : ¬ 9223372036854775807 < (dgs n).size + 1 + (dgs t).size + 1 := by omega
  have a4 : ¬ 9223372036854775807 < (dgs n).size + 1 + (dgs t).size + 1 + f.size := by omega
  go_wp2_with fail
  go_region_held3 (fun w' => w'.cell? ⟨w.heap.size, 0, none⟩ = some (.string f) ∧ w'.cell? ⟨w.heap.size, 1, none⟩ = some (.int .i64 n) ∧ w'.cell? ⟨w.heap.size, 2, none⟩ = some (.int .i64 t) ∧ Below w.heap.size w w' ∧ GOK w' ∧ w.heap.size ≤ w'.heap.size)
    (first | exact ⟨c0, c1, c2, HB.drew, HG.drew, HS⟩ | (go_split_ands; exact ⟨cell_later hb (by assumption), cell_later hb (by assumption), cell_later hb (by assumption), below_on (by assumption) (by assumption) hb, GOK.below (by assumption) hb, Nat.le_trans (by assumption) hb.size⟩))
    (first | (go_at_call 37; go_split_ands; refine (itoa_any _ _ (by omega) (by omega) (by assumption)).mono ?_; rintro e w2 ⟨rfl, hb⟩))
  go_split_ands
  go_wp2
  go_ret2
  exact ⟨rfl, by assumption⟩
end Go.Proofs.YtckooioikcenmaaDoor

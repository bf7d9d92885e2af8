/- A slice of instructions of the call's own, one of whose cells is turned. Conditions: none. -/
import Derived.Test.YtckooioikcenmaaDoorPgE1
import Derived.Test.YtckooioikcenmaaDoorPgE2
namespace Go.Proofs.YtckooioikcenmaaDoor
open Go.RowKit
def OwnAt (w : World) (g : Nat) (xs : List Ins) : Prop :=
  ∃ cur, w.heap[g]? = some (.cells cur 34) ∧ ∀ (i : Nat) (x : Ins), xs[i]? = some x → ∀ j, j < 6 → cur[i * 6 + j]? = x.cells[j]?
theorem Ins.cells_some (x : Ins) {j : Nat} (hj : j < 6) : ∃ u, x.cells[j]? = some u := by
  have : j < x.cells.size := hj
  exact ⟨_, Array.getElem?_eq_getElem this⟩
theorem flat_at : ∀ (xs : List Ins) (i : Nat) (x : Ins), xs[i]? = some x → ∀ j, j < 6 → (flat xs)[i * 6 + j]? = x.cells[j]?
  | [], _, _, h, _, _ => by simp at h
  | y :: r, 0, x, h, j, hj => by
    simp at h
    subst h
    have hl : y.cells.toList.length = 6 := rfl
    simp only [flat, List.flatMap_cons, Nat.zero_mul, Nat.zero_add]
    rw [List.getElem?_append_left (by omega)]
    exact Array.getElem?_toList
  | y :: r, i + 1, x, h, j, hj => by
    have hl : y.cells.toList.length = 6 := rfl
    have := flat_at r i x (by simpa using h) j hj
    simp only [flat, List.flatMap_cons] at this ⊢
    rw [List.getElem?_append_right (by omega), hl, show (i + 1) * 6 + j - 6 = i * 6 + j by omega]
    exact this
theorem own_at {base : Nat} {w : World} {v : Value} {xs : List Ins} (h : OwnCode base w v xs) (hpos : 1 ≤ xs.length) : ∃ g cap, v = .slice (some ⟨g, 0, none⟩) xs.length cap ∧ base ≤ g ∧ xs.length ≤ cap ∧ cap ≤ maxLen ∧ OwnAt w g xs := by
  rcases h.2 with ⟨_, h2⟩ | ⟨g, cap, cur, rfl, hb, hh, h1, h2, h3, h4⟩
  · omega
  · refine ⟨g, cap, rfl, hb, h1, h2, cur, hh, fun i x hx j hj => ?_⟩
    have := flat_at xs i x hx j hj
    rw [← h4, List.getElem?_take] at this
    have hi := (List.getElem?_eq_some_iff.1 hx).1
    rw [if_pos (by omega)] at this
    rw [← this]
    exact Array.getElem?_toList.symm
theorem OwnAt.cell {w : World} {g : Nat} {xs : List Ins} (h : OwnAt w g xs) {k : Nat} {x : Ins} (hx : xs[k]? = some x) {j : Nat} (hj : j < 6) : w.cell? ⟨g, k * 6 + j, none⟩ = x.cells[j]? := by
  obtain ⟨cur, h1, h2⟩ := h
  rw [blk_cell h1]
  exact h2 k x hx j hj
theorem OwnAt.free {w : World} {g : Nat} {xs : List Ins} (h : OwnAt w g xs) (o : Nat) : w.frozen? ⟨g, o, none⟩ = false := by
  obtain ⟨cur, h1, h2⟩ := h
  exact blk_free h1 o
theorem OwnAt.keep {w w' : World} {g : Nat} {xs : List Ins} (h : OwnAt w g xs) (hb : w'.heap[g]? = w.heap[g]?) : OwnAt w' g xs := by
  obtain ⟨cur, h1, h2⟩ := h
  exact ⟨cur, hb.trans h1, h2⟩
theorem OwnAt.set {w : World} {g : Nat} {xs : List Ins} (h : OwnAt w g xs) {k j : Nat} {x y : Ins} {u : Value} (hk : xs[k]? = some x) (hj : j < 6) (hu : y.cells[j]? = some u) (ho : ∀ j' < 6, j' ≠ j → y.cells[j']? = x.cells[j']?) :
    OwnAt (w.setCell ⟨g, k * 6 + j, none⟩ u) g (xs.set k y) := by
  obtain ⟨cur, h1, h2⟩ := h
  refine ⟨_, blk_set h1 _ u, fun i z hz j' hj' => ?_⟩
  have hkl := (List.getElem?_eq_some_iff.1 hk).1
  by_cases hik : i = k
  · subst hik
    rw [List.getElem?_set_self hkl] at hz
    cases hz
    by_cases hjj : j' = j
    · subst hjj
      have hlt : i * 6 + j' < cur.size := by
        obtain ⟨u0, hu0⟩ := x.cells_some hj
        have := h2 i x hk j' hj
        rw [hu0] at this
        exact (Array.getElem?_eq_some_iff.1 this).1
      rw [hu, Array.getElem?_setIfInBounds]
      simp [hlt]
    · rw [Array.getElem?_setIfInBounds_ne (by omega), ho j' hj' hjj]
      exact h2 i x hk j' hj'
  · rw [List.getElem?_set_ne (Ne.symm hik)] at hz
    rw [Array.getElem?_setIfInBounds_ne (by omega)]
    exact h2 i z hz j' hj'
theorem OwnAt.code {w : World} {g cap : Nat} {xs : List Ins} (h : OwnAt w g xs) (h1 : xs.length ≤ cap) (h2 : cap ≤ maxLen) : CodeAt w (.slice (some ⟨g, 0, none⟩) xs.length cap) xs := by
  refine .inr ⟨g, 0, cap, rfl, h1, h2, ?_, fun k x hx => ?_⟩
  · obtain ⟨cur, h3, _⟩ := h
    exact blk_lt h3
  · rw [Nat.zero_add]
    exact ⟨h.cell hx (j := 0) (by omega), h.cell hx (j := 1) (by omega), h.cell hx (j := 2) (by omega), h.cell hx (j := 3) (by omega), h.cell hx (j := 4) (by omega), h.cell hx (j := 5) (by omega)⟩
end Go.Proofs.YtckooioikcenmaaDoor

/- ProgramEnds: the plain law. Conditions: none. -/
import Derived.Test.YtckooioikcenmaaDoorPgW9
namespace Go.Proofs.YtckooioikcenmaaDoor
theorem letter_not_n {o : Int} (k : Nat) (hk : k < 4) (h : letter (shapeOf o) k = 110) : k = 3 ∧ o = 1 := by
  by_cases h1 : 1 ≤ o ∧ o ≤ 16
  · have h2 : ∀ k < 4, ∀ n : Nat, 1 ≤ n → n < 17 → letter (shapeOf (n : Int)) k = 110 → k = 3 ∧ n = 1 := by
      intro k hk n hn1 hn2
      have : n = 1 ∨ n = 2 ∨ n = 3 ∨ n = 4 ∨ n = 5 ∨ n = 6 ∨ n = 7 ∨ n = 8 ∨ n = 9 ∨ n = 10 ∨ n = 11 ∨ n = 12 ∨ n = 13 ∨ n = 14 ∨ n = 15 ∨ n = 16 := by omega
      have hk' : k = 0 ∨ k = 1 ∨ k = 2 ∨ k = 3 := by omega
      rcases this with rfl | rfl | rfl | rfl | rfl | rfl | rfl | rfl | rfl | rfl | rfl | rfl | rfl | rfl | rfl | rfl <;>
        rcases hk' with rfl | rfl | rfl | rfl <;> decide
    obtain ⟨n, rfl⟩ := Int.eq_ofNat_of_zero_le (show 0 ≤ o by omega)
    obtain ⟨e1, e2⟩ := h2 k hk n (by omega) (by omega) h
    exact ⟨e1, by omega⟩
  · exfalso
    have e : shapeOf o = ⟨#[]⟩ := by
      unfold shapeOf
      repeat (rw [if_neg (by omega)])
    rw [e] at h
    simp [letter] at h
/-- far past an end, or below 0 -/
def far (n : Int) : Prop := n = 1073741824 ∨ n = -1
theorem may_far {regs len : Int} {l : Nat} {n : Int} (hl : l ≠ 110) (hn : far n) (hr : regs ≤ 16) (hlen : len ≤ 500) : mayOk regs len 20 l n = false := by
  have key : ∀ h : Int, h ≤ 500 → belowOk h n = false := by
    intro h hh
    cases hb : belowOk h n with
    | false => rfl
    | true =>
      have := belowOk_iff.1 hb
      rcases hn with rfl | rfl <;> omega
  unfold mayOk
  split
  · exact key _ (by omega)
  split
  · exact key _ hlen
  split
  · exact key _ (by omega)
  exact key _ (by omega)
theorem fits_if {regs len pol : Int} {i : Ins} (h : ¬ ((shapeOf i.op).size = 0) → (mayOk regs len pol (letter (shapeOf i.op) 0) i.a && mayOk regs len pol (letter (shapeOf i.op) 1) i.b && mayOk regs len pol (letter (shapeOf i.op) 2) i.c && mayOk regs len pol (letter (shapeOf i.op) 3) i.n &&
    (if letter (shapeOf i.op) 4 = 115 then namedOk i.s else decide (i.s.size = 0))) = false) : fitsOk regs len pol i = false := by
  unfold fitsOk
  dsimp only
  split
  · rfl
  · rename_i h0
    exact h h0
theorem far_a {regs len : Int} {i : Ins} {n : Int} (hn : far n) (hr : regs ≤ 16) (hl : len ≤ 500) : fitsOk regs len 20 { i with a := n } = false := by
  refine fits_if fun _ => ?_
  rw [may_far (n := n) (fun e => by have := letter_not_n 0 (by omega) e; omega) hn hr hl]
  simp
theorem far_b {regs len : Int} {i : Ins} {n : Int} (hn : far n) (hr : regs ≤ 16) (hl : len ≤ 500) : fitsOk regs len 20 { i with b := n } = false := by
  refine fits_if fun _ => ?_
  rw [may_far (n := n) (fun e => by have := letter_not_n 1 (by omega) e; omega) hn hr hl]
  simp
theorem far_c {regs len : Int} {i : Ins} {n : Int} (hn : far n) (hr : regs ≤ 16) (hl : len ≤ 500) : fitsOk regs len 20 { i with c := n } = false := by
  refine fits_if fun _ => ?_
  rw [may_far (n := n) (fun e => by have := letter_not_n 2 (by omega) e; omega) hn hr hl]
  simp
theorem far_n {regs len : Int} {i : Ins} {n : Int} (hn : far n) (ho : i.op ≠ 1) (hr : regs ≤ 16) (hl : len ≤ 500) : fitsOk regs len 20 { i with n := n } = false := by
  refine fits_if fun _ => ?_
  rw [may_far (n := n) (fun e => by have := letter_not_n 3 (by omega) e; exact ho this.2) hn hr hl]
  simp
theorem far_s {regs len : Int} {i : Ins} {s : ByteArray} (hs : s.size = 41) : fitsOk regs len 20 { i with s := s } = false := by
  refine fits_if fun _ => ?_
  have h1 : namedOk s = false := by simp [namedOk, hs]
  have h2 : decide (s.size = 0) = false := by simp [hs]
  simp only [h1, h2, ite_self, Bool.and_false]
/-- a program with one instruction that may not be -/
theorem check_set {name : ByteArray} {regs : Int} {xs : List Ins} {k : Nat} {y : Ins} (hk : k < xs.length) (h : fitsOk regs xs.length 20 y = false) : checkOk name regs (xs.set k y) 20 = false := by
  have : (xs.set k y).all (fitsOk regs (xs.set k y).length 20) = false := by
    rw [List.all_eq_false]
    exact ⟨y, List.mem_set hk y, by rw [List.length_set, h]; simp⟩
  simp only [checkOk, this, Bool.and_false, Bool.false_and]
theorem check_bounds {name : ByteArray} {regs : Int} {xs : List Ins} {p : Int} (h : checkOk name regs xs p = true) : regs ≤ 16 ∧ (xs.length : Int) ≤ 500 ∧ 1 ≤ xs.length := by
  simp only [checkOk, Bool.and_eq_true, decide_eq_true_eq] at h
  obtain ⟨⟨⟨⟨⟨⟨h1, h2⟩, h3⟩, h4⟩, h5⟩, _⟩, _⟩ := h
  exact ⟨h3, by omega, h4⟩
end Go.Proofs.YtckooioikcenmaaDoor

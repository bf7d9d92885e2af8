/- The ranges of a program's numbers. Conditions: none. -/
import Derived.Test.YtckooioikcenmaaDoorPgE1
namespace Go.Proofs.YtckooioikcenmaaDoor
theorem may_range {regs len : Int} {l : Nat} {n : Int} (hl : l ≠ 110) (hr : regs ≤ 16) (hlen : len ≤ 500) (h : mayOk regs len 20 l n = true) : 0 ≤ n ∧ n ≤ 500 := by
  have key : ∀ h : Int, h ≤ 500 → belowOk h n = true → 0 ≤ n ∧ n ≤ 500 := fun h hh hb => by
    have := belowOk_iff.1 hb
    omega
  unfold mayOk at h
  split at h
  · exact key _ (by omega) h
  split at h
  · exact key _ hlen h
  split at h
  · exact key _ (by omega) h
  exact key 1 (by omega) (by simpa [hl] using h)
theorem fits_range {regs len : Int} {i : Ins} (hr : regs ≤ 16) (hlen : len ≤ 500) (h : fitsOk regs len 20 i = true) :
    (1 ≤ i.op ∧ i.op ≤ 16) ∧ (0 ≤ i.a ∧ i.a ≤ 500) ∧ (0 ≤ i.b ∧ i.b ≤ 500) ∧ (0 ≤ i.c ∧ i.c ≤ 500) ∧ i.s.size ≤ 40 := by
  have hop : 1 ≤ i.op ∧ i.op ≤ 16 := by
    by_cases h1 : 1 ≤ i.op ∧ i.op ≤ 16
    · exact h1
    · exfalso
      have e : shapeOf i.op = ⟨#[]⟩ := by
        unfold shapeOf
        repeat (rw [if_neg (by omega)])
      unfold fitsOk at h
      rw [e] at h
      simp [ByteArray.size] at h
  unfold fitsOk at h
  dsimp only at h
  split at h
  · cases h
  simp only [Bool.and_eq_true] at h
  obtain ⟨⟨⟨⟨a1, a2⟩, a3⟩, a4⟩, a5⟩ := h
  refine ⟨hop, may_range (fun e => by have := letter_not_n 0 (by omega) e; omega) hr hlen a1, may_range (fun e => by have := letter_not_n 1 (by omega) e; omega) hr hlen a2, may_range (fun e => by have := letter_not_n 2 (by omega) e; omega) hr hlen a3, ?_⟩
  split at a5
  · simp only [namedOk, Bool.and_eq_true, decide_eq_true_eq] at a5
    omega
  · simp only [decide_eq_true_eq] at a5
    omega
end Go.Proofs.YtckooioikcenmaaDoor

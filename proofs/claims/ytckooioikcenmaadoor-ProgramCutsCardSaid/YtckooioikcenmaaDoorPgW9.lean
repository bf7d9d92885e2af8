/- ProgramPolicies: the plain law. Conditions: none. -/
import Derived.Test.YtckooioikcenmaaDoorPgPure
import Derived.Lib.Hide
import Derived.IntWalk
namespace Go.Proofs.YtckooioikcenmaaDoor
theorem belowOk_iff {h n : Int} : belowOk h n = true ↔ 0 ≤ n ∧ n < h := by simp [belowOk]
theorem may_mono {regs len p q : Int} (hpq : p ≤ q) (l : Nat) (n : Int) (h : mayOk regs len p l n = true) : mayOk regs len q l n = true := by
  unfold mayOk at *
  split <;> rename_i h1
  · rw [if_pos h1] at h; exact h
  · rw [if_neg h1] at h
    split <;> rename_i h2
    · rw [if_pos h2] at h; exact h
    · rw [if_neg h2] at h
      split <;> rename_i h3
      · rw [if_pos h3] at h
        rw [belowOk_iff] at *
        omega
      · rw [if_neg h3] at h; exact h
theorem fits_mono {regs len p q : Int} (hpq : p ≤ q) (i : Ins) (h : fitsOk regs len p i = true) : fitsOk regs len q i = true := by
  unfold fitsOk at *
  dsimp only at *
  split <;> rename_i h1
  · rw [if_pos h1] at h; exact h
  · rw [if_neg h1] at h
    simp only [Bool.and_eq_true] at h ⊢
    obtain ⟨⟨⟨⟨a1, a2⟩, a3⟩, a4⟩, a5⟩ := h
    exact ⟨⟨⟨⟨may_mono hpq _ _ a1, may_mono hpq _ _ a2⟩, may_mono hpq _ _ a3⟩, may_mono hpq _ _ a4⟩, a5⟩
theorem check_mono {name : ByteArray} {regs : Int} {xs : List Ins} {p q : Int} (hpq : p ≤ q) (h : checkOk name regs xs p = true) : checkOk name regs xs q = true := by
  simp only [checkOk, Bool.and_eq_true] at h ⊢
  obtain ⟨⟨h1, h2⟩, h3⟩ := h
  refine ⟨⟨h1, ?_⟩, h3⟩
  rw [List.all_eq_true] at *
  exact fun x hx => fits_mono hpq x (h2 x hx)
/-- how many policies a program wants -/
def needOf : List Ins → Int → Int
  | [], acc => acc
  | i :: r, acc => needOf r (if i.op = 10 then max acc (RowKit.wrap64 (i.c + 1)) else acc)
theorem need_ge : ∀ (l : List Ins) (acc : Int), acc ≤ needOf l acc
  | [], _ => Int.le_refl _
  | i :: r, acc => by
    unfold needOf
    refine Int.le_trans ?_ (need_ge r _)
    split
    · exact Int.le_max_left _ _
    · exact Int.le_refl _
theorem need_all : ∀ (l : List Ins) (acc : Int) (i : Ins), i ∈ l → i.op = 10 → RowKit.wrap64 (i.c + 1) ≤ needOf l acc
  | [], _, _, h, _ => by cases h
  | j :: r, acc, i, h, ho => by
    unfold needOf
    rcases List.mem_cons.1 h with rfl | h
    · rw [if_pos ho]
      exact Int.le_trans (Int.le_max_right _ _) (need_ge r _)
    · exact need_all r _ i h ho
theorem need_hit : ∀ (l : List Ins) (acc : Int), needOf l acc = acc ∨ ∃ i ∈ l, i.op = 10 ∧ needOf l acc = RowKit.wrap64 (i.c + 1)
  | [], _ => .inl rfl
  | i :: r, acc => by
    unfold needOf
    split <;> rename_i ho
    · rcases need_hit r (max acc (RowKit.wrap64 (i.c + 1))) with h | ⟨j, hj, hjo, he⟩
      · by_cases hm : acc ≤ RowKit.wrap64 (i.c + 1)
        · exact .inr ⟨i, by simp, ho, by rw [h, Int.max_eq_right hm]⟩
        · exact .inl (by rw [h, Int.max_eq_left (by omega)])
      · exact .inr ⟨j, by simp [hj], hjo, he⟩
    · rcases need_hit r acc with h | ⟨j, hj, hjo, he⟩
      · exact .inl h
      · exact .inr ⟨j, by simp [hj], hjo, he⟩
/-- an act names a policy that is there -/
theorem fits_act {regs len p : Int} {i : Ins} (ho : i.op = 10) (h : fitsOk regs len p i = true) : 0 ≤ i.c ∧ i.c < p := by
  unfold fitsOk at h
  rw [ho] at h
  have e : shapeOf 10 = ⟨#[114, 114, 112, 45, 115]⟩ := rfl
  rw [e] at h
  dsimp only at h
  rw [if_neg (by decide)] at h
  simp only [Bool.and_eq_true] at h
  obtain ⟨⟨⟨⟨a1, a2⟩, a3⟩, a4⟩, a5⟩ := h
  exact belowOk_iff.1 a3
theorem fits_other {regs len p q : Int} {i : Ins} (ho : i.op ≠ 10) : fitsOk regs len p i = fitsOk regs len q i := by
  have key : ∀ k, mayOk regs len p (letter (shapeOf i.op) k) = mayOk regs len q (letter (shapeOf i.op) k) ∨ letter (shapeOf i.op) k = 112 := by
    intro k
    by_cases h : letter (shapeOf i.op) k = 112
    · exact .inr h
    · left
      funext n
      unfold mayOk
      simp [h]
  have no : ∀ k < 4, letter (shapeOf i.op) k ≠ 112 := by
    by_cases h1 : 1 ≤ i.op ∧ i.op ≤ 16
    · have : i.op = 1 ∨ i.op = 2 ∨ i.op = 3 ∨ i.op = 4 ∨ i.op = 5 ∨ i.op = 6 ∨ i.op = 7 ∨ i.op = 8 ∨ i.op = 9 ∨ i.op = 11 ∨ i.op = 12 ∨ i.op = 13 ∨ i.op = 14 ∨ i.op = 15 ∨ i.op = 16 := by omega
      rcases this with h | h | h | h | h | h | h | h | h | h | h | h | h | h | h <;> rw [h] <;> decide
    · have e : shapeOf i.op = ⟨#[]⟩ := by
        unfold shapeOf
        repeat (rw [if_neg (by omega)])
      rw [e]
      decide
  have k0 := (key 0).resolve_right (no 0 (by omega))
  have k1 := (key 1).resolve_right (no 1 (by omega))
  have k2 := (key 2).resolve_right (no 2 (by omega))
  have k3 := (key 3).resolve_right (no 3 (by omega))
  unfold fitsOk
  dsimp only
  rw [k0, k1, k2, k3]
theorem fits_less {regs len p q : Int} {i : Ins} (h : fitsOk regs len p i = true) (hc : i.op = 10 → i.c < q) : fitsOk regs len q i = true := by
  by_cases ho : i.op = 10
  · have hc := hc ho
    have h9 := fits_act ho h
    unfold fitsOk at h ⊢
    rw [ho] at h ⊢
    have e : shapeOf 10 = ⟨#[114, 114, 112, 45, 115]⟩ := rfl
    rw [e] at h ⊢
    dsimp only at h ⊢
    rw [if_neg (by decide)] at h ⊢
    simp only [Bool.and_eq_true] at h ⊢
    obtain ⟨⟨⟨⟨a1, a2⟩, a3⟩, a4⟩, a5⟩ := h
    refine ⟨⟨⟨⟨a1, a2⟩, ?_⟩, a4⟩, a5⟩
    exact belowOk_iff.2 ⟨h9.1, hc⟩
  · rw [fits_other ho] at h; exact h
theorem check_parts {name : ByteArray} {regs : Int} {xs : List Ins} {p : Int} (h : checkOk name regs xs p = true) : xs.all (fitsOk regs xs.length p) = true := by
  simp only [checkOk, Bool.and_eq_true] at h
  exact h.1.2
theorem check_swap {name : ByteArray} {regs : Int} {xs : List Ins} {p q : Int} (h : checkOk name regs xs p = true) (hq : xs.all (fitsOk regs xs.length q) = true) : checkOk name regs xs q = true := by
  simp only [checkOk, Bool.and_eq_true] at h ⊢
  exact ⟨⟨h.1.1, hq⟩, h.2⟩
theorem need_range {name : ByteArray} {regs : Int} {xs : List Ins} (h : checkOk name regs xs 1048576 = true) (i : Ins) (hi : i ∈ xs) (ho : i.op = 10) : RowKit.wrap64 (i.c + 1) = i.c + 1 ∧ 0 ≤ i.c ∧ i.c < 1048576 := by
  have h1 := List.all_eq_true.1 (check_parts h) i hi
  have h2 := fits_act ho h1
  exact ⟨by unfold RowKit.wrap64; omega, h2⟩
theorem need_ok {name : ByteArray} {regs : Int} {xs : List Ins} (h : checkOk name regs xs 1048576 = true) : checkOk name regs xs (needOf xs 0) = true := by
  refine check_swap h ?_
  rw [List.all_eq_true]
  intro i hi
  refine fits_less (List.all_eq_true.1 (check_parts h) i hi) fun ho => ?_
  have := need_range h i hi ho
  have h2 := need_all xs 0 i hi ho
  omega
theorem need_less {name : ByteArray} {regs : Int} {xs : List Ins} (h : checkOk name regs xs 1048576 = true) (h0 : needOf xs 0 ≠ 0) : checkOk name regs xs (needOf xs 0 - 1) = false := by
  rcases need_hit xs 0 with h1 | ⟨i, hi, ho, he⟩
  · exact (h0 h1).elim
  · cases hk : checkOk name regs xs (needOf xs 0 - 1) with
    | false => rfl
    | true =>
      have := need_range h i hi ho
      have h3 := fits_act ho (List.all_eq_true.1 (check_parts hk) i hi)
      omega
theorem need_bounds {name : ByteArray} {regs : Int} {xs : List Ins} (h : checkOk name regs xs 1048576 = true) : 0 ≤ needOf xs 0 ∧ needOf xs 0 ≤ 1048576 := by
  refine ⟨need_ge xs 0, ?_⟩
  rcases need_hit xs 0 with h1 | ⟨i, hi, ho, he⟩
  · omega
  · have := need_range h i hi ho
    omega
end Go.Proofs.YtckooioikcenmaaDoor

/- The plain law of numbers and texts as bytes (layer 1): what is written is read, and what is read was written; no program in sight. Conditions: none. -/
import Derived.Lib.ItoaNum
import Derived.Laws.BytesArg
namespace Go.Proofs.YtckooioikcenmaaDoor
open Go
/-- a number without a sign, in sevens of bits, the lowest first -/
def uv (n : Nat) : List UInt8 := if n < 128 then [UInt8.ofNat n] else UInt8.ofNat (n % 128 + 128) :: uv (n / 128)
termination_by n
decreasing_by omega
/-- a number with a sign -/
def iv (z : Int) : List UInt8 := if z < 0 then uv ((-(z + 1)).toNat * 2 + 1) else uv (z.toNat * 2)
/-- a text: its length, its bytes -/
def blobB (b : List UInt8) : List UInt8 := uv b.length ++ b
/-- reading a number without a sign: its value, how many bytes it has, the error -/
def gU : List UInt8 → Nat → Nat → Nat × Nat × Int
  | [], _, _ => (0, 0, 11)
  | x :: r, k, acc =>
    if (k = 9 ∧ 1 < x.toNat) ∨ (x.toNat = 0 ∧ 0 < k) then (0, 0, 10)
    else if x.toNat < 128 then (acc + x.toNat * 128 ^ k, k + 1, 0)
    else gU r (k + 1) (acc + (x.toNat % 128) * 128 ^ k)
theorem uv_small {n : Nat} (h : n < 128) : uv n = [UInt8.ofNat n] := by rw [uv, if_pos h]
theorem uv_big {n : Nat} (h : ¬ n < 128) : uv n = UInt8.ofNat (n % 128 + 128) :: uv (n / 128) := by rw [uv, if_neg h]
theorem uv_pos (n : Nat) : 1 ≤ (uv n).length := by
  by_cases h : n < 128
  · rw [uv_small h]; simp
  · rw [uv_big h]; simp
theorem uv_len : ∀ (k n : Nat), n < 128 ^ k → 1 ≤ k → (uv n).length ≤ k
  | 0, _, _, h => by omega
  | 1, n, h, _ => by rw [uv_small (by simpa using h)]; simp
  | k + 2, n, h, _ => by
    by_cases h1 : n < 128
    · rw [uv_small h1]; simp
    · rw [uv_big h1]
      have := uv_len (k + 1) (n / 128) (by rw [Nat.pow_succ] at h; exact Nat.div_lt_of_lt_mul (by omega)) (by omega)
      simp; omega
theorem uv_len10 {n : Nat} (h : n < 18446744073709551616) : (uv n).length ≤ 10 := uv_len 10 n (Nat.lt_trans h (by decide)) (by decide)
theorem gU_uv : ∀ (m k acc : Nat) (r : List UInt8), (0 < k → 0 < m) → m * 128 ^ k < 18446744073709551616 → gU (uv m ++ r) k acc = (acc + m * 128 ^ k, k + (uv m).length, 0) := by
  intro m
  induction m using Nat.strongRecOn with
  | _ m ih =>
    intro k acc r hk hm
    by_cases h : m < 128
    · rw [uv_small h]
      have ht : (UInt8.ofNat m).toNat = m := by simp; omega
      simp only [List.cons_append, List.nil_append, gU, ht, List.length_singleton]
      rw [if_neg, if_pos h]
      rintro (⟨rfl, h1⟩ | ⟨h1, h2⟩)
      · have : 2 * 128 ^ 9 ≤ m * 128 ^ 9 := Nat.mul_le_mul_right _ h1
        exact absurd hm (by have e : 2 * 128 ^ 9 = 18446744073709551616 := by decide
                            omega)
      · have := hk h2; omega
    · rw [uv_big h]
      have ht : (UInt8.ofNat (m % 128 + 128)).toNat = m % 128 + 128 := by simp; omega
      have hp : m * 128 ^ k = m % 128 * 128 ^ k + m / 128 * 128 ^ (k + 1) := by
        conv => lhs; rw [← Nat.mod_add_div m 128]
        rw [Nat.add_mul, Nat.pow_succ]
        congr 1
        rw [Nat.mul_comm 128, Nat.mul_assoc, Nat.mul_comm 128]
      simp only [List.cons_append, gU, ht, List.length_cons]
      rw [if_neg, if_neg (by omega), show (m % 128 + 128) % 128 = m % 128 by omega, ih (m / 128) (by omega) (k + 1) _ r (by omega) (by omega)]
      · rw [hp, Nat.add_assoc]
        congr 2; omega
      · rintro (⟨rfl, h1⟩ | ⟨h1, h2⟩)
        · have : 128 * 128 ^ 9 ≤ m * 128 ^ 9 := Nat.mul_le_mul_right _ (by omega)
          exact absurd hm (by have e : 128 * 128 ^ 9 = 1180591620717411303424 := by decide
                              omega)
        · omega
theorem u8_self (x : UInt8) : UInt8.ofNat x.toNat = x := by simp
theorem gU_back : ∀ (l : List UInt8) (k acc n c : Nat), k ≤ 9 → gU l k acc = (n, c, 0) →
    ∃ m r, l = uv m ++ r ∧ n = acc + m * 128 ^ k ∧ c = k + (uv m).length ∧ (0 < k → 0 < m) ∧ m * 128 ^ k < 18446744073709551616
  | [], k, acc, n, c, _, h => by simp [gU] at h
  | x :: r, k, acc, n, c, hk, h => by
    have hx := x.toNat_lt
    simp only [gU] at h
    split at h
    · simp at h
    · rename_i hbad
      have hp10 : (128 : Nat) ^ 9 = 9223372036854775808 := by decide
      split at h
      · rename_i hl
        simp only [Prod.mk.injEq] at h
        refine ⟨x.toNat, r, ?_, h.1.symm, ?_, fun h0 => ?_, ?_⟩
        · rw [uv_small hl, u8_self]; rfl
        · rw [uv_small hl]; simp; omega
        · apply Nat.pos_of_ne_zero; intro e; exact hbad (.inr ⟨e, h0⟩)
        · by_cases h9 : k = 9
          · subst h9
            have : x.toNat ≤ 1 := by
              apply Nat.le_of_not_lt; intro e; exact hbad (.inl ⟨rfl, e⟩)
            rw [hp10]; omega
          · have h1 : 128 ^ k ≤ 128 ^ 8 := Nat.pow_le_pow_right (by decide) (by omega)
            have h2 : (128 : Nat) ^ 8 = 72057594037927936 := by decide
            have h3 : x.toNat * 128 ^ k ≤ 127 * 128 ^ k := Nat.mul_le_mul_right _ (by omega)
            omega
      · rename_i hl
        by_cases h9 : k = 9
        · exfalso; subst h9; exact hbad (.inl ⟨rfl, by omega⟩)
        · obtain ⟨m, r', hr, hn, hc, hm, hb⟩ := gU_back r (k + 1) _ n c (by omega) h
          have hm0 := hm (by omega)
          have hd : (x.toNat % 128 + 128 * m) / 128 = m := by omega
          have hmod : (x.toNat % 128 + 128 * m) % 128 = x.toNat % 128 := by omega
          have hbig : ¬ x.toNat % 128 + 128 * m < 128 := by omega
          have hpow : (x.toNat % 128 + 128 * m) * 128 ^ k = x.toNat % 128 * 128 ^ k + m * 128 ^ (k + 1) := by
            rw [Nat.add_mul, Nat.pow_succ, Nat.mul_comm 128 m, Nat.mul_assoc, Nat.mul_comm 128 (128 ^ k)]
          refine ⟨x.toNat % 128 + 128 * m, r', ?_, ?_, ?_, fun _ => by omega, ?_⟩
          · rw [uv_big hbig, hd, hmod, hr, show x.toNat % 128 + 128 = x.toNat by omega, u8_self]; rfl
          · rw [hpow, hn]; omega
          · rw [uv_big hbig, hd, hc]; simp; omega
          · have h1 : 128 ^ k ≤ 128 ^ 8 := Nat.pow_le_pow_right (by decide) (by omega)
            have h2 : (128 : Nat) ^ 8 = 72057594037927936 := by decide
            -- the lower seven bits fit below the next one
            have h4 : (m + 1) * 128 ^ (k + 1) ≤ 18446744073709551616 := by
              have hdv : (128 : Nat) ^ (k + 1) ∣ 18446744073709551616 ∨ k + 1 = 9 ∧ m ≤ 1 := by
                by_cases h8 : k + 1 = 9
                · refine .inr ⟨h8, ?_⟩
                  apply Nat.le_of_not_lt; intro e
                  have : 2 * 128 ^ (k + 1) ≤ m * 128 ^ (k + 1) := Nat.mul_le_mul_right _ e
                  rw [h8, hp10] at this; rw [h8, hp10] at hb; omega
                · exact .inl ⟨2 ^ (64 - 7 * (k + 1)), by
                    rw [show (128 : Nat) = 2 ^ 7 from rfl, ← Nat.pow_mul, ← Nat.pow_add, show 7 * (k + 1) + (64 - 7 * (k + 1)) = 64 by omega]⟩
              rcases hdv with ⟨q, hq⟩ | ⟨h8, h1⟩
              · have hpp : 0 < (128 : Nat) ^ (k + 1) := Nat.pow_pos (by decide)
                have : m < q := by
                  apply Nat.lt_of_mul_lt_mul_right (a := 128 ^ (k + 1))
                  rw [Nat.mul_comm q]; omega
                have : (m + 1) * 128 ^ (k + 1) ≤ q * 128 ^ (k + 1) := Nat.mul_le_mul_right _ this
                rw [Nat.mul_comm q] at this; omega
              · rw [h8, hp10]; omega
            have h5 : x.toNat % 128 * 128 ^ k < 128 ^ (k + 1) := by
              rw [Nat.pow_succ, Nat.mul_comm (128 ^ k)]
              exact Nat.mul_lt_mul_of_pos_right (by omega) (Nat.pow_pos (by decide))
            rw [Nat.add_mul, Nat.one_mul] at h4
            rw [hpow]; omega
theorem gU_err : ∀ (l : List UInt8) (k acc n c : Nat) (e : Int), gU l k acc = (n, c, e) → e ≠ 0 → n = 0 ∧ c = 0 ∧ (e = 10 ∨ e = 11)
  | [], k, acc, n, c, e, h, he => by simp [gU] at h; omega
  | x :: r, k, acc, n, c, e, h, he => by
    simp only [gU] at h
    split at h
    · simp at h; omega
    · split at h
      · simp at h; omega
      · exact gU_err r _ _ n c e h he
/-- unlike numbers are written unlike, whatever stands behind -/
theorem uv_inj {m n : Nat} {r s : List UInt8} (hm : m < 18446744073709551616) (hn : n < 18446744073709551616) (h : uv m ++ r = uv n ++ s) : m = n ∧ r = s := by
  have h1 := gU_uv m 0 0 r (by omega) (by omega)
  have h2 := gU_uv n 0 0 s (by omega) (by omega)
  rw [h, h2] at h1
  simp only [Prod.mk.injEq, Nat.pow_zero, Nat.mul_one, Nat.zero_add, and_true] at h1
  have e : m = n := h1.1.symm
  subst e
  exact ⟨rfl, List.append_cancel_left h⟩
theorem gU_zero {n : Nat} (h : n < 18446744073709551616) (r : List UInt8) : gU (uv n ++ r) 0 0 = (n, (uv n).length, 0) := by
  have := gU_uv n 0 0 r (by omega) (by omega)
  simpa using this
theorem gU_zero_back {l : List UInt8} {n c : Nat} (h : gU l 0 0 = (n, c, 0)) : n < 18446744073709551616 ∧ c = (uv n).length ∧ l = uv n ++ l.drop c := by
  obtain ⟨m, r, h1, h2, h3, _, h5⟩ := gU_back l 0 0 n c (by omega) h
  simp only [Nat.pow_zero, Nat.mul_one, Nat.zero_add] at h2 h3 h5
  subst h2
  refine ⟨h5, h3, ?_⟩
  rw [h3, h1, List.drop_left]
/-- the number with a sign that a number without one stands for -/
def zig (n : Nat) : Int := if n % 2 = 1 then -((n / 2 : Nat) : Int) - 1 else ((n / 2 : Nat) : Int)
/-- and back -/
def zag (z : Int) : Nat := if z < 0 then (-(z + 1)).toNat * 2 + 1 else z.toNat * 2
theorem iv_zag (z : Int) : iv z = uv (zag z) := by unfold iv zag; split <;> rfl
theorem zig_zag (z : Int) : zig (zag z) = z := by
  unfold zig zag
  split <;> rename_i h
  · rw [if_pos (by omega)]; omega
  · rw [if_neg (by omega)]; omega
theorem zag_zig (n : Nat) : zag (zig n) = n := by
  unfold zig zag
  split <;> rename_i h
  · rw [if_pos (by omega)]; omega
  · rw [if_neg (by omega)]; omega
theorem zag_lt {z : Int} (h0 : -9223372036854775808 ≤ z) (h1 : z ≤ 9223372036854775807) : zag z < 18446744073709551616 := by
  unfold zag; split <;> omega
theorem zig_range {n : Nat} (h : n < 18446744073709551616) : -9223372036854775808 ≤ zig n ∧ zig n ≤ 9223372036854775807 := by
  unfold zig; split <;> omega
end Go.Proofs.YtckooioikcenmaaDoor

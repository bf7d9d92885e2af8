/- Walk of bytes.GetUint. Conditions: sizes a machine can have. -/
import Derived.Test.YtckooioikcenmaaDoorBytesW2
namespace Go.Proofs.YtckooioikcenmaaDoor
open Go.RowKit
theorem andNot_fin : ∀ y : Fin 256, bits .andNot .u8 ((y.val : Nat) : Int) 128 = ((y.val % 128 : Nat) : Int) := by decide +kernel
theorem andNot128 (x : UInt8) : bits .andNot .u8 (x.toNat : Int) 128 = ((x.toNat % 128 : Nat) : Int) := andNot_fin ⟨x.toNat, x.toNat_lt⟩
/-- what GetUint answers: the number, the place behind it, the error -/
def getU (ys : List UInt8) (at_ : Int) : Nat × Int × Int :=
  if at_ < 0 ∨ (ys.length : Int) < at_ then (0, 0, 2) else ((gU (ys.drop at_.toNat) 0 0).1, (if (gU (ys.drop at_.toNat) 0 0).2.2 = 0 then at_ + (gU (ys.drop at_.toNat) 0 0).2.1 else 0), (gU (ys.drop at_.toNat) 0 0).2.2)
theorem or_nat (acc y j : Nat) (h : acc < 2 ^ j) : acc ||| y * 2 ^ j = acc + y * 2 ^ j := by
  have := Nat.two_pow_add_eq_or_of_lt h y
  rw [Nat.or_comm, Nat.mul_comm y, ← this, Nat.add_comm]
theorem pow128 (k : Nat) : (128 : Nat) ^ k = 2 ^ (7 * k) := by rw [Nat.pow_mul]
theorem or_shift (acc y k : Nat) (h : acc < 128 ^ k) (hy : acc + y * 128 ^ k < 18446744073709551616) : bits .or .u64 (acc : Int) (IntKind.u64.wrap ((y : Int) * 2 ^ (7 * k))) = ((acc + y * 128 ^ k : Nat) : Int) := by
  rw [pow128] at h hy ⊢
  have e : ((y : Int) * 2 ^ (7 * k)) = ((y * 2 ^ (7 * k) : Nat) : Int) := by push_cast; rfl
  have e2 : IntKind.u64.wrap ((y * 2 ^ (7 * k) : Nat) : Int) = ((y * 2 ^ (7 * k) : Nat) : Int) := by rw [IntKind.wrap_u64]; omega
  rw [e, e2, bits_or_u64_nat _ _ (by omega) (by omega), or_nat _ _ _ h]
theorem or_shift_mod (acc x k : Nat) (h : acc < 128 ^ k) (hy : acc + x % 128 * 128 ^ k < 18446744073709551616) : bits .or .u64 (acc : Int) (IntKind.u64.wrap ((x : Int) % 128 * 2 ^ (7 * k))) = ((acc + x % 128 * 128 ^ k : Nat) : Int) := by
  rw [← or_shift acc (x % 128) k h hy]
  rw [show ((x % 128 : Nat) : Int) = (x : Int) % 128 by omega]
theorem or_ninth_mod (acc x : Nat) (h : acc < 128 ^ 9) (hx : x ≤ 1) : bits .or .u64 (acc : Int) ((x : Int) % 128 * 9223372036854775808) = ((acc + x * 128 ^ 9 : Nat) : Int) := by
  have h9 : (128 : Nat) ^ 9 = 9223372036854775808 := by decide
  have := or_shift acc x 9 h (by rw [h9] at h ⊢; omega)
  rw [← this]
  congr 1
  rw [IntKind.wrap_u64]
  omega
theorem acc_next {acc y k : Nat} (h : acc < 128 ^ k) (hy : y < 128) : acc + y * 128 ^ k < 128 ^ (k + 1) := by
  have : (y + 1) * 128 ^ k ≤ 128 * 128 ^ k := Nat.mul_le_mul_right _ hy
  rw [Nat.pow_succ, Nat.mul_comm (128 ^ k)]
  rw [Nat.add_mul, Nat.one_mul] at this
  omega
theorem acc_fits {acc k : Nat} (h : acc < 128 ^ k) (hk : k ≤ 9) : acc < 18446744073709551616 := by
  have h1 : 128 ^ k ≤ 128 ^ 9 := Nat.pow_le_pow_right (by decide) hk
  have h9 : (128 : Nat) ^ 9 = 9223372036854775808 := by decide
  omega
theorem getU_of {ys : List UInt8} {a n c : Nat} {e : Int} (ha : a ≤ ys.length) (h : gU (ys.drop a) 0 0 = (n, c, e)) : getU ys a = (n, if e = 0 then (a : Int) + c else 0, e) := by
  unfold getU
  rw [if_neg (by omega), Int.toNat_natCast, h]
def GetPost (ys : List UInt8) (a : Int) (w : World) (e : Ending) (w' : World) : Prop :=
  e = .returned (.tuple #[.int .u64 (getU ys a).1, .int .i64 (getU ys a).2.1, .int .i64 (getU ys a).2.2]) ∧ w = w'
set_option maxRecDepth 20000 in
set_option maxHeartbeats 1000000 in
theorem getUint_in (b o c : Nat) (ys : List UInt8) (a : Nat) (w : World) (hc : ys.length ≤ c) (hm : c ≤ maxLen) (ha : a < ys.length)
    (hcell : ∀ (j : Nat) (x : UInt8), ys[j]? = some x → w.cell? ⟨b, o + j, none⟩ = some (.int .u8 (x.toNat : Int))) :
    Calls Tryd.prog 50 #[.slice (some ⟨b, o, none⟩) ys.length c, .int .i64 a] w (GetPost ys a w) := by
  unfold maxLen at hm
  go_enter Tryd.func50, Tryd.ntmps50
  go_wp2_with fail
  go_loop [7, 23] (fun u i => ∃ k acc : Nat, u = .int .u64 acc ∧ i = .int .i64 k ∧ k ≤ ys.length - a ∧ k ≤ 9 ∧ acc < 128 ^ k ∧ Hid (gU (ys.drop a) 0 0 = gU (ys.drop (a + k)) k acc)) (fun _ i => ys.length - (intOf i).toNat)
  case atStart => exact ⟨0, 0, rfl, rfl, by omega, by omega, by decide, rfl⟩
  case round =>
    obtain ⟨k, acc, rfl, rfl, hk1, hk2, hacc, hG⟩ := hrel
    by_cases hlt : k < ys.length - a
    · obtain ⟨x, hx⟩ : ∃ x, ys[a + k]? = some x := ⟨ys[a + k], by simp [List.getElem?_eq_getElem (show a + k < ys.length by omega)]⟩
      have hcx := hcell _ _ hx
      rw [← Nat.add_assoc] at hcx
      have e1 := andNot128 x
      have bx := x.toNat_lt
      have hdrop : ys.drop (a + k) = x :: ys.drop (a + (k + 1)) := by
        obtain ⟨hl, he⟩ := List.getElem?_eq_some_iff.1 hx
        rw [List.drop_eq_getElem_cons hl, he]; rfl
      rw [hdrop] at hG
      have hG' := hG.out
      have H1 := Lib.hid hx; have H2 := Lib.hid hdrop; have H3 := Lib.hid hcell
      clear hx hdrop hcell hG
      have HG := Lib.hid hG'; clear hG'
      by_cases h9 : k = 9
      · subst h9
        by_cases hx1 : x.toNat ≤ 1
        · by_cases hx0 : x.toNat = 0
          · have hd := Lib.hid (getU_of (by omega) (HG.out.trans (by unfold gU; rw [if_pos (.inr ⟨hx0, by omega⟩)])))
            go_wp2
            go_ret3
            exact ⟨by rw [hd.out]; rfl, rfl⟩
          · have hx2 : x.toNat = 1 := by omega
            have hor := or_ninth_mod acc x.toNat hacc hx1
            have hd := Lib.hid (getU_of (by omega) (HG.out.trans (by unfold gU; rw [if_neg (by omega), if_pos (by omega)])))
            clear hx2
            go_wp2
            go_ret3
            exact ⟨by rw [hd.out]; rfl, rfl⟩
        · have hd := Lib.hid (getU_of (by omega) (HG.out.trans (by unfold gU; rw [if_pos (.inl ⟨rfl, by omega⟩)])))
          go_wp2
          go_ret3
          exact ⟨by rw [hd.out]; rfl, rfl⟩
      · have hfit := acc_fits (k := k + 1) (acc_next hacc (y := x.toNat % 128) (by omega)) (by omega)
        have hor := or_shift_mod acc x.toNat k hacc hfit
        by_cases hl : x.toNat < 128
        · by_cases hz : x.toNat = 0 ∧ 0 < k
          · obtain ⟨hz1, hz2⟩ := hz
            have hd := Lib.hid (getU_of (by omega) (HG.out.trans (by unfold gU; rw [if_pos (.inr ⟨hz1, hz2⟩)])))
            go_wp2
            go_ret3
            exact ⟨by rw [hd.out]; rfl, rfl⟩
          · have hl' : x.toNat % 128 = x.toNat := by omega
            rw [hl'] at hor
            have hd := Lib.hid (getU_of (by omega) (HG.out.trans (by unfold gU; rw [if_neg (by omega), if_pos hl])))
            by_cases hx0 : x.toNat = 0
            · obtain rfl : k = 0 := by omega
              obtain rfl : acc = 0 := by simp at hacc; exact hacc
              have e0 : bits .andNot .u8 0 128 = 0 := by decide +kernel
              have e2 : bits .or .u64 0 0 = 0 := by decide +kernel
              have hx0' := Lib.hid hx0
              rw [Nat.add_zero] at hcx
              clear hor hl'
              go_wp2
              go_ret3
              exact ⟨by rw [hd.out, hx0'.out]; rfl, rfl⟩
            · clear hz hl'
              go_wp2
              go_ret3
              exact ⟨by rw [hd.out]; rfl, rfl⟩
        · have hg : gU (x :: ys.drop (a + (k + 1))) k acc = gU (ys.drop (a + (k + 1))) (k + 1) (acc + x.toNat % 128 * 128 ^ k) := by
            rw [gU, if_neg (by omega), if_neg hl]
          have hn := Lib.hid (HG.out.trans hg)
          have hnx := acc_next hacc (y := x.toNat % 128) (by omega)
          clear hg
          go_wp2
          go_round
          case rel => exact ⟨_, _, _, _, _, _, _, _, ⟨k + 1, acc + x.toNat % 128 * 128 ^ k, rfl, rfl, by omega, by omega, hnx, hn.out⟩, rfl, rfl, rfl, by push_cast; rfl, rfl, rfl, rfl, by go_num⟩
          case measure => simp [intOf]; omega
    · have hd := Lib.hid (getU_of (by omega) (hG.out.trans (by rw [List.drop_eq_nil_of_le (by omega)])))
      clear hG
      go_wp2
      go_ret3
      exact ⟨by rw [hd.out]; rfl, rfl⟩
end Go.Proofs.YtckooioikcenmaaDoor

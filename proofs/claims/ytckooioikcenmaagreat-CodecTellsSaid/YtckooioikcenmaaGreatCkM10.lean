/- The plain law of the document's own numbers as bytes (reference of layer 1): bits one by one. No program in sight. Conditions: none. -/
import Derived.Test.YtckooioikcenmaaGreatCkM0
import Derived.BigRegion
import Derived.StillTailTactics
import Derived.Deep.OwnRows
import Derived.Test.YtckooioikcenmaaGreatCkM6
namespace Go.Proofs.YtckooioikcenmaaGreat
open Go
/-- is the k-th bit set? -/
def bitAt (n k : Nat) : Bool := decide (n / 2 ^ k % 2 = 1)
/-- the highest of the first i bits that is set -/
def hiTo (n : Nat) : Nat → Nat
  | 0 => 0
  | i + 1 => if bitAt n i = true then i else hiTo n i
theorem hiTo_le (n : Nat) : ∀ i, hiTo n i ≤ i
  | 0 => Nat.le_refl _
  | i + 1 => by
    rw [hiTo]
    split
    · omega
    · have := hiTo_le n i; omega
theorem hiTo_lt (n : Nat) : ∀ i, 0 < i → hiTo n i < i
  | 0, h => by omega
  | i + 1, _ => by
    rw [hiTo]
    split
    · omega
    · have := hiTo_le n i; omega
theorem bit_split (n i : Nat) : n % 2 ^ (i + 1) = n % 2 ^ i + 2 ^ i * (n / 2 ^ i % 2) := by
  rw [Nat.pow_succ, Nat.mod_mul]
theorem hiTo_spec (n : Nat) : ∀ i, (n % 2 ^ i = 0 → hiTo n i = 0) ∧ (n % 2 ^ i ≠ 0 → 2 ^ hiTo n i ≤ n % 2 ^ i ∧ n % 2 ^ i < 2 ^ (hiTo n i + 1))
  | 0 => ⟨fun _ => rfl, fun h => absurd (by simp [Nat.mod_one]) h⟩
  | i + 1 => by
    have ih := hiTo_spec n i
    have hs := bit_split n i
    have hlt : n % 2 ^ i < 2 ^ i := Nat.mod_lt _ (Nat.pow_pos (by decide))
    have hp : 2 ^ (i + 1) = 2 ^ i + 2 ^ i := by rw [Nat.pow_succ]; omega
    rw [hiTo]
    by_cases hb : n / 2 ^ i % 2 = 1
    · rw [if_pos (by simp [bitAt, hb]), hs, hb]
      have : 0 < 2 ^ i := Nat.pow_pos (by decide)
      refine ⟨fun h => by omega, fun _ => by omega⟩
    · have h0 : n / 2 ^ i % 2 = 0 := by omega
      rw [if_neg (by simp [bitAt, hb]), hs, h0]
      simpa using ih
theorem uv_len_is : ∀ (s n : Nat), 1 ≤ s → n < 128 ^ s → (s = 1 ∨ 128 ^ (s - 1) ≤ n) → (uv n).length = s
  | 0, _, h, _, _ => by omega
  | 1, n, _, h, _ => by rw [uv_small (by simpa using h)]; rfl
  | s + 2, n, _, h, h2 => by
    rcases h2 with h2 | h2
    · omega
    have h2' : 128 ^ (s + 1) ≤ n := h2
    have hge : 128 ≤ n := Nat.le_trans (by rw [Nat.pow_succ]; exact Nat.le_mul_of_pos_left _ (Nat.pow_pos (by decide))) h2'
    rw [uv_big (by omega), List.length_cons, uv_len_is (s + 1) (n / 128) (by omega) (by rw [Nat.pow_succ] at h; exact Nat.div_lt_of_lt_mul (by omega)) (by
      by_cases h0 : s = 0
      · left; omega
      · right
        show 128 ^ (s + 1 - 1) ≤ n / 128
        rw [Nat.add_sub_cancel]
        rw [Nat.le_div_iff_mul_le (by decide), ← Nat.pow_succ]
        exact h2')]
/-- how many sevens of bits a number has -/
theorem sevens_is {n : Nat} (h : n < 18446744073709551616) : hiTo n 64 / 7 + 1 = (uv n).length := by
  symm
  have hs := hiTo_spec n 64
  have hm : n % 2 ^ 64 = n := Nat.mod_eq_of_lt (by simpa using h)
  rw [hm] at hs
  by_cases h0 : n = 0
  · subst h0
    rw [hs.1 rfl, uv_small (by decide)]
    rfl
  · obtain ⟨h1, h2⟩ := hs.2 h0
    generalize hiTo n 64 = k at *
    have e : ∀ j : Nat, (128 : Nat) ^ j = 2 ^ (7 * j) := fun j => by rw [show (128 : Nat) = 2 ^ 7 from rfl, ← Nat.pow_mul]
    refine uv_len_is _ _ (by omega) ?_ ?_
    · rw [e]
      exact Nat.lt_of_lt_of_le h2 (Nat.pow_le_pow_right (by decide) (by omega))
    · by_cases h7 : k / 7 = 0
      · left; omega
      · right
        rw [e]
        exact Nat.le_trans (Nat.pow_le_pow_right (by decide) (by omega)) h1
/-- what the j-th byte has of the first i bits -/
def partAt (n i j : Nat) : Nat := n / 128 ^ j % 2 ^ min 7 (i - 7 * j)
theorem partAt_zero (n j : Nat) : partAt n 0 j = 0 := by
  unfold partAt
  rw [Nat.zero_sub, Nat.min_zero, Nat.pow_zero, Nat.mod_one]
theorem partAt_lt (n i j : Nat) : partAt n i j < 128 := by
  unfold partAt
  refine Nat.lt_of_lt_of_le (Nat.mod_lt _ (Nat.pow_pos (by decide))) ?_
  rw [show (128 : Nat) = 2 ^ 7 from rfl]
  exact Nat.pow_le_pow_right (by decide) (Nat.min_le_left _ _)
theorem partAt_other {n i j : Nat} (h : j ≠ i / 7) : partAt n (i + 1) j = partAt n i j := by
  unfold partAt
  congr 2
  omega
theorem pow128r (j : Nat) : (128 : Nat) ^ j = 2 ^ (7 * j) := by rw [show (128 : Nat) = 2 ^ 7 from rfl, ← Nat.pow_mul]
theorem partAt_here (n i : Nat) : partAt n (i + 1) (i / 7) = partAt n i (i / 7) + (if bitAt n i = true then 2 ^ (i % 7) else 0) := by
  unfold partAt
  have h1 : min 7 (i + 1 - 7 * (i / 7)) = i % 7 + 1 := by omega
  have h2 : min 7 (i - 7 * (i / 7)) = i % 7 := by omega
  rw [h1, h2, bit_split]
  congr 1
  have h3 : n / 128 ^ (i / 7) / 2 ^ (i % 7) = n / 2 ^ i := by
    rw [Nat.div_div_eq_div_mul, pow128r, ← Nat.pow_add]
    congr 2
    omega
  rw [h3]
  unfold bitAt
  by_cases hb : n / 2 ^ i % 2 = 1
  · rw [if_pos (by simp [hb]), hb, Nat.mul_one]
  · rw [if_neg (by simp [hb]), show n / 2 ^ i % 2 = 0 by omega, Nat.mul_zero]
theorem partAt_full {n s j : Nat} (h : j < s) : partAt n (7 * s) j = n / 128 ^ j % 128 := by
  unfold partAt
  rw [show min 7 (7 * s - 7 * j) = 7 by omega]
/-- the bytes of a number, one by one -/
theorem uv_at : ∀ (n j : Nat), j < (uv n).length → (uv n)[j]? = some (UInt8.ofNat (n / 128 ^ j % 128 + (if j + 1 < (uv n).length then 128 else 0))) := by
  intro n
  induction n using Nat.strongRecOn with
  | _ n ih =>
    intro j hj
    by_cases h : n < 128
    · rw [uv_small h] at hj ⊢
      simp at hj
      subst hj
      simp [Nat.mod_eq_of_lt h]
    · rw [uv_big h] at hj ⊢
      cases j with
      | zero =>
        have := uv_pos (n / 128)
        simp only [List.getElem?_cons_zero, List.length_cons, Nat.pow_zero, Nat.div_one]
        rw [if_pos (by omega)]
      | succ j =>
        simp only [List.getElem?_cons_succ, List.length_cons] at hj ⊢
        rw [ih (n / 128) (by omega) j (by omega)]
        have : n / 128 / 128 ^ j = n / 128 ^ (j + 1) := by rw [Nat.div_div_eq_div_mul, Nat.pow_succ, Nat.mul_comm]
        rw [this]
        congr 4
        simp
end Go.Proofs.YtckooioikcenmaaGreat
namespace Go.Proofs.YtckooioikcenmaaGreat
open Go.RowKit
def bitsArr (n i : Nat) : Array Value := ((List.range 70).map fun k => Value.bool (decide (k < i) && bitAt n k)).toArray
theorem bitsArr_at {n i k : Nat} (h : k < 70) : (bitsArr n i)[k]? = some (.bool (decide (k < i) && bitAt n k)) := by
  simp [bitsArr, h]
theorem bitsArr_next (n i : Nat) (h : i < 70) : (bitsArr n i).setIfInBounds i (.bool (bitAt n i)) = bitsArr n (i + 1) := by
  apply Array.ext_getElem?
  intro k
  by_cases hk : k < 70
  · rw [Array.getElem?_setIfInBounds, bitsArr_at hk, bitsArr_at hk]
    by_cases e : i = k
    · subst e
      rw [if_pos rfl, if_pos (by simp [bitsArr, h])]
      simp
    · rw [if_neg e]
      congr 3
      rw [decide_eq_decide]
      omega
  · rw [Array.getElem?_eq_none (by simp [bitsArr]; omega), Array.getElem?_eq_none (by simp [bitsArr]; omega)]
theorem bitsArr_zero (n : Nat) : Tryz.zeroCells219 = bitsArr n 0 := by
  have h1 : Tryz.zeroCells219 = (List.replicate 70 (Value.bool false)).toArray := by rfl
  rw [h1]
  unfold bitsArr
  have h2 : (fun k => Value.bool (decide (k < 0) && bitAt n k)) = fun _ => Value.bool false := by
    funext k
    simp
  rw [h2, List.map_const', List.length_range]
theorem bits_end {n : Nat} (hn : n < 18446744073709551616) (i : Nat) : (decide (i < 64) && bitAt n i) = bitAt n i := by
  by_cases h : i < 64
  · simp [h]
  · have h1 : n / 2 ^ i = 0 := by
      rw [Nat.div_eq_zero_iff]
      right
      exact Nat.lt_of_lt_of_le hn (by rw [show (18446744073709551616 : Nat) = 2 ^ 64 from rfl]; exact Nat.pow_le_pow_right (by decide) (by omega))
    simp [h, bitAt, h1]
def outArr (n i s : Nat) : Array Value := ((List.range s).map fun j => Value.int .u8 ((partAt n i j : Nat) : Int)).toArray
theorem outArr_at {n i s j : Nat} (h : j < s) : (outArr n i s)[j]? = some (.int .u8 ((partAt n i j : Nat) : Int)) := by simp [outArr, h]
theorem outArr_zero (n s : Nat) : madeCells #[Value.int .u8 0] s = outArr n 0 s := by
  apply Array.ext_getElem?
  intro k
  by_cases hk : k < s
  · rw [outArr_at hk, partAt_zero]
    simp [madeCells, hk, Nat.mod_one]
  · rw [Array.getElem?_eq_none (by simp [madeCells]; omega), Array.getElem?_eq_none (by simp [outArr]; omega)]
theorem outArr_next (n i s : Nat) (h : i / 7 < s) : (outArr n i s).setIfInBounds (i / 7) (.int .u8 ((partAt n (i + 1) (i / 7) : Nat) : Int)) = outArr n (i + 1) s := by
  apply Array.ext_getElem?
  intro k
  by_cases hk : k < s
  · rw [Array.getElem?_setIfInBounds, outArr_at hk, outArr_at hk]
    by_cases e : i / 7 = k
    · subst e
      rw [if_pos rfl, if_pos (by simp [outArr, h])]
    · rw [if_neg e, partAt_other (Ne.symm e)]
  · rw [Array.getElem?_eq_none (by simp [outArr]; omega), Array.getElem?_eq_none (by simp [outArr]; omega)]
def finAt (n k j : Nat) : Nat := n / 128 ^ j % 128 + (if j < k then 128 else 0)
def outFin (n k s : Nat) : Array Value := ((List.range s).map fun j => Value.int .u8 ((finAt n k j : Nat) : Int)).toArray
theorem outFin_at {n k s j : Nat} (h : j < s) : (outFin n k s)[j]? = some (.int .u8 ((finAt n k j : Nat) : Int)) := by simp [outFin, h]
theorem outArr_end (n s : Nat) : outArr n (7 * s) s = outFin n 0 s := by
  unfold outArr outFin
  congr 1
  apply List.map_congr_left
  intro j hj
  rw [partAt_full (List.mem_range.1 hj)]
  simp [finAt]
theorem finAt_here (n k : Nat) : finAt n k k < 128 ∧ finAt n (k + 1) k = finAt n k k + 128 := by
  unfold finAt
  rw [if_neg (by omega), if_pos (by omega)]
  omega
theorem outFin_next (n k s : Nat) (h : k < s) : (outFin n k s).setIfInBounds k (.int .u8 ((finAt n (k + 1) k : Nat) : Int)) = outFin n (k + 1) s := by
  apply Array.ext_getElem?
  intro j
  by_cases hj : j < s
  · rw [Array.getElem?_setIfInBounds, outFin_at hj, outFin_at hj]
    by_cases e : k = j
    · subst e
      rw [if_pos rfl, if_pos (by simp [outFin, h])]
    · rw [if_neg e]
      have : finAt n (k + 1) j = finAt n k j := by
        unfold finAt
        congr 1
        by_cases h1 : j < k
        · rw [if_pos h1, if_pos (by omega)]
        · rw [if_neg h1, if_neg (by omega)]
      rw [this]
  · rw [Array.getElem?_eq_none (by simp [outFin]; omega), Array.getElem?_eq_none (by simp [outFin]; omega)]
theorem outFin_end {n s : Nat} (hs : (uv n).length = s) : (outFin n (s - 1) s).toList = Lib.byteCells (uv n) := by
  apply List.ext_getElem?
  intro j
  by_cases hj : j < s
  · have h1 := uv_at n j (by omega)
    rw [hs] at h1
    have h2 : (outFin n (s - 1) s).toList[j]? = some (.int .u8 ((finAt n (s - 1) j : Nat) : Int)) := by
      have := outFin_at (n := n) (k := s - 1) hj
      simpa using this
    rw [h2]
    unfold Lib.byteCells
    rw [List.getElem?_map, h1]
    simp only [Option.map_some]
    congr 2
    unfold finAt
    have h4 : n / 128 ^ j % 128 < 128 := Nat.mod_lt _ (by decide)
    by_cases h3 : j + 1 < s
    · rw [if_pos h3, if_pos (by omega)]
      simp
      omega
    · rw [if_neg h3, if_neg (by omega)]
      simp
      omega
  · rw [List.getElem?_eq_none (by simp [outFin]; omega), List.getElem?_eq_none (by simp [Lib.byteCells, hs]; omega)]
set_option maxRecDepth 20000 in
set_option maxHeartbeats 4000000 in
theorem varint_any (n : Nat) (hn : n < 18446744073709551616) (w : World) : Calls Tryz.prog 120 #[.int .u64 n] w fun e w' => ∃ v, e = .returned v ∧ Bytes w.heap.size w' v (uv n) ∧ Below w.heap.size w w' := by
  go_enter Tryz.func120, Tryz.ntmps120
  go_wp2
  rw [bitsArr_zero n]
  go_loopw [0, 4, 5] (fun nn hh ii wr => ∃ i : Nat, ii = .int .i64 i ∧ i ≤ 64 ∧ nn = .int .u64 ((n / 2 ^ i : Nat) : Int) ∧ hh = .int .i64 ((hiTo n i : Nat) : Int) ∧ Hid (wr.heap[w.heap.size]? = some (.cells (bitsArr n i) 219)) ∧ Hid (Below w.heap.size w wr)) (fun _ _ ii _ => 64 - (intOf ii).toNat)
  case atStart => exact ⟨0, rfl, by omega, by simp, rfl, alloc_at _ _, (Below.refl _ _).alloc (Nat.le_refl _) _⟩
  case round =>
    obtain ⟨i, rfl, hi, rfl, rfl, HK, HB⟩ := hrel
    by_cases h64 : i < 64
    · have b1 : wr.cell? ⟨w.heap.size, i, none⟩ = some (.bool false) := by rw [blk_cell HK.out, bitsArr_at (by omega)]; simp
      have b2 := blk_free HK.out i
      obtain ⟨m, hm⟩ : ∃ m, n / 2 ^ i = m := ⟨_, rfl⟩
      have HM := Lib.hid hm
      have hm64 : m < 18446744073709551616 := by rw [← hm]; exact Nat.lt_of_le_of_lt (Nat.div_le_self _ _) hn
      rw [hm]
      clear hm
      have hbit : bitAt n i = decide (m % 2 = 1) := by unfold bitAt; rw [HM.out]
      have HHI : Hid (hiTo n (i + 1) = if bitAt n i = true then i else hiTo n i) := rfl
      have HM2 : Hid (n / 2 ^ (i + 1) = m / 2) := by show _ = _; rw [← HM.out, Nat.pow_succ, Nat.div_div_eq_div_mul]
      have HK2 : Hid ((wr.setCell ⟨w.heap.size, i, none⟩ (.bool (bitAt n i))).heap[w.heap.size]? = some (.cells (bitsArr n (i + 1)) 219)) := by show _ = _; rw [blk_set HK.out, bitsArr_next n i (by omega)]
      have HB2 : Hid (Below w.heap.size w (wr.setCell ⟨w.heap.size, i, none⟩ (.bool (bitAt n i)))) := HB.out.setCell (Nat.le_refl _) _
      by_cases hb : m % 2 = 1
      · rw [hbit, decide_eq_true hb] at HHI HK2 HB2
        clear hbit HB HK
        go_wp2
        go_roundw
        case rel => exact ⟨i + 1, by go_num, by omega, by rw [HM2.out]; go_num, by rw [HHI.out]; rfl, HK2, HB2⟩
        case measure => simp [intOf]; omega
      · rw [hbit, decide_eq_false hb] at HHI HK2 HB2
        clear hbit HB HK
        go_wp2
        go_roundw
        case rel => exact ⟨i + 1, by go_num, by omega, by rw [HM2.out]; go_num, by rw [HHI.out]; rfl, HK2, HB2⟩
        case measure => simp [intOf]; omega
    · obtain rfl : i = 64 := by omega
      obtain ⟨s, hs⟩ : ∃ s, (uv n).length = s := ⟨_, rfl⟩
      have h7 := sevens_is hn
      rw [hs] at h7
      have hs10 : s ≤ 10 := by rw [← hs]; exact uv_len10 hn
      have hs1 : 1 ≤ s := by rw [← hs]; exact uv_pos n
      generalize hiTo n 64 = hh at *
      have e7 : (hh : Int) / 7 + 1 = (s : Int) := by omega
      rw [show ((64 : Nat) : Int) = 64 from rfl]
      generalize ((n / 2 ^ 64 : Nat) : Int) = x0
      have hmk := run_make_row' (P := Tryz.prog) 36 5 (.int .u8 0) 1 Tryz.underlying36 infoB rfl .i64 .i64 s (by omega) (by omega) wr
      rw [outArr_zero n s] at hmk
      have HL := Lib.hid hs
      have HK2 := Lib.hid (blk_alloc HK.out (.cells (outArr n 0 s) 5))
      have HO2 := Lib.hid (alloc_at wr (.cells (outArr n 0 s) 5))
      have HB2 := Lib.hid (HB.out.alloc HB.out.size (.cells (outArr n 0 s) 5))
      have HSZ := Lib.hid HB.out.size
      obtain ⟨g, hg⟩ : ∃ g, wr.heap.size = g := ⟨_, rfl⟩
      rw [hg] at hmk HO2 HSZ
      have hlt : w.heap.size < g := by have := blk_lt HK.out; omega
      clear hs h7 HK HB HSZ hg
      go_wp2
      clear e7 hmk
      go_loopw [8] (fun ii wl => ∃ i : Nat, ii = .int .i64 i ∧ i ≤ 7 * s ∧ Hid (wl.heap[w.heap.size]? = some (.cells (bitsArr n 64) 219)) ∧ Hid (wl.heap[g]? = some (.cells (outArr n i s) 5)) ∧ Hid (Below w.heap.size w wl)) (fun ii _ => 7 * s - (intOf ii).toNat)
      case atStart => exact ⟨0, rfl, by omega, HK2, HO2, HB2⟩
      case round =>
        clear HK2 HO2 HB2
        obtain ⟨i, rfl, hi, HK, HO, HB⟩ := hrel
        by_cases h7s : i < 7 * s
        · have b1 : wr.cell? ⟨w.heap.size, i, none⟩ = some (.bool (bitAt n i)) := by rw [blk_cell HK.out, bitsArr_at (by omega)]; simp [bits_end hn]
          have hj : i / 7 < s := by omega
          have o1 : wr.cell? ⟨g, i / 7, none⟩ = some (.int .u8 ((partAt n i (i / 7) : Nat) : Int)) := by rw [blk_cell HO.out, outArr_at hj]
          have o2 := blk_free HO.out (i / 7)
          cases hb : bitAt n i with
          | true =>
            rw [hb] at b1
            have hd : (i : Int) / 7 = ((i / 7 : Nat) : Int) := by omega
            have hm7 : (i : Int) % 7 = ((i % 7 : Nat) : Int) := by omega
            obtain ⟨q, hq⟩ : ∃ q, i / 7 = q := ⟨_, rfl⟩
            obtain ⟨r, hr⟩ : ∃ r, i % 7 = r := ⟨_, rfl⟩
            have hr7 : r < 7 := by omega
            rw [hq] at o1 o2 hj hd
            rw [hr] at hm7
            have hqs : (q : Int) < (s : Int) := by omega
            have htm : (i : Int).tmod 7 = (r : Int) := by rw [Int.tmod_eq_emod_of_nonneg (by omega)]; exact hm7
            have hq0 : (0 : Int) ≤ (q : Int) := by omega
            have hq1 : (q : Int).toNat = q := by omega
            have hr0 : (0 : Int) ≤ (r : Int) := by omega
            have hr1 : (r : Int).toNat = r := by omega
            have hwq : IntKind.i64.wrap (q : Int) = q := IntWalk.i64_in _ (by omega)
            have hwr : IntKind.i64.wrap (r : Int) = r := IntWalk.i64_in _ (by omega)
            go_wp2
            go_still_tail 13, (by kernel_rfl)
            change wpList _ _ _ _ _ (wr.drewN 1)
            have HV : Hid ((((partAt n i q : Nat) : Int) + 2 ^ r) % 256 = ((partAt n (i + 1) q : Nat) : Int)) := by
              have h1 := partAt_here n i
              have h2 := partAt_lt n (i + 1) q
              rw [hq, hr, hb, if_pos rfl] at h1
              have h3 : ((2 ^ r : Nat) : Int) = (2 : Int) ^ r := by simp
              show _ = _
              rw [← h3]
              omega
            have HK2 := Lib.hid (blk_set_ne (w := wr.drewN 1) HK.out (a := ⟨g, q, none⟩) (.int .u8 ((((partAt n i q : Nat) : Int) + 2 ^ r) % 256)) (by show w.heap.size ≠ g; omega))
            have HO2 : Hid (((wr.drewN 1).setCell ⟨g, q, none⟩ (.int .u8 ((((partAt n i q : Nat) : Int) + 2 ^ r) % 256))).heap[g]? = some (.cells (outArr n (i + 1) s) 5)) := by
              show _ = _
              rw [blk_set (w := wr.drewN 1) HO.out, HV.out]
              have h1 := outArr_next n i s (by omega)
              rw [hq] at h1
              rw [h1]
            have HB2 := Lib.hid ((below_drewN HB.out 1).setCell (p := ⟨g, q, none⟩) (Nat.le_of_lt hlt) (.int .u8 ((((partAt n i q : Nat) : Int) + 2 ^ r) % 256)))
            clear HK HO HB hd hm7 hqs htm hq0 hq1 hr0 hr1 hwq hwr
            go_wp2
            go_roundw
            case rel => exact ⟨i + 1, by go_num, by omega, HK2, HO2, HB2⟩
            case measure => simp [intOf]; omega
          | false =>
            rw [hb] at b1
            have HO2 : Hid (wr.heap[g]? = some (.cells (outArr n (i + 1) s) 5)) := by
              have h1 := outArr_next n i s hj
              have h2 : partAt n (i + 1) (i / 7) = partAt n i (i / 7) := by rw [partAt_here, hb]; simp
              rw [h2] at h1
              show _ = _
              rw [HO.out, ← h1]
              congr 2
              symm
              apply Array.ext_getElem?
              intro k
              rw [Array.getElem?_setIfInBounds]
              by_cases e : i / 7 = k
              · subst e
                rw [if_pos rfl, if_pos (by simp [outArr, hj]), outArr_at hj]
              · rw [if_neg e]
            go_wp2
            go_roundw
            case rel => exact ⟨i + 1, by go_num, by omega, HK, HO2, HB⟩
            case measure => simp [intOf]; omega
        · obtain rfl : i = 7 * s := by omega
          rw [outArr_end n s] at HO
          clear HK
          rw [show ((7 * s : Nat) : Int) = 7 * (s : Int) by omega]
          go_wp2
          go_loopw [9] (fun ii wl => ∃ k : Nat, ii = .int .i64 k ∧ k + 1 ≤ s ∧ Hid (wl.heap[g]? = some (.cells (outFin n k s) 5)) ∧ Hid (Below w.heap.size w wl)) (fun ii _ => s - (intOf ii).toNat)
          case atStart => exact ⟨0, rfl, by omega, HO, HB⟩
          case round =>
            clear HO HB
            obtain ⟨k, rfl, hk, HO, HB⟩ := hrel
            by_cases hks : k + 1 < s
            · have o1 : wr.cell? ⟨g, k, none⟩ = some (.int .u8 ((finAt n k k : Nat) : Int)) := by rw [blk_cell HO.out, outFin_at (by omega)]
              have o2 := blk_free HO.out k
              have hf := finAt_here n k
              have HK2 : Hid ((wr.setCell ⟨g, k, none⟩ (.int .u8 (((finAt n k k : Nat) : Int) + 128))).heap[g]? = some (.cells (outFin n (k + 1) s) 5)) := by
                show _ = _
                rw [blk_set HO.out, show ((finAt n k k : Nat) : Int) + 128 = ((finAt n (k + 1) k : Nat) : Int) by omega, outFin_next n k s (by omega)]
              have HB2 := Lib.hid (HB.out.setCell (p := ⟨g, k, none⟩) (Nat.le_of_lt hlt) (.int .u8 (((finAt n k k : Nat) : Int) + 128)))
              go_wp2
              go_roundw
              case rel => exact ⟨k + 1, by go_num, by omega, HK2, HB2⟩
              case measure => simp [intOf]; omega
            · obtain rfl : k + 1 = s := by omega
              have hown : Bytes w.heap.size wr (.slice (some ⟨g, 0, none⟩) (k + 1) (k + 1)) (uv n) := by
                refine ⟨by rw [Nat.mul_one, Lib.byteCells_length], .inr ⟨g, k + 1, _, by rw [HL.out], Nat.le_of_lt hlt, HO.out, by rw [HL.out]; exact Nat.le_refl _, by simp only [maxLen]; omega, by simp [outFin], ?_⟩⟩
                rw [HL.out]
                have := outFin_end HL.out
                rw [Nat.add_sub_cancel] at this
                rw [← this, List.take_of_length_le (by simp [outFin])]
              have HOWN := Lib.hid hown
              clear hown
              go_wp2
              go_ret
              exact ⟨_, rfl, HOWN.out, HB.out⟩
end Go.Proofs.YtckooioikcenmaaGreat
namespace Go.Proofs.YtckooioikcenmaaGreat
open Go.RowKit
/-- bytes that a call makes; what was there stays -/
def MadeB (xs : List UInt8) (w : World) (e : Ending) (w' : World) : Prop := ∃ v, e = .returned v ∧ Bytes w.heap.size w' v xs ∧ Below w.heap.size w w'
set_option maxRecDepth 20000 in
set_option maxHeartbeats 1000000 in
theorem both_any (u v : Value) (xs ys : List UInt8) (w : World) (hu : RdB w u xs) (hv : RdB w v ys) (hl : xs.length + ys.length ≤ 140737488355328) : Calls Tryz.prog 119 #[u, v] w (MadeB (xs ++ ys) w) := by
  obtain ⟨i0, hi, hz0, hz1, hz2⟩ := info_parts infoB
  obtain ⟨w1, hmk, hown, hg⟩ := run_make_own (P := Tryz.prog) w w.heap.size 36 5 i0 (.int .u8 0) 1 Tryz.underlying36 hi hz0 hz1 .i64 .i64 (xs.length + ys.length) (by rw [hz2]; omega) (by simp only [maxLen]; omega) (Nat.le_refl _)
  have hb1 : Below w.heap.size w w1 := ⟨hg.os, hg.tape, hg.output, hg.size, fun k hk => hg.block k hk (by simp)⟩
  have HB1 := Lib.hid hb1
  have HO : Hid (Bytes w.heap.size w1 (.slice (some ⟨w.heap.size, 0, none⟩) 0 (xs.length + ys.length)) []) := hown
  have HU := Lib.hid (hu.below hb1)
  have HV := Lib.hid (hv.below hb1)
  obtain ⟨A, c, rfl, _, _⟩ := hu.form
  obtain ⟨A', c', rfl, _, _⟩ := hv.form
  have hs : w.heap.size ≤ w1.heap.size := hb1.size
  have hlt' := Lib.hid (RdB.blk hv)
  clear hu hv hg hown hb1 hi hz0 hz1 hz2
  rw [Int.natCast_add] at hmk
  obtain ⟨n1, hn1⟩ : ∃ n, xs.length = n := ⟨_, rfl⟩
  obtain ⟨n2, hn2⟩ : ∃ n, ys.length = n := ⟨_, rfl⟩
  have HN1 := Lib.hid hn1
  have HN2 := Lib.hid hn2
  rw [hn1] at HU HO hmk hl ⊢
  rw [hn2] at HV HO hmk hl hlt' ⊢
  clear hn1 hn2
  go_enter Tryz.func119, Tryz.ntmps119
  go_wp2_with (at_builtin; (first | (refine wpList_append_bytes rfl (.tmp 12) (.tmp 13) rfl w.heap.size _ _ [] xs rfl HO.out rfl HU.out (by rw [HN1.out]; simp; omega) hs ?_; intro v' w' hown hext; have hown2 : Bytes w.heap.size w' v' xs := (by simpa using hown); have HO2 := Lib.hid hown2; have HB2 := Lib.hid (ext_below hext HO.out HB1.out (Nat.le_refl _)); have HV2 := Lib.hid (HV.out.ext hext (fun k hk e => absurd (Option.some.inj (show some k = some w.heap.size from e)) (Nat.ne_of_lt (hlt'.out k hk)))); clear hown hown2 hext) | (refine wpList_append_bytes rfl (.tmp 15) (.tmp 16) rfl w.heap.size _ _ xs ys rfl HO2.out rfl HV2.out (by rw [HN1.out, HN2.out]; omega) HB2.out.size ?_; intro v2 w2 hown hext; have HO3 := Lib.hid hown; have HB3 := Lib.hid (ext_below hext HO2.out HB2.out (Nat.le_refl _)); clear hown hext)))
  go_ret
  exact ⟨_, rfl, HO3.out, HB3.out⟩
set_option maxRecDepth 20000 in
set_option maxHeartbeats 1000000 in
theorem rfUint_any (u : Value) (xs : List UInt8) (n : Nat) (w : World) (hn : n < 18446744073709551616) (hu : RdB w u xs) (hl : xs.length ≤ 100000000000000) : Calls Tryz.prog 102 #[u, .int .u64 n] w (MadeB (xs ++ uv n) w) := by
  have HU := Lib.hid hu
  have HC := Lib.hid (varint_any n hn w)
  obtain ⟨A, c, rfl, _, _⟩ := hu.form
  clear hu
  go_enter Tryz.func102, Tryz.ntmps102
  go_wp2_with fail
  refine HC.out.mono ?_
  rintro e w1 ⟨v, rfl, hown, hb⟩
  have HB := Lib.hid hb
  have HV := Lib.hid hown.reads
  have hv10 := uv_len10 hn
  clear hown
  go_wp2_with fail
  refine (both_any _ _ xs (uv n) w1 (HU.out.below hb) HV.out (by omega)).mono ?_
  rintro e w2 ⟨v2, rfl, hown, hb2⟩
  have HO := Lib.hid (own_base hown hb.size)
  have HB2 := Lib.hid (hb.trans (hb2.mono hb.size))
  clear hown hb hb2
  go_wp2
  go_ret
  exact ⟨_, rfl, HO.out, HB2.out⟩
set_option maxRecDepth 20000 in
set_option maxHeartbeats 1000000 in
theorem rfInt_any (u : Value) (xs : List UInt8) (z : Int) (w : World) (h0 : -9223372036854775808 ≤ z) (h1 : z ≤ 9223372036854775807) (hu : RdB w u xs) (hl : xs.length ≤ 100000000000000) : Calls Tryz.prog 91 #[u, .int .i64 z] w (MadeB (xs ++ iv z) w) := by
  have hz := zag_lt h0 h1
  have HC := Lib.hid (rfUint_any u xs (zag z) w hz hu hl)
  rw [iv_zag]
  unfold zag at HC hz ⊢
  obtain ⟨A, c, rfl, _, _⟩ := hu.form
  clear hu
  by_cases hneg : z < 0
  · rw [if_pos hneg] at HC hz ⊢
    obtain ⟨m, hm⟩ : ∃ m, (-(z + 1)).toNat = m := ⟨_, rfl⟩
    rw [hm] at HC hz ⊢
    obtain rfl : z = -(m : Int) - 1 := by omega
    go_enter Tryz.func91, Tryz.ntmps91
    go_wp2_with fail
    rw [show 2 * (m : Int) + 1 = ((m * 2 + 1 : Nat) : Int) by omega]
    refine HC.out.mono ?_
    rintro e w1 ⟨v, rfl, hown, hb⟩
    have HO := Lib.hid hown
    have HB := Lib.hid hb
    clear hown hb
    go_wp2
    go_ret
    exact ⟨_, rfl, HO.out, HB.out⟩
  · rw [if_neg hneg] at HC hz ⊢
    obtain ⟨m, hm⟩ : ∃ m, z.toNat = m := ⟨_, rfl⟩
    rw [hm] at HC hz ⊢
    obtain rfl : z = (m : Int) := by omega
    go_enter Tryz.func91, Tryz.ntmps91
    go_wp2_with fail
    rw [show 2 * (m : Int) = ((m * 2 : Nat) : Int) by omega]
    refine HC.out.mono ?_
    rintro e w1 ⟨v, rfl, hown, hb⟩
    have HO := Lib.hid hown
    have HB := Lib.hid hb
    clear hown hb
    go_wp2
    go_ret
    exact ⟨_, rfl, HO.out, HB.out⟩
end Go.Proofs.YtckooioikcenmaaGreat
namespace Go.Proofs.YtckooioikcenmaaGreat
open Go
/-- how many bytes above 127 stand first, of f at most -/
def lead : List UInt8 → Nat → Nat
  | _, 0 => 0
  | [], _ + 1 => 0
  | x :: r, f + 1 => if 127 < x.toNat then lead r f + 1 else 0
/-- what the first c bytes' sevens of bits come to -/
def sevs : List UInt8 → Nat → Nat
  | _, 0 => 0
  | [], _ + 1 => 0
  | x :: r, c + 1 => x.toNat % 128 + 128 * sevs r c
theorem lead_le : ∀ (l : List UInt8) (f : Nat), lead l f ≤ f ∧ lead l f ≤ l.length
  | l, 0 => by cases l <;> simp [lead]
  | [], f + 1 => by simp [lead]
  | x :: r, f + 1 => by
    rw [lead]
    have := lead_le r f
    split <;> simp <;> omega
/-- what the document's reading comes to -/
def rfG (l : List UInt8) (k acc : Nat) : Nat × Nat × Int :=
  if lead l (10 - k) < 10 - k ∧ lead l (10 - k) = l.length then (0, 0, 11)
  else if k + lead l (10 - k) = 10 ∨ (k + lead l (10 - k) = 9 ∧ 1 < (l.getD (lead l (10 - k)) 0).toNat) ∨ (0 < k + lead l (10 - k) ∧ (l.getD (lead l (10 - k)) 0).toNat = 0) then (0, 0, 10)
  else (acc + sevs l (lead l (10 - k) + 1) * 128 ^ k, k + lead l (10 - k) + 1, 0)
theorem rfG_is : ∀ (l : List UInt8) (k acc : Nat), k ≤ 9 → rfG l k acc = gU l k acc
  | [], k, acc, hk => by
    have h : lead [] (10 - k) = 0 := by
      cases h9 : 10 - k with
      | zero => rfl
      | succ n => rfl
    unfold rfG
    rw [h, if_pos ⟨by omega, rfl⟩]
    rfl
  | x :: r, k, acc, hk => by
    have hf : 10 - k = (9 - k) + 1 := by omega
    by_cases hx : 127 < x.toNat
    · have hl : lead (x :: r) (10 - k) = lead r (9 - k) + 1 := by rw [hf, lead, if_pos hx]
      by_cases h9 : k = 9
      · subst h9
        have h0 : lead (x :: r) (10 - 9) = 1 := by
          have : lead r 0 = 0 := by cases r <;> rfl
          rw [hl, show 9 - 9 = 0 from rfl, this]
        unfold rfG
        rw [h0, if_neg (by omega), if_pos (.inl rfl)]
        rw [gU, if_pos (.inl ⟨rfl, by omega⟩)]
      · have ih := rfG_is r (k + 1) (acc + x.toNat % 128 * 128 ^ k) (by omega)
        rw [gU, if_neg (by omega), if_neg (by omega), ← ih]
        unfold rfG
        rw [hl, show 10 - (k + 1) = 9 - k by omega]
        have hg : (x :: r).getD (lead r (9 - k) + 1) 0 = r.getD (lead r (9 - k)) 0 := by simp
        rw [hg]
        simp only [List.length_cons]
        by_cases c1 : lead r (9 - k) < 9 - k ∧ lead r (9 - k) = r.length
        · rw [if_pos ⟨by omega, by omega⟩, if_pos c1]
        · rw [if_neg (by omega), if_neg c1]
          by_cases c2 : k + 1 + lead r (9 - k) = 10 ∨ (k + 1 + lead r (9 - k) = 9 ∧ 1 < (r.getD (lead r (9 - k)) 0).toNat) ∨ (0 < k + 1 + lead r (9 - k) ∧ (r.getD (lead r (9 - k)) 0).toNat = 0)
          · rw [if_pos (by omega), if_pos c2]
          · rw [if_neg (by omega), if_neg c2]
            have e : sevs (x :: r) (lead r (9 - k) + 1 + 1) = x.toNat % 128 + 128 * sevs r (lead r (9 - k) + 1) := rfl
            rw [e]
            refine Prod.ext ?_ (Prod.ext ?_ rfl)
            · show acc + (x.toNat % 128 + 128 * sevs r (lead r (9 - k) + 1)) * 128 ^ k = acc + x.toNat % 128 * 128 ^ k + sevs r (lead r (9 - k) + 1) * 128 ^ (k + 1)
              rw [Nat.add_mul, Nat.pow_succ, Nat.mul_comm (128 ^ k) 128, Nat.mul_comm 128 (sevs r _), Nat.mul_assoc, Nat.add_assoc]
            · show k + (lead r (9 - k) + 1) + 1 = k + 1 + lead r (9 - k) + 1
              omega
    · have hl : lead (x :: r) (10 - k) = 0 := by rw [hf, lead, if_neg hx]
      unfold rfG
      rw [hl, if_neg (by simp), gU]
      have hg : (x :: r).getD 0 0 = x := rfl
      rw [hg]
      by_cases c2 : (k = 9 ∧ 1 < x.toNat) ∨ (x.toNat = 0 ∧ 0 < k)
      · rw [if_pos (by omega), if_pos c2]
      · rw [if_neg (by omega), if_neg c2, if_pos (by omega)]
        have e : sevs (x :: r) (0 + 1) = x.toNat := by
          show x.toNat % 128 + 128 * sevs r 0 = x.toNat
          have : sevs r 0 = 0 := by cases r <;> rfl
          rw [this]
          omega
        rw [e]
/-- from the last byte on to the first one -/
theorem sevs_step {l : List UInt8} {j c : Nat} {x : UInt8} (hx : l[j]? = some x) : sevs (l.drop j) (c + 1) = 128 * sevs (l.drop (j + 1)) c + x.toNat % 128 := by
  have hlt := (List.getElem?_eq_some_iff.1 hx).1
  have e := List.drop_eq_getElem_cons hlt
  have e2 : l[j] = x := (List.getElem?_eq_some_iff.1 hx).2
  rw [e, e2, sevs]
  omega
theorem sevs_drop_le {l : List UInt8} : ∀ (j c : Nat), sevs (l.drop j) c ≤ sevs l (j + c)
  | 0, c => by simp
  | j + 1, c => by
    cases l with
    | nil => cases c <;> simp [sevs]
    | cons x r =>
      rw [List.drop_succ_cons, show j + 1 + c = (j + c) + 1 by omega, sevs]
      have := sevs_drop_le (l := r) j c
      omega
theorem lead_step {l : List UInt8} : ∀ (m f : Nat), m ≤ lead l f → lead l f = m + lead (l.drop m) (f - m)
  | 0, f, _ => by simp
  | m + 1, f, h => by
    cases f with
    | zero => simp [lead] at h
    | succ f =>
      cases l with
      | nil => simp [lead] at h
      | cons x r =>
        rw [lead] at h ⊢
        split at h
        · rename_i hx
          rw [if_pos hx, List.drop_succ_cons, show f + 1 - (m + 1) = f - m by omega]
          have := lead_step (l := r) m f (by omega)
          omega
        · omega
end Go.Proofs.YtckooioikcenmaaGreat
namespace Go.Proofs.YtckooioikcenmaaGreat
open Go.RowKit
theorem lead_in : ∀ (l : List UInt8) (f m : Nat), m < lead l f → ∃ x, l[m]? = some x ∧ 127 < x.toNat
  | l, 0, m, h => by cases l <;> simp [lead] at h
  | [], f + 1, m, h => by simp [lead] at h
  | x :: r, f + 1, m, h => by
    rw [lead] at h
    split at h
    · rename_i hx
      cases m with
      | zero => exact ⟨x, rfl, hx⟩
      | succ m => exact lead_in r f m (by omega)
    · omega
theorem lead_end : ∀ (l : List UInt8) (f : Nat), lead l f < f → lead l f < l.length → ∃ x, l[lead l f]? = some x ∧ ¬ 127 < x.toNat
  | l, 0, h, _ => by omega
  | [], f + 1, _, h => by simp at h
  | x :: r, f + 1, h, h2 => by
    rw [lead] at h h2 ⊢
    split at h
    · rename_i hx
      rw [if_pos hx] at h2 ⊢
      simp at h2
      exact lead_end r f (by omega) (by omega)
    · rename_i hx
      rw [if_neg hx]
      exact ⟨x, rfl, hx⟩
theorem sevs_zero (l : List UInt8) : sevs l 0 = 0 := by cases l <;> rfl
theorem rfG_zero (l : List UInt8) : gU l 0 0 = rfG l 0 0 := (rfG_is l 0 0 (by omega)).symm
set_option maxRecDepth 20000 in
set_option maxHeartbeats 4000000 in
theorem rfGetUint_in (b o c : Nat) (ys : List UInt8) (a : Nat) (w : World) (hc : ys.length ≤ c) (hm : c ≤ maxLen) (ha : a < ys.length)
    (hcell : ∀ (j : Nat) (x : UInt8), ys[j]? = some x → w.cell? ⟨b, o + j, none⟩ = some (.int .u8 (x.toNat : Int))) :
    Calls Tryz.prog 103 #[.slice (some ⟨b, o, none⟩) ys.length c, .int .i64 a] w (GetPost ys a w) := by
  unfold maxLen at hm
  obtain ⟨M, hM⟩ : ∃ M, lead (ys.drop a) 10 = M := ⟨_, rfl⟩
  have HM := Lib.hid hM
  have hM1 : M ≤ 10 := by rw [← hM]; exact (lead_le _ _).1
  have hM2 : M ≤ ys.length - a := by
    have := (lead_le (ys.drop a) 10).2
    rw [List.length_drop] at this
    omega
  have HIN : Hid (∀ m, m < M → ∃ x : UInt8, ys[a + m]? = some x ∧ 127 < x.toNat) := fun m hm => by
    obtain ⟨x, h1, h2⟩ := lead_in (ys.drop a) 10 m (by rw [hM]; exact hm)
    rw [List.getElem?_drop] at h1
    exact ⟨x, h1, h2⟩
  have HEND : Hid (M < 10 → M < ys.length - a → ∃ x : UInt8, ys[a + M]? = some x ∧ ¬ 127 < x.toNat) := fun h1 h2 => by
    obtain ⟨x, h3, h4⟩ := lead_end (ys.drop a) 10 (by rw [hM]; exact h1) (by rw [hM, List.length_drop]; exact h2)
    rw [hM, List.getElem?_drop] at h3
    exact ⟨x, h3, h4⟩
  have HCELL := Lib.hid hcell
  clear hcell hM
  go_enter Tryz.func103, Tryz.ntmps103
  go_wp2
  generalize Value.bool (decide ((a : Int) < 0) || decide (ys.length < a)) = z1
  generalize Value.bool (decide (ys.length < a)) = z2
  generalize Value.bool (decide ((a : Int) < 0)) = z3
  go_loopw [7] (fun i wr => ∃ m : Nat, i = .int .i64 m ∧ m ≤ M ∧ wr = w) (fun i _ => M - (intOf i).toNat)
  case atStart => exact ⟨0, rfl, by omega, rfl⟩
  case round =>
    obtain ⟨m, rfl, hm9, rfl⟩ := hrel
    by_cases hmM : m < M
    · obtain ⟨x, hx, hx2⟩ := HIN.out m hmM
      have d0 := HCELL.out _ _ hx
      have bx := x.toNat_lt
      clear hx
      go_wp2
      go_roundw
      case rel => exact ⟨m + 1, by go_num, by omega, by first | trivial | rfl⟩
      case measure => simp [intOf]; omega
    · obtain rfl : m = M := by omega
      by_cases c1 : m < 10 ∧ m = ys.length - a
      · have HG : Hid (gU (ys.drop a) 0 0 = (0, 0, 11)) := by
          show _ = _
          rw [rfG_zero]
          unfold rfG
          rw [if_pos (by rw [HM.out, List.length_drop]; exact c1)]
        have hd := Lib.hid (getU_of (by omega) HG.out)
        obtain ⟨c11, c12⟩ := c1
        have e9 : (a : Int) + (m : Int) = (ys.length : Int) := by omega
        clear hmM
        go_wp2
        go_ret3
        exact ⟨by rw [hd.out]; rfl, rfl⟩
      · by_cases c10 : m = 10
        · have HG : Hid (gU (ys.drop a) 0 0 = (0, 0, 10)) := by
            show _ = _
            rw [rfG_zero]
            unfold rfG
            rw [HM.out, List.length_drop, if_neg c1, if_pos (.inl (by omega))]
          have hd := Lib.hid (getU_of (by omega) HG.out)
          subst c10
          clear hmM c1
          go_wp2
          all_goals (go_ret3; exact ⟨by rw [hd.out]; rfl, rfl⟩)
        · obtain ⟨x, hx, hx2⟩ := HEND.out (by omega) (by omega)
          have d0 := HCELL.out _ _ hx
          have bx := x.toNat_lt
          have hgd : (ys.drop a).getD m 0 = x := by simp [List.getD, List.getElem?_drop, hx]
          have HRF : Hid (gU (ys.drop a) 0 0 = if 0 + m = 10 ∨ (0 + m = 9 ∧ 1 < x.toNat) ∨ (0 < 0 + m ∧ x.toNat = 0) then (0, 0, 10) else (0 + sevs (ys.drop a) (m + 1) * 128 ^ 0, 0 + m + 1, 0)) := by
            show _ = _
            rw [rfG_zero]
            unfold rfG
            rw [HM.out, List.length_drop, if_neg c1, hgd]
          have HX := Lib.hid hx
          clear hx hgd
          have hne : ¬ (a : Int) + (m : Int) = (ys.length : Int) := by omega
          by_cases c9 : (m = 9 ∧ 1 < x.toNat) ∨ (0 < m ∧ x.toNat = 0)
          · have HG : Hid (gU (ys.drop a) 0 0 = (0, 0, 10)) := by
              show _ = _
              rw [HRF.out, if_pos (by omega)]
            have hd := Lib.hid (getU_of (by omega) HG.out)
            clear HRF c1
            by_cases c9a : m = 9 ∧ 1 < x.toNat
            · obtain ⟨rfl, c9b⟩ := c9a
              clear c9
              go_wp2
              go_ret3
              exact ⟨by rw [hd.out]; rfl, rfl⟩
            · obtain ⟨c0, c00⟩ : 0 < m ∧ x.toNat = 0 := by omega
              rw [c00] at d0
              by_cases c99 : m = 9
              · subst c99
                clear c9 c9a c00
                go_wp2
                go_ret3
                exact ⟨by rw [hd.out]; rfl, rfl⟩
              · clear c9 c9a c00
                go_wp2
                go_ret3
                exact ⟨by rw [hd.out]; rfl, rfl⟩
          · have HG : Hid (gU (ys.drop a) 0 0 = (sevs (ys.drop a) (m + 1), m + 1, 0)) := by
              show _ = _
              rw [HRF.out, if_neg (by omega), Nat.pow_zero, Nat.mul_one, Nat.zero_add, Nat.zero_add]
            have hd := Lib.hid (getU_of (by omega) HG.out)
            have hb64 := (gU_zero_back HG.out).1
            clear HRF c1
            have HB64 := Lib.hid hb64
            clear hb64
            by_cases c99 : m = 9
            · subst c99
              have hx1 : x.toNat = 1 := by omega
              rw [hx1] at d0
              clear c9
              go_wp2
              go_loopw [8, 9] (fun v8 v9 wl => ∃ j : Nat, v9 = .int .i64 ((j : Int) - 1) ∧ j ≤ 9 + 1 ∧ v8 = .int .u64 ((sevs (ys.drop (a + j)) (9 + 1 - j) : Nat) : Int) ∧ wl = wr) (fun _ v9 _ => (intOf v9 + 1).toNat)
              case atStart => exact ⟨9 + 1, by go_num, by omega, by rw [show 9 + 1 - (9 + 1) = 0 by omega, sevs_zero]; rfl, rfl⟩
              case round =>
                clear d0
                obtain ⟨j, rfl, hj, rfl, rfl⟩ := hrel
                cases j with
                | zero =>
                  have hd2 : getU ys a = (sevs (ys.drop (a + 0)) (9 + 1 - 0), (a : Int) + (9 : Int) + 1, 0) := by rw [hd.out, Nat.add_zero, Nat.sub_zero]; refine Prod.ext rfl (Prod.ext ?_ rfl); show (a : Int) + ((9 + 1 : Nat) : Int) = (a : Int) + (9 : Int) + 1; omega
                  have HD := Lib.hid hd2
                  clear hd2 hd
                  generalize sevs (ys.drop (a + 0)) (9 + 1 - 0) = V at *
                  go_wp2
                  go_ret3
                  exact ⟨by rw [HD.out]; go_num, rfl⟩
                | succ q =>
                  have hxl := (List.getElem?_eq_some_iff.1 HX.out).1
                  obtain ⟨y, hy⟩ : ∃ y, ys[a + q]? = some y := ⟨_, List.getElem?_eq_getElem (by omega)⟩
                  have d1 := HCELL.out _ _ hy
                  have by1 := y.toNat_lt
                  have hst := sevs_step (c := 9 + 1 - (q + 1)) hy
                  rw [show 9 + 1 - (q + 1) + 1 = 9 + 1 - q by omega, Nat.add_assoc] at hst
                  have hle := sevs_drop_le (l := ys.drop a) q (9 + 1 - q)
                  rw [List.drop_drop, show q + (9 + 1 - q) = 9 + 1 by omega] at hle
                  have hb6 := HB64.out
                  have hlt : 128 * sevs (ys.drop (a + (q + 1))) (9 + 1 - (q + 1)) + y.toNat % 128 < 18446744073709551616 := by omega
                  have HST := Lib.hid hst
                  rw [show ((q + 1 : Nat) : Int) - 1 = (q : Int) by omega]
                  clear hy hst hle hb6 hxl
                  generalize sevs (ys.drop (a + (q + 1))) (9 + 1 - (q + 1)) = V at *
                  have hqa : (a : Int) + (q : Int) < (ys.length : Int) := by omega
                  go_wp2
                  go_roundw
                  case rel => exact ⟨q, by go_num, by omega, by rw [HST.out]; go_num, by first | trivial | rfl⟩
                  case measure => simp [intOf] <;> omega
            · by_cases cm0 : m = 0
              · subst cm0
                rw [Nat.add_zero] at d0
                go_wp2
                go_loopw [8, 9] (fun v8 v9 wl => ∃ j : Nat, v9 = .int .i64 ((j : Int) - 1) ∧ j ≤ 0 + 1 ∧ v8 = .int .u64 ((sevs (ys.drop (a + j)) (0 + 1 - j) : Nat) : Int) ∧ wl = wr) (fun _ v9 _ => (intOf v9 + 1).toNat)
                case atStart => exact ⟨0 + 1, by go_num, by omega, by rw [show 0 + 1 - (0 + 1) = 0 by omega, sevs_zero]; rfl, rfl⟩
                case round =>
                  clear d0
                  obtain ⟨j, rfl, hj, rfl, rfl⟩ := hrel
                  cases j with
                  | zero =>
                    have hd2 : getU ys a = (sevs (ys.drop (a + 0)) (0 + 1 - 0), (a : Int) + (0 : Int) + 1, 0) := by rw [hd.out, Nat.add_zero, Nat.sub_zero]; refine Prod.ext rfl (Prod.ext ?_ rfl); show (a : Int) + ((0 + 1 : Nat) : Int) = (a : Int) + (0 : Int) + 1; omega
                    have HD := Lib.hid hd2
                    clear hd2 hd
                    generalize sevs (ys.drop (a + 0)) (0 + 1 - 0) = V at *
                    go_wp2
                    go_ret3
                    exact ⟨by rw [HD.out]; go_num, rfl⟩
                  | succ q =>
                    have hxl := (List.getElem?_eq_some_iff.1 HX.out).1
                    obtain ⟨y, hy⟩ : ∃ y, ys[a + q]? = some y := ⟨_, List.getElem?_eq_getElem (by omega)⟩
                    have d1 := HCELL.out _ _ hy
                    have by1 := y.toNat_lt
                    have hst := sevs_step (c := 0 + 1 - (q + 1)) hy
                    rw [show 0 + 1 - (q + 1) + 1 = 0 + 1 - q by omega, Nat.add_assoc] at hst
                    have hle := sevs_drop_le (l := ys.drop a) q (0 + 1 - q)
                    rw [List.drop_drop, show q + (0 + 1 - q) = 0 + 1 by omega] at hle
                    have hb6 := HB64.out
                    have hlt : 128 * sevs (ys.drop (a + (q + 1))) (0 + 1 - (q + 1)) + y.toNat % 128 < 18446744073709551616 := by omega
                    have HST := Lib.hid hst
                    rw [show ((q + 1 : Nat) : Int) - 1 = (q : Int) by omega]
                    clear hy hst hle hb6 hxl
                    generalize sevs (ys.drop (a + (q + 1))) (0 + 1 - (q + 1)) = V at *
                    have hqa : (a : Int) + (q : Int) < (ys.length : Int) := by omega
                    go_wp2
                    go_roundw
                    case rel => exact ⟨q, by go_num, by omega, by rw [HST.out]; go_num, by first | trivial | rfl⟩
                    case measure => simp [intOf] <;> omega
              · have hx0 : x.toNat ≠ 0 := by omega
                clear c9
                go_wp2
                · exfalso
                  rename_i hh
                  simp at hh
                  omega
                go_loopw [8, 9] (fun v8 v9 wl => ∃ j : Nat, v9 = .int .i64 ((j : Int) - 1) ∧ j ≤ m + 1 ∧ v8 = .int .u64 ((sevs (ys.drop (a + j)) (m + 1 - j) : Nat) : Int) ∧ wl = wr) (fun _ v9 _ => (intOf v9 + 1).toNat)
                case atStart => exact ⟨m + 1, by go_num, by omega, by rw [show m + 1 - (m + 1) = 0 by omega, sevs_zero]; rfl, rfl⟩
                case round =>
                  clear d0
                  obtain ⟨j, rfl, hj, rfl, rfl⟩ := hrel
                  cases j with
                  | zero =>
                    have hd2 : getU ys a = (sevs (ys.drop (a + 0)) (m + 1 - 0), (a : Int) + (m : Int) + 1, 0) := by rw [hd.out, Nat.add_zero, Nat.sub_zero]; refine Prod.ext rfl (Prod.ext ?_ rfl); show (a : Int) + ((m + 1 : Nat) : Int) = (a : Int) + (m : Int) + 1; omega
                    have HD := Lib.hid hd2
                    clear hd2 hd
                    generalize sevs (ys.drop (a + 0)) (m + 1 - 0) = V at *
                    go_wp2
                    go_ret3
                    exact ⟨by rw [HD.out]; go_num, rfl⟩
                  | succ q =>
                    have hxl := (List.getElem?_eq_some_iff.1 HX.out).1
                    obtain ⟨y, hy⟩ : ∃ y, ys[a + q]? = some y := ⟨_, List.getElem?_eq_getElem (by omega)⟩
                    have d1 := HCELL.out _ _ hy
                    have by1 := y.toNat_lt
                    have hst := sevs_step (c := m + 1 - (q + 1)) hy
                    rw [show m + 1 - (q + 1) + 1 = m + 1 - q by omega, Nat.add_assoc] at hst
                    have hle := sevs_drop_le (l := ys.drop a) q (m + 1 - q)
                    rw [List.drop_drop, show q + (m + 1 - q) = m + 1 by omega] at hle
                    have hb6 := HB64.out
                    have hlt : 128 * sevs (ys.drop (a + (q + 1))) (m + 1 - (q + 1)) + y.toNat % 128 < 18446744073709551616 := by omega
                    have HST := Lib.hid hst
                    rw [show ((q + 1 : Nat) : Int) - 1 = (q : Int) by omega]
                    clear hy hst hle hb6 hxl
                    generalize sevs (ys.drop (a + (q + 1))) (m + 1 - (q + 1)) = V at *
                    have hqa : (a : Int) + (q : Int) < (ys.length : Int) := by omega
                    go_wp2
                    go_roundw
                    case rel => exact ⟨q, by go_num, by omega, by rw [HST.out]; go_num, by first | trivial | rfl⟩
                    case measure => simp [intOf] <;> omega
end Go.Proofs.YtckooioikcenmaaGreat
namespace Go.Proofs.YtckooioikcenmaaGreat
open Go.RowKit
theorem rfGetUint_out (v : Value) (ys : List UInt8) (a : Int) (w : World) (hr : RdB w v ys) (ha : a < 0 ∨ (ys.length : Int) < a) (h64 : a ≤ 9223372036854775807) :
    Calls Tryz.prog 103 #[v, .int .i64 a] w (GetPost ys a w) := by
  obtain ⟨A, c, rfl, hc, hm⟩ := hr.form
  have hd := Lib.hid (show getU ys a = (0, 0, 2) by unfold getU; rw [if_pos ha])
  unfold maxLen at hm
  have hl : (ys.length : Int) ≤ 9223372036854775807 := by omega
  by_cases h0 : a < 0
  · clear ha
    go_enter Tryz.func103, Tryz.ntmps103
    go_wp2
    go_ret3
    exact ⟨by rw [hd.out]; rfl, rfl⟩
  · have h1 : (ys.length : Int) < a := by omega
    clear ha
    go_enter Tryz.func103, Tryz.ntmps103
    go_wp2
    go_ret3
    exact ⟨by rw [hd.out]; rfl, rfl⟩
theorem rfGetUint_end (v : Value) (ys : List UInt8) (w : World) (hr : RdB w v ys) :
    Calls Tryz.prog 103 #[v, .int .i64 (ys.length : Int)] w (GetPost ys (ys.length : Int) w) := by
  have hd := Lib.hid (getU_of (ys := ys) (a := ys.length) (Nat.le_refl _) (n := 0) (c := 0) (e := 11) (by rw [List.drop_length]; rfl))
  rcases hr with ⟨rfl, rfl⟩ | ⟨b, o, c, rfl, h1, h2, _, hcell⟩
  · go_enter Tryz.func103, Tryz.ntmps103
    go_wp2
    refine wp_loop_once ?_
    go_wp2
    go_ret3
    exact ⟨rfl, rfl⟩
  · unfold maxLen at h2
    clear hcell
    by_cases hcap : c = ys.length
    · subst hcap
      go_enter Tryz.func103, Tryz.ntmps103
      go_wp2
      refine wp_loop_once ?_
      go_wp2
      go_ret3
      exact ⟨by rw [hd.out]; rfl, rfl⟩
    · go_enter Tryz.func103, Tryz.ntmps103
      go_wp2
      refine wp_loop_once ?_
      go_wp2
      go_ret3
      exact ⟨by rw [hd.out]; rfl, rfl⟩
theorem rfGetUint_any (v : Value) (ys : List UInt8) (a : Int) (w : World) (hr : RdB w v ys) (h64 : a ≤ 9223372036854775807) :
    Calls Tryz.prog 103 #[v, .int .i64 a] w (GetPost ys a w) := by
  by_cases ha : a < 0 ∨ (ys.length : Int) < a
  · exact rfGetUint_out v ys a w hr ha h64
  · obtain ⟨k, rfl⟩ := Int.eq_ofNat_of_zero_le (by omega : 0 ≤ a)
    by_cases hk : k = ys.length
    · subst hk; exact rfGetUint_end v ys w hr
    · rcases hr with ⟨rfl, rfl⟩ | ⟨b, o, c, rfl, h1, h2, _, hcell⟩
      · simp at hk ha; omega
      · exact rfGetUint_in b o c ys k w h1 h2 (by omega) hcell
theorem getU_err {ys : List UInt8} {a : Int} (h : (getU ys a).2.2 ≠ 0) : (getU ys a).1 = 0 ∧ (getU ys a).2.1 = 0 := by
  unfold getU at h ⊢
  split
  · simp
  · rename_i h9
    rw [if_neg h9] at h
    generalize hg : gU (ys.drop a.toNat) 0 0 = g at h ⊢
    obtain ⟨n, c, e⟩ := g
    simp only at h ⊢
    obtain ⟨h1, _, _⟩ := gU_err _ _ _ _ _ _ hg h
    rw [if_neg h]
    exact ⟨h1, rfl⟩
set_option maxRecDepth 20000 in
set_option maxHeartbeats 1000000 in
theorem rfGetInt_any (v : Value) (ys : List UInt8) (a : Int) (w : World) (hr : RdB w v ys) (h64 : a ≤ 9223372036854775807) (hl : ys.length ≤ 140737488355328) :
    Calls Tryz.prog 92 #[v, .int .i64 a] w (GetIPost ys a w) := by
  have hG := rfGetUint_any v ys a w hr h64
  obtain ⟨r1, r2, r3⟩ := getU_range ys a hl
  have hE := getU_err (ys := ys) (a := a)
  have hd := Lib.hid (show getI ys a = (zig (getU ys a).1, (getU ys a).2.1, (getU ys a).2.2) from rfl)
  unfold GetPost at hG
  generalize (getU ys a).1 = n at *
  generalize (getU ys a).2.1 = m at *
  generalize (getU ys a).2.2 = e at *
  have HG := Lib.hid hG
  clear hG
  by_cases he : e = 0
  · subst he
    clear hE
    by_cases ho : n % 2 = 1
    · have hz := Lib.hid (show zig n = -((n / 2 : Nat) : Int) - 1 by unfold zig; rw [if_pos ho])
      have ho' : ((n : Int) % 2 == 0) = false := by rw [beq_eq_false_iff_ne]; omega
      clear ho
      go_enter Tryz.func92, Tryz.ntmps92
      go_wp2_with fail
      refine HG.out.mono ?_
      rintro e w' ⟨rfl, rfl⟩
      go_wp2
      go_ret3
      exact ⟨by rw [hd.out, hz.out]; go_num, rfl⟩
    · have hz := Lib.hid (show zig n = ((n / 2 : Nat) : Int) by unfold zig; rw [if_neg ho])
      have ho' : ((n : Int) % 2 == 0) = true := by rw [beq_iff_eq]; omega
      clear ho
      go_enter Tryz.func92, Tryz.ntmps92
      go_wp2_with fail
      refine HG.out.mono ?_
      rintro e w' ⟨rfl, rfl⟩
      go_wp2
      go_ret3
      exact ⟨by rw [hd.out, hz.out]; go_num, rfl⟩
  · obtain ⟨rfl, rfl⟩ := hE he
    have hz := Lib.hid (show zig 0 = 0 by rfl)
    go_enter Tryz.func92, Tryz.ntmps92
    go_wp2_with fail
    refine HG.out.mono ?_
    rintro e w' ⟨rfl, rfl⟩
    go_wp2
    go_ret3
    exact ⟨by rw [hd.out, hz.out]; rfl, rfl⟩
end Go.Proofs.YtckooioikcenmaaGreat
namespace Go.Proofs.YtckooioikcenmaaGreat
open Go.RowKit
set_option maxRecDepth 20000 in
set_option maxHeartbeats 1000000 in
theorem rfBlob_any (u v : Value) (xs ys : List UInt8) (w : World) (hu : RdB w u xs) (hv : RdB w v ys) (hl : xs.length + ys.length ≤ 100000000000000) : Calls Tryz.prog 89 #[u, v] w (MadeB (xs ++ uv ys.length ++ ys) w) := by
  have HC := Lib.hid (rfUint_any u xs ys.length w (by omega) hu (by omega))
  have HV := Lib.hid hv
  obtain ⟨A, c, rfl, _, _⟩ := hv.form
  clear hv
  go_enter Tryz.func89, Tryz.ntmps89
  go_wp2_with fail
  refine HC.out.mono ?_
  rintro e w1 ⟨v1, rfl, hown, hb⟩
  have HB := Lib.hid hb
  have HV1 := Lib.hid hown.reads
  have hv10 := uv_len10 (show ys.length < 18446744073709551616 by omega)
  clear hown
  go_wp2_with fail
  refine (both_any _ _ _ ys w1 HV1.out (HV.out.below hb) (by rw [List.length_append]; omega)).mono ?_
  rintro e w2 ⟨v2, rfl, hown, hb2⟩
  have HO := Lib.hid (own_base hown hb.size)
  have HB2 := Lib.hid (hb.trans (hb2.mono hb.size))
  clear hown hb hb2
  go_wp2
  go_ret
  exact ⟨_, rfl, HO.out, HB2.out⟩
/-- bytes within bytes -/
theorem RdB.sub {w : World} {b o c : Nat} {ys : List UInt8} (h : RdB w (.slice (some ⟨b, o, none⟩) ys.length c) ys) (k n : Nat) (hkn : k + n ≤ ys.length) : RdB w (.slice (some ⟨b, o + k, none⟩) n (c - k)) ((ys.drop k).take n) := by
  rcases h with ⟨h1, _⟩ | ⟨b', o', c', h1, h2, h3, h4, h5⟩
  · cases h1
  · injection h1 with q1 q2 q3
    injection q1 with q1
    injection q1 with q4 q5 _
    subst q3; subst q4; subst q5
    have hl : ((ys.drop k).take n).length = n := by rw [List.length_take, List.length_drop]; omega
    refine .inr ⟨b, o + k, c - k, by rw [hl], by rw [hl]; omega, by omega, h4, fun j x hx => ?_⟩
    rw [List.getElem?_take] at hx
    split at hx
    · rw [List.getElem?_drop] at hx
      rw [Nat.add_assoc]
      exact h5 _ x hx
    · cases hx
theorem RdB.nil (w : World) : RdB w (.slice none 0 0) [] := .inl ⟨rfl, rfl⟩
set_option maxRecDepth 20000 in
set_option maxHeartbeats 1000000 in
theorem rfGetBlob_nil (w : World) (ys zs : List UInt8) (a most : Int) (h0 : 0 ≤ most) (_h1 : ((0 : Nat) : Int) ≤ most) (h2 : most ≤ 9223372036854775807)
    (HG : Hid (Calls Tryz.prog 103 #[.slice none 0 0, .int .i64 a] w fun e w' => e = .returned (.tuple #[.int .u64 ((0 : Nat) : Int), .int .i64 ((0 : Nat) : Int), .int .i64 0]) ∧ w = w'))
    (HU : Hid (RdB w (.slice none 0 0) zs)) (HZ : Hid (zs.length ≤ 100000000000000)) (HD : Hid (getB ys a most = (zs, ((0 : Nat) : Int) + ((0 : Nat) : Int), 0))) :
    Calls Tryz.prog 90 #[.slice none 0 0, .int .i64 a, .int .i64 most] w (GetBPost ys a most w) := by
  have hm5 : ¬ most < 0 := by omega
  have hm6 : ¬ most < ((0 : Nat) : Int) := by omega
  clear h0
  go_enter Tryz.func90, Tryz.ntmps90
  go_wp2_with fail
  refine HG.out.mono ?_
  rintro e w' ⟨rfl, rfl⟩
  go_wp2_with fail
  refine wp_loop_once ?_
  go_wp2_with fail
  refine (both_any _ _ [] zs w (RdB.nil w) HU.out (by have := HZ.out; simp; omega)).mono ?_
  rintro e w2 ⟨v2, rfl, hown, hb2⟩
  rw [List.nil_append] at hown
  have HO := Lib.hid hown
  have HB := Lib.hid hb2
  clear hown hb2
  go_wp2
  go_ret3
  exact ⟨v2, by rw [HD.out]; go_num, by rw [HD.out]; exact HO.out, HB.out⟩
set_option maxRecDepth 20000 in
set_option maxHeartbeats 1000000 in
theorem rfGetBlob_full (w : World) (b o k : Nat) (ys zs : List UInt8) (a most : Int) (hk9 : k ≤ 9223372036854775807) (h0 : 0 ≤ most) (_h1 : ((0 : Nat) : Int) ≤ most) (h2 : most ≤ 9223372036854775807)
    (HG : Hid (Calls Tryz.prog 103 #[.slice (some ⟨b, o, none⟩) k k, .int .i64 a] w fun e w' => e = .returned (.tuple #[.int .u64 ((0 : Nat) : Int), .int .i64 ((k : Nat) : Int), .int .i64 0]) ∧ w = w'))
    (HU : Hid (RdB w (.slice (some ⟨b, o, none⟩) 0 0) zs)) (HZ : Hid (zs.length ≤ 100000000000000)) (HD : Hid (getB ys a most = (zs, ((k : Nat) : Int) + ((0 : Nat) : Int), 0))) :
    Calls Tryz.prog 90 #[.slice (some ⟨b, o, none⟩) k k, .int .i64 a, .int .i64 most] w (GetBPost ys a most w) := by
  have hm5 : ¬ most < 0 := by omega
  have hm6 : ¬ most < ((0 : Nat) : Int) := by omega
  clear h0
  go_enter Tryz.func90, Tryz.ntmps90
  go_wp2_with fail
  refine HG.out.mono ?_
  rintro e w' ⟨rfl, rfl⟩
  go_wp2_with fail
  refine wp_loop_once ?_
  go_wp2_with fail
  refine (both_any _ _ [] zs w (RdB.nil w) HU.out (by have := HZ.out; simp; omega)).mono ?_
  rintro e w2 ⟨v2, rfl, hown, hb2⟩
  rw [List.nil_append] at hown
  have HO := Lib.hid hown
  have HB := Lib.hid hb2
  clear hown hb2
  go_wp2
  go_ret3
  exact ⟨v2, by rw [HD.out]; go_num, by rw [HD.out]; exact HO.out, HB.out⟩
set_option maxRecDepth 20000 in
set_option maxHeartbeats 1000000 in
theorem rfGetBlob_part (w : World) (b o c k n : Nat) (ys zs : List UInt8) (a most : Int) (hc : ys.length ≤ c) (hc9 : c ≤ 9223372036854775807) (hk : k < c) (hkn : k + n ≤ ys.length) (h0 : 0 ≤ most) (h1 : ((n : Nat) : Int) ≤ most) (h2 : most ≤ 9223372036854775807)
    (HG : Hid (Calls Tryz.prog 103 #[.slice (some ⟨b, o, none⟩) ys.length c, .int .i64 a] w fun e w' => e = .returned (.tuple #[.int .u64 ((n : Nat) : Int), .int .i64 ((k : Nat) : Int), .int .i64 0]) ∧ w = w'))
    (HU : Hid (RdB w (.slice (some ⟨b, o + k, none⟩) n (c - k)) zs)) (HZ : Hid (zs.length ≤ 100000000000000)) (HD : Hid (getB ys a most = (zs, ((k : Nat) : Int) + ((n : Nat) : Int), 0))) :
    Calls Tryz.prog 90 #[.slice (some ⟨b, o, none⟩) ys.length c, .int .i64 a, .int .i64 most] w (GetBPost ys a most w) := by
  have hm5 : ¬ most < 0 := by omega
  have hm6 : ¬ most < ((n : Nat) : Int) := by omega
  clear h0
  go_enter Tryz.func90, Tryz.ntmps90
  go_wp2_with fail
  refine HG.out.mono ?_
  rintro e w' ⟨rfl, rfl⟩
  go_wp2_with fail
  generalize Value.bool (decide (most < 0) || decide (most < (n : Int))) = z1
  generalize Value.bool (decide (most < (n : Int))) = z2
  generalize Value.bool (decide (most < 0)) = z3
  go_loopw [12] (fun s wl => ∃ i : Nat, s = .int .u64 i ∧ i ≤ n ∧ wl = w) (fun s _ => n - (intOf s).toNat)
  case atStart => exact ⟨0, rfl, by omega, rfl⟩
  case round =>
    obtain ⟨i, rfl, hi, rfl⟩ := hrel
    by_cases hik : i < n
    · have e1 : ¬ (ys.length : Int) ≤ (k : Int) + (i : Int) := by omega
      go_wp2
      go_roundw
      case rel => exact ⟨i + 1, by go_num, by omega, by first | trivial | rfl⟩
      case measure => simp [intOf] <;> omega
    · obtain rfl : i = n := by omega
      go_wp2_with fail
      refine (both_any _ _ [] zs _ (RdB.nil _) HU.out (by have := HZ.out; simp; omega)).mono ?_
      rintro e w2 ⟨v2, rfl, hown, hb2⟩
      rw [List.nil_append] at hown
      have HO := Lib.hid hown
      have HB := Lib.hid hb2
      clear hown hb2
      go_wp2
      go_ret3
      exact ⟨v2, by rw [HD.out]; go_num, by rw [HD.out]; exact HO.out, HB.out⟩
set_option maxRecDepth 20000 in
set_option maxHeartbeats 1000000 in
theorem rfGetBlob_any (v : Value) (ys : List UInt8) (a most : Int) (w : World) (hr : RdB w v ys) (h64 : a ≤ 9223372036854775807) (hl : ys.length ≤ 100000000000000) (hm0 : -9223372036854775808 ≤ most) (hm1 : most ≤ 9223372036854775807) :
    Calls Tryz.prog 90 #[v, .int .i64 a, .int .i64 most] w (GetBPost ys a most w) := by
  have hG := rfGetUint_any v ys a w hr h64
  obtain ⟨r1, r2, r3⟩ := getU_range ys a (by omega)
  unfold GetPost at hG
  have hd := Lib.hid (show getB ys a most = gB ys (getU ys a).1 (getU ys a).2.1 (getU ys a).2.2 most from rfl)
  generalize (getU ys a).1 = n at *
  generalize (getU ys a).2.1 = m at *
  generalize (getU ys a).2.2 = e at *
  have HG := Lib.hid hG
  clear hG
  have hr' := Lib.hid hr
  obtain ⟨A, c, rfl, hc, hm⟩ := hr.form
  clear hr
  have bad : ∀ e1 : Int, Hid (getB ys a most = ([], 0, e1)) → ∀ w', w = w' → GetBPost ys a most w (.returned (.tuple #[.slice none 0 0, .int .i64 0, .int .i64 e1])) w' := by
    rintro e1 h w' rfl
    exact ⟨_, by rw [h.out], by rw [h.out]; exact Bytes.nil _ _, Below.refl _ _⟩
  have BAD := Lib.hid bad
  clear bad
  have hc9 : c ≤ 9223372036854775807 := by simp only [maxLen] at hm; omega
  by_cases he : e = 0
  · subst he
    by_cases hm2 : most < 0 ∨ most < n
    · have HD := Lib.hid (hd.out.trans (by unfold gB; rw [if_neg (by simp), if_pos hm2]))
      by_cases hm3 : most < 0
      · clear hm2
        go_enter Tryz.func90, Tryz.ntmps90
        go_wp2_with fail
        refine HG.out.mono ?_
        rintro e w' ⟨rfl, rfl⟩
        go_wp2
        go_ret3
        exact BAD.out 3 HD _ rfl
      · have hm4 : most < n := by omega
        clear hm2
        go_enter Tryz.func90, Tryz.ntmps90
        go_wp2_with fail
        refine HG.out.mono ?_
        rintro e w' ⟨rfl, rfl⟩
        go_wp2
        go_ret3
        exact BAD.out 3 HD _ rfl
    · obtain ⟨k, rfl⟩ := Int.eq_ofNat_of_zero_le r2
      by_cases hm4 : (ys.length : Int) - k < n
      · have HD := Lib.hid (hd.out.trans (by unfold gB; rw [if_neg (by simp), if_neg hm2, if_pos hm4]))
        have hm5 : ¬ most < 0 := by omega
        have hm6 : ¬ most < n := by omega
        have hk : k ≤ ys.length := by omega
        have hlo : ys.length - k < n := by omega
        clear hm2 hm4 r2 r3
        go_enter Tryz.func90, Tryz.ntmps90
        go_wp2_with fail
        refine HG.out.mono ?_
        rintro e w' ⟨rfl, rfl⟩
        go_wp2
        generalize Value.bool (decide (most < 0) || decide (most < (n : Int))) = z1
        generalize Value.bool (decide (most < (n : Int))) = z2
        generalize Value.bool (decide (most < 0)) = z3
        go_loopw [12] (fun s wl => ∃ i : Nat, s = .int .u64 i ∧ i ≤ ys.length - k ∧ wl = w) (fun s _ => ys.length - (intOf s).toNat)
        case atStart => exact ⟨0, rfl, by omega, rfl⟩
        case round =>
          obtain ⟨i, rfl, hi, rfl⟩ := hrel
          by_cases hik : i = ys.length - k
          · have e1 : (ys.length : Int) ≤ (k : Int) + (i : Int) := by omega
            have e2 : (i : Int) < (n : Int) := by omega
            clear hik
            go_wp2
            go_ret3
            exact BAD.out 11 HD _ rfl
          · have e1 : ¬ (ys.length : Int) ≤ (k : Int) + (i : Int) := by omega
            have e2 : (i : Int) < (n : Int) := by omega
            go_wp2
            go_roundw
            case rel => exact ⟨i + 1, by go_num, by omega, by first | trivial | rfl⟩
            case measure => simp [intOf] <;> omega
      · have HD := Lib.hid (hd.out.trans (by unfold gB; rw [if_neg (by simp), if_neg hm2, if_neg hm4]))
        rw [Int.toNat_natCast] at HD
        have hkn : k + n ≤ ys.length := by omega
        have hl1 : Hid (((ys.drop k).take n).length ≤ 100000000000000) := by show _ ≤ _; rw [List.length_take, List.length_drop]; omega
        rcases hr'.out with ⟨h1, rfl⟩ | ⟨b, o, c', h1, h2, h3, h4, h5⟩
        · injection h1 with q1 q2 q3
          subst q1; subst q3
          obtain rfl : k = 0 := by simp at hkn; omega
          obtain rfl : n = 0 := by simp at hkn; omega
          exact rfGetBlob_nil w [] _ a most (by omega) (by omega) hm1 HG (by exact RdB.nil w) hl1 HD
        · injection h1 with q1 _ q3
          subst q1; subst q3
          by_cases hkc : k = c
          · have hyc : ys.length = k := by omega
            obtain rfl : n = 0 := by omega
            have e2 : (Value.slice (some ⟨b, o, none⟩) ys.length c) = .slice (some ⟨b, o, none⟩) k k := by rw [hyc, ← hkc]
            rw [e2] at HG ⊢
            have hsub := (RdB.sub hr'.out 0 0 (by omega))
            have e3 : ((ys.drop k).take 0) = [] := by simp
            rw [e3] at HD hl1
            exact rfGetBlob_full w b o k ys _ a most (by omega) (by omega) (by omega) hm1 HG
              (.inr ⟨b, o, 0, rfl, by simp, by simp, h4, fun j x hx => by simp at hx⟩) hl1 HD
          · exact rfGetBlob_part w b o c k n ys _ a most (by omega) (by omega) (by omega) hkn (by omega) (by omega) hm1 HG (RdB.sub hr'.out k n hkn) hl1 HD
  · have HD := Lib.hid (hd.out.trans (by unfold gB; rw [if_pos he]))
    go_enter Tryz.func90, Tryz.ntmps90
    go_wp2_with fail
    refine HG.out.mono ?_
    rintro e w' ⟨rfl, rfl⟩
    go_wp2
    go_ret3
    exact BAD.out _ HD _ rfl
end Go.Proofs.YtckooioikcenmaaGreat

/- The plain law of numbers and texts as bytes (layer 1): what is written is read, and what is read was written; no program in sight. Conditions: none. -/
import Derived.Lib.ItoaNum
import Derived.Laws.BytesArg
import Derived.Shelf.Lays
import Derived.Shelf.Strconv.Itoa0
import Derived.Test.YthehpafkaefohaaDoorProg
import Derived.WalkKit
import Derived.Below
import Derived.Lib.Hide
import Derived.Deep.Draws
import Derived.OwnWalk
import Derived.Maps.AppendAt
import Derived.Laws.AppendOwnNone
import Derived.Lib.UnsafeStr
import Derived.Lib.BufferWrite
import Derived.KernelRfl
import Derived.Laws.BitsLemmas
import Derived.Laws.Bits64b
import Derived.Laws.CopyOwn
import Derived.Laws.MakeOwn
import Derived.Deep.RegionHeld
namespace Go.Proofs.YthehpafkaefohaaDoor
open Go
/-- a number without a sign, in sevens of bits, the lowest first -/
def uv (n : Nat) : List UInt8 := if n < 128 then [UInt8.ofNat n] else UInt8.ofNat (n % 128 + 128) :: uv (n / 128)
termination_by n
decreasing_by omega
/-- a number with a sign -/
def iv (z : Int) : List UInt8 := if z < 0 then uv ((-(z + 1)).toNat * 2 + 1) else uv (z.toNat * 2)
/-- a text: its length, its bytes -/
def blobB (b : List UInt8) : List UInt8 := uv b.length ++ b
/-- reading a number without a sign: its value, how many bytes it has, the error -/
def gU : List UInt8 → Nat → Nat → Nat × Nat × Int
  | [], _, _ => (0, 0, 11)
  | x :: r, k, acc =>
    if (k = 9 ∧ 1 < x.toNat) ∨ (x.toNat = 0 ∧ 0 < k) then (0, 0, 10)
    else if x.toNat < 128 then (acc + x.toNat * 128 ^ k, k + 1, 0)
    else gU r (k + 1) (acc + (x.toNat % 128) * 128 ^ k)
theorem uv_small {n : Nat} (h : n < 128) : uv n = [UInt8.ofNat n] := by rw [uv, if_pos h]
theorem uv_big {n : Nat} (h : ¬ n < 128) : uv n = UInt8.ofNat (n % 128 + 128) :: uv (n / 128) := by rw [uv, if_neg h]
theorem uv_pos (n : Nat) : 1 ≤ (uv n).length := by
  by_cases h : n < 128
  · rw [uv_small h]; simp
  · rw [uv_big h]; simp
theorem uv_len : ∀ (k n : Nat), n < 128 ^ k → 1 ≤ k → (uv n).length ≤ k
  | 0, _, _, h => by omega
  | 1, n, h, _ => by rw [uv_small (by simpa using h)]; simp
  | k + 2, n, h, _ => by
    by_cases h1 : n < 128
    · rw [uv_small h1]; simp
    · rw [uv_big h1]
      have := uv_len (k + 1) (n / 128) (by rw [Nat.pow_succ] at h; exact Nat.div_lt_of_lt_mul (by omega)) (by omega)
      simp; omega
theorem uv_len10 {n : Nat} (h : n < 18446744073709551616) : (uv n).length ≤ 10 := uv_len 10 n (Nat.lt_trans h (by decide)) (by decide)
theorem gU_uv : ∀ (m k acc : Nat) (r : List UInt8), (0 < k → 0 < m) → m * 128 ^ k < 18446744073709551616 → gU (uv m ++ r) k acc = (acc + m * 128 ^ k, k + (uv m).length, 0) := by
  intro m
  induction m using Nat.strongRecOn with
  | _ m ih =>
    intro k acc r hk hm
    by_cases h : m < 128
    · rw [uv_small h]
      have ht : (UInt8.ofNat m).toNat = m := by simp; omega
      simp only [List.cons_append, List.nil_append, gU, ht, List.length_singleton]
      rw [if_neg, if_pos h]
      rintro (⟨rfl, h1⟩ | ⟨h1, h2⟩)
      · have : 2 * 128 ^ 9 ≤ m * 128 ^ 9 := Nat.mul_le_mul_right _ h1
        exact absurd hm (by have e : 2 * 128 ^ 9 = 18446744073709551616 := by decide
                            omega)
      · have := hk h2; omega
    · rw [uv_big h]
      have ht : (UInt8.ofNat (m % 128 + 128)).toNat = m % 128 + 128 := by simp; omega
      have hp : m * 128 ^ k = m % 128 * 128 ^ k + m / 128 * 128 ^ (k + 1) := by
        conv => lhs; rw [← Nat.mod_add_div m 128]
        rw [Nat.add_mul, Nat.pow_succ]
        congr 1
        rw [Nat.mul_comm 128, Nat.mul_assoc, Nat.mul_comm 128]
      simp only [List.cons_append, gU, ht, List.length_cons]
      rw [if_neg, if_neg (by omega), show (m % 128 + 128) % 128 = m % 128 by omega, ih (m / 128) (by omega) (k + 1) _ r (by omega) (by omega)]
      · rw [hp, Nat.add_assoc]
        congr 2; omega
      · rintro (⟨rfl, h1⟩ | ⟨h1, h2⟩)
        · have : 128 * 128 ^ 9 ≤ m * 128 ^ 9 := Nat.mul_le_mul_right _ (by omega)
          exact absurd hm (by have e : 128 * 128 ^ 9 = 1180591620717411303424 := by decide
                              omega)
        · omega
theorem u8_self (x : UInt8) : UInt8.ofNat x.toNat = x := by simp
theorem gU_back : ∀ (l : List UInt8) (k acc n c : Nat), k ≤ 9 → gU l k acc = (n, c, 0) →
    ∃ m r, l = uv m ++ r ∧ n = acc + m * 128 ^ k ∧ c = k + (uv m).length ∧ (0 < k → 0 < m) ∧ m * 128 ^ k < 18446744073709551616
  | [], k, acc, n, c, _, h => by simp [gU] at h
  | x :: r, k, acc, n, c, hk, h => by
    have hx := x.toNat_lt
    simp only [gU] at h
    split at h
    · simp at h
    · rename_i hbad
      have hp10 : (128 : Nat) ^ 9 = 9223372036854775808 := by decide
      split at h
      · rename_i hl
        simp only [Prod.mk.injEq] at h
        refine ⟨x.toNat, r, ?_, h.1.symm, ?_, fun h0 => ?_, ?_⟩
        · rw [uv_small hl, u8_self]; rfl
        · rw [uv_small hl]; simp; omega
        · apply Nat.pos_of_ne_zero; intro e; exact hbad (.inr ⟨e, h0⟩)
        · by_cases h9 : k = 9
          · subst h9
            have : x.toNat ≤ 1 := by
              apply Nat.le_of_not_lt; intro e; exact hbad (.inl ⟨rfl, e⟩)
            rw [hp10]; omega
          · have h1 : 128 ^ k ≤ 128 ^ 8 := Nat.pow_le_pow_right (by decide) (by omega)
            have h2 : (128 : Nat) ^ 8 = 72057594037927936 := by decide
            have h3 : x.toNat * 128 ^ k ≤ 127 * 128 ^ k := Nat.mul_le_mul_right _ (by omega)
            omega
      · rename_i hl
        by_cases h9 : k = 9
        · exfalso; subst h9; exact hbad (.inl ⟨rfl, by omega⟩)
        · obtain ⟨m, r', hr, hn, hc, hm, hb⟩ := gU_back r (k + 1) _ n c (by omega) h
          have hm0 := hm (by omega)
          have hd : (x.toNat % 128 + 128 * m) / 128 = m := by omega
          have hmod : (x.toNat % 128 + 128 * m) % 128 = x.toNat % 128 := by omega
          have hbig : ¬ x.toNat % 128 + 128 * m < 128 := by omega
          have hpow : (x.toNat % 128 + 128 * m) * 128 ^ k = x.toNat % 128 * 128 ^ k + m * 128 ^ (k + 1) := by
            rw [Nat.add_mul, Nat.pow_succ, Nat.mul_comm 128 m, Nat.mul_assoc, Nat.mul_comm 128 (128 ^ k)]
          refine ⟨x.toNat % 128 + 128 * m, r', ?_, ?_, ?_, fun _ => by omega, ?_⟩
          · rw [uv_big hbig, hd, hmod, hr, show x.toNat % 128 + 128 = x.toNat by omega, u8_self]; rfl
          · rw [hpow, hn]; omega
          · rw [uv_big hbig, hd, hc]; simp; omega
          · have h1 : 128 ^ k ≤ 128 ^ 8 := Nat.pow_le_pow_right (by decide) (by omega)
            have h2 : (128 : Nat) ^ 8 = 72057594037927936 := by decide
            -- the lower seven bits fit below the next one
            have h4 : (m + 1) * 128 ^ (k + 1) ≤ 18446744073709551616 := by
              have hdv : (128 : Nat) ^ (k + 1) ∣ 18446744073709551616 ∨ k + 1 = 9 ∧ m ≤ 1 := by
                by_cases h8 : k + 1 = 9
                · refine .inr ⟨h8, ?_⟩
                  apply Nat.le_of_not_lt; intro e
                  have : 2 * 128 ^ (k + 1) ≤ m * 128 ^ (k + 1) := Nat.mul_le_mul_right _ e
                  rw [h8, hp10] at this; rw [h8, hp10] at hb; omega
                · exact .inl ⟨2 ^ (64 - 7 * (k + 1)), by
                    rw [show (128 : Nat) = 2 ^ 7 from rfl, ← Nat.pow_mul, ← Nat.pow_add, show 7 * (k + 1) + (64 - 7 * (k + 1)) = 64 by omega]⟩
              rcases hdv with ⟨q, hq⟩ | ⟨h8, h1⟩
              · have hpp : 0 < (128 : Nat) ^ (k + 1) := Nat.pow_pos (by decide)
                have : m < q := by
                  apply Nat.lt_of_mul_lt_mul_right (a := 128 ^ (k + 1))
                  rw [Nat.mul_comm q]; omega
                have : (m + 1) * 128 ^ (k + 1) ≤ q * 128 ^ (k + 1) := Nat.mul_le_mul_right _ this
                rw [Nat.mul_comm q] at this; omega
              · rw [h8, hp10]; omega
            have h5 : x.toNat % 128 * 128 ^ k < 128 ^ (k + 1) := by
              rw [Nat.pow_succ, Nat.mul_comm (128 ^ k)]
              exact Nat.mul_lt_mul_of_pos_right (by omega) (Nat.pow_pos (by decide))
            rw [Nat.add_mul, Nat.one_mul] at h4
            rw [hpow]; omega
theorem gU_err : ∀ (l : List UInt8) (k acc n c : Nat) (e : Int), gU l k acc = (n, c, e) → e ≠ 0 → n = 0 ∧ c = 0 ∧ (e = 10 ∨ e = 11)
  | [], k, acc, n, c, e, h, he => by simp [gU] at h; omega
  | x :: r, k, acc, n, c, e, h, he => by
    simp only [gU] at h
    split at h
    · simp at h; omega
    · split at h
      · simp at h; omega
      · exact gU_err r _ _ n c e h he
/-- unlike numbers are written unlike, whatever stands behind -/
theorem uv_inj {m n : Nat} {r s : List UInt8} (hm : m < 18446744073709551616) (hn : n < 18446744073709551616) (h : uv m ++ r = uv n ++ s) : m = n ∧ r = s := by
  have h1 := gU_uv m 0 0 r (by omega) (by omega)
  have h2 := gU_uv n 0 0 s (by omega) (by omega)
  rw [h, h2] at h1
  simp only [Prod.mk.injEq, Nat.pow_zero, Nat.mul_one, Nat.zero_add, and_true] at h1
  have e : m = n := h1.1.symm
  subst e
  exact ⟨rfl, List.append_cancel_left h⟩
theorem gU_zero {n : Nat} (h : n < 18446744073709551616) (r : List UInt8) : gU (uv n ++ r) 0 0 = (n, (uv n).length, 0) := by
  have := gU_uv n 0 0 r (by omega) (by omega)
  simpa using this
theorem gU_zero_back {l : List UInt8} {n c : Nat} (h : gU l 0 0 = (n, c, 0)) : n < 18446744073709551616 ∧ c = (uv n).length ∧ l = uv n ++ l.drop c := by
  obtain ⟨m, r, h1, h2, h3, _, h5⟩ := gU_back l 0 0 n c (by omega) h
  simp only [Nat.pow_zero, Nat.mul_one, Nat.zero_add] at h2 h3 h5
  subst h2
  refine ⟨h5, h3, ?_⟩
  rw [h3, h1, List.drop_left]
/-- the number with a sign that a number without one stands for -/
def zig (n : Nat) : Int := if n % 2 = 1 then -((n / 2 : Nat) : Int) - 1 else ((n / 2 : Nat) : Int)
/-- and back -/
def zag (z : Int) : Nat := if z < 0 then (-(z + 1)).toNat * 2 + 1 else z.toNat * 2
theorem iv_zag (z : Int) : iv z = uv (zag z) := by unfold iv zag; split <;> rfl
theorem zig_zag (z : Int) : zig (zag z) = z := by
  unfold zig zag
  split <;> rename_i h
  · rw [if_pos (by omega)]; omega
  · rw [if_neg (by omega)]; omega
theorem zag_zig (n : Nat) : zag (zig n) = n := by
  unfold zig zag
  split <;> rename_i h
  · rw [if_pos (by omega)]; omega
  · rw [if_neg (by omega)]; omega
theorem zag_lt {z : Int} (h0 : -9223372036854775808 ≤ z) (h1 : z ≤ 9223372036854775807) : zag z < 18446744073709551616 := by
  unfold zag; split <;> omega
theorem zig_range {n : Nat} (h : n < 18446744073709551616) : -9223372036854775808 ≤ zig n ∧ zig n ≤ 9223372036854775807 := by
  unfold zig; split <;> omega
end Go.Proofs.YthehpafkaefohaaDoor
namespace Go.Proofs
open Go.Shelf
def Tryd.lays129_ren : Go.Shelf.Ren := ⟨fun | 129 => 63 | n => n, fun | 53 => 78 | 3 => 3 | 4 => 4 | 46 => 96 | 5 => 5 | 9 => 9 | n => n, fun | n => n⟩
theorem Tryd.lays129 : Go.Proofs.Lays.n129 Tryd.prog Tryd.lays129_ren := {
  mixed := by kernel_rfl
  f129 := Tryd.func63.trans (congrArg some (by kernel_rfl))
  t3 := Tryd.underlying3
  a3 := Tryd.isAgg3
  z3 := Tryd.sizeOf3
  v3 := Tryd.zeroValue3
  t4 := Tryd.underlying4
  a4 := Tryd.isAgg4
  z4 := Tryd.sizeOf4
  v4 := Tryd.zeroValue4
  t5 := Tryd.underlying5
  a5 := Tryd.isAgg5
  z5 := Tryd.sizeOf5
  v5 := Tryd.zeroValue5
  t9 := Tryd.underlying9
  a9 := Tryd.isAgg9
  z9 := Tryd.sizeOf9
  v9 := Tryd.zeroValue9
  t46 := Tryd.underlying96
  a46 := Tryd.isAgg96
  z46 := Tryd.sizeOf96
  v46 := Tryd.zeroValue96
  t53 := Tryd.underlying78
  a53 := Tryd.isAgg78
  z53 := Tryd.sizeOf78
  v53 := Tryd.zeroValue78 }
theorem Tryd.bits_Len64 (x : Int) (w : World) (h0 : 0 ≤ x) (h1 : x ≤ 18446744073709551615) :
    Calls Tryd.prog 63 #[.int .u64 x] w fun e w' => e = .returned (.int .i64 (Lib.bitLen x.toNat)) ∧ w' = w := Any.bits_Len64 Tryd.lays129 x w h0 h1
end Go.Proofs
namespace Go.Proofs.YthehpafkaefohaaDoor
open Go.RowKit
theorem alloc_at (w : World) (o : Obj) : (w.alloc o).heap[w.heap.size]? = some o := by
  show (w.heap.push o)[w.heap.size]? = _
  simp
theorem blk_lt {w : World} {b : Nat} {o : Obj} (h : w.heap[b]? = some o) : b < w.heap.size := by
  by_cases hl : b < w.heap.size
  · exact hl
  · rw [Array.getElem?_eq_none (by omega)] at h; cases h
theorem blk_below {w w' : World} (hb : Below w.heap.size w w') {b : Nat} {o : Obj} (h : w.heap[b]? = some o) : w'.heap[b]? = some o :=
  (hb.block b (blk_lt h)).trans h
theorem blk_alloc {w : World} {b : Nat} {o : Obj} (h : w.heap[b]? = some o) (x : Obj) : (w.alloc x).heap[b]? = some o :=
  (Below.heap_alloc w x b (blk_lt h)).trans h
theorem blk_cell {w : World} {b : Nat} {cs : Array Value} {T : TypeId} {fr : Nat × Nat} (h : w.heap[b]? = some (.cells cs T fr)) (o : Nat) : w.cell? ⟨b, o, none⟩ = cs[o]? := by
  simp [World.cell?, h]
theorem blk_free {w : World} {b : Nat} {cs : Array Value} {T : TypeId} (h : w.heap[b]? = some (.cells cs T)) (o : Nat) : w.frozen? ⟨b, o, none⟩ = false := by
  simp [World.frozen?, h]
theorem blk_set {w : World} {b : Nat} {cs : Array Value} {T : TypeId} {fr : Nat × Nat} (h : w.heap[b]? = some (.cells cs T fr)) (o : Nat) (v : Value) :
    (w.setCell ⟨b, o, none⟩ v).heap[b]? = some (.cells (cs.setIfInBounds o v) T fr) := by
  simp [World.setCell, Array.getElem?_modify, h]
theorem blk_set_ne {w : World} {b : Nat} {ob : Obj} (h : w.heap[b]? = some ob) {a : Addr} (v : Value) (hne : b ≠ a.block) : (w.setCell a v).heap[b]? = some ob :=
  (Below.heap_setCell w a v b hne).trans h
theorem bcell {W w1 : World} (hb : Below W.heap.size W w1) : (∀ b o, b < W.heap.size → w1.cell? ⟨b, o, none⟩ = W.cell? ⟨b, o, none⟩) ∧ (∀ b o, b < W.heap.size → w1.frozen? ⟨b, o, none⟩ = W.frozen? ⟨b, o, none⟩) :=
  ⟨fun b o h => hb.cell (p := ⟨b, o, none⟩) h, fun b o h => hb.frozen (p := ⟨b, o, none⟩) h⟩
theorem below_drewN {B : Nat} {w W : World} (h : Below B w W) (n : Nat) : Below B w (W.drewN n) := ⟨h.os, h.tape, h.output, h.size, h.block⟩
theorem cell_later {w w' : World} {a : Addr} {v : Value} (hb : Below w.heap.size w w') (h : w.cell? a = some v) : w'.cell? a = some v :=
  (hb.cell (World.block_lt_of_cell? w a h)).trans h
theorem below_on {B : Nat} {a w w' : World} (h : Below B a w) (hB : B ≤ w.heap.size) (hb : Below w.heap.size w w') : Below B a w' := h.trans (hb.mono hB)
theorem below_alloc {B : Nat} {a w w' : World} {o : Obj} (h : Below B a w) (hB : B ≤ w.heap.size) (hb : Below (w.alloc o).heap.size (w.alloc o) w') : Below B a w' :=
  (h.alloc hB o).trans (hb.mono (by simp; omega))
theorem size_alloc {w w' : World} {o : Obj} (hb : Below (w.alloc o).heap.size (w.alloc o) w') : w.heap.size < w'.heap.size := by
  have := hb.size; simp at this; omega
end Go.Proofs.YthehpafkaefohaaDoor
namespace Go.Proofs.YthehpafkaefohaaDoor
open Go.RowKit
/-- Is a block a row of a type of E? -/
def rowE (E : TypeId → Bool) (w : World) (k : Nat) : Bool := match w.heap[k]? with
  | some (.cells _ t _) => E t
  | _ => false
/-- Of what was there, nothing has turned but rows of the types E, from block B on. -/
structure Keep (E : TypeId → Bool) (B : Nat) (w w' : World) : Prop where
  os : w'.os = w.os
  tape : w'.tape = w.tape
  output : w'.output = w.output
  size : w.heap.size ≤ w'.heap.size
  block : ∀ k, k < w.heap.size → (k < B ∨ rowE E w k = false) → w'.heap[k]? = w.heap[k]?
theorem Keep.refl (E : TypeId → Bool) (B : Nat) (w : World) : Keep E B w w := ⟨rfl, rfl, rfl, Nat.le_refl _, fun _ _ _ => rfl⟩
theorem Keep.trans {E : TypeId → Bool} {B : Nat} {a b c : World} (h : Keep E B a b) (k : Keep E B b c) : Keep E B a c :=
  ⟨k.os.trans h.os, k.tape.trans h.tape, k.output.trans h.output, Nat.le_trans h.size k.size, fun i hi hr => by
    have e := h.block i hi hr
    have hr' : i < B ∨ rowE E b i = false := hr.imp id (fun x => by unfold rowE at x ⊢; rw [e]; exact x)
    exact (k.block i (Nat.lt_of_lt_of_le hi h.size) hr').trans e⟩
theorem Keep.mono {E : TypeId → Bool} {B B' : Nat} {w w' : World} (h : Keep E B w w') (hB : B' ≤ B) : Keep E B' w w' :=
  ⟨h.os, h.tape, h.output, h.size, fun k hk hr => h.block k hk (hr.imp (fun x => Nat.lt_of_lt_of_le x hB) id)⟩
theorem Keep.types {E E' : TypeId → Bool} {B : Nat} {w w' : World} (h : Keep E B w w') (hE : ∀ t, E t = true → E' t = true) : Keep E' B w w' :=
  ⟨h.os, h.tape, h.output, h.size, fun k hk hr => h.block k hk (hr.imp id (fun x => by
    unfold rowE at x ⊢
    split <;> rename_i hh
    · rw [hh] at x
      simp only at x
      cases hv : E _ with
      | false => rfl
      | true => rw [hE _ hv] at x; cases x
    · rfl))⟩
theorem Keep.of_below {E : TypeId → Bool} {B : Nat} {w w' : World} (h : Below w.heap.size w w') : Keep E B w w' := ⟨h.os, h.tape, h.output, h.size, fun k hk _ => h.block k hk⟩
theorem Keep.below {E : TypeId → Bool} {B : Nat} {w w' : World} (h : Keep E B w w') (hB : B ≤ w.heap.size) : Below B w w' := ⟨h.os, h.tape, h.output, h.size, fun k hk => h.block k (by omega) (.inl hk)⟩
theorem Keep.drew {E : TypeId → Bool} {B : Nat} {a w : World} (h : Keep E B a w) : Keep E B a w.drew := ⟨h.os, h.tape, h.output, h.size, h.block⟩
theorem Keep.drewN {E : TypeId → Bool} {B : Nat} {a w : World} (h : Keep E B a w) (n : Nat) : Keep E B a (w.drewN n) := ⟨h.os, h.tape, h.output, h.size, h.block⟩
theorem Keep.alloc {E : TypeId → Bool} {B : Nat} {a w : World} (h : Keep E B a w) (o : Obj) : Keep E B a (w.alloc o) :=
  h.trans (Keep.of_below ((Below.refl _ _).alloc (Nat.le_refl _) o))
theorem Keep.setCell {E : TypeId → Bool} {B : Nat} {a w : World} (h : Keep E B a w) {b o : Nat} {cs : Array Value} {T : TypeId} {fr : Nat × Nat} (hb : w.heap[b]? = some (.cells cs T fr)) (hB : B ≤ b) (hE : E T = true) (v : Value) : Keep E B a (w.setCell ⟨b, o, none⟩ v) :=
  h.trans ⟨rfl, rfl, rfl, by simp [World.setCell], fun k hk hr => by
    by_cases e : k = b
    · subst e
      rcases hr with hr | hr
      · omega
      · unfold rowE at hr; rw [hb] at hr; simp only at hr; rw [hE] at hr; cases hr
    · exact Below.heap_setCell _ _ _ _ e⟩
/-- a store into a block that is younger than the start -/
theorem Keep.setNew {E : TypeId → Bool} {B : Nat} {a w : World} (h : Keep E B a w) {p : Addr} (hp : a.heap.size ≤ p.block) (v : Value) : Keep E B a (w.setCell p v) :=
  ⟨h.os, h.tape, h.output, by simpa [World.setCell] using h.size, fun k hk hr => by
    rw [Below.heap_setCell _ _ _ _ (by omega)]
    exact h.block k hk hr⟩
theorem Keep.grown {E : TypeId → Bool} {B base n size : Nat} {e : TypeId} {v : Value} {xs : List Value} {a w w' : World} (h : Keep E B a w) (ho : w.ownsRow base e size v n xs) (hg : w.grownBy w' v.ownBlock) (hB : B ≤ base) (hE : E e = true) : Keep E B a w' :=
  h.trans ⟨hg.os, hg.tape, hg.output, hg.size, fun k hk hr => by
    by_cases e1 : some k = v.ownBlock
    · rcases ho.2 with ⟨rfl, _⟩ | ⟨g, cap, cur, rfl, hb, hh, _⟩
      · simp [Value.ownBlock] at e1
      · have : k = g := by simpa [Value.ownBlock] using e1
        subst this
        rcases hr with hr | hr
        · omega
        · unfold rowE at hr; rw [hh] at hr; simp only at hr; rw [hE] at hr; cases hr
    · exact hg.block k hk e1⟩
/-- a block that a step keeps -/
theorem Keep.blk {E : TypeId → Bool} {B : Nat} {w w' : World} (h : Keep E B w w') {k : Nat} {cs : Array Value} {T : TypeId} {fr : Nat × Nat} (hk : w.heap[k]? = some (.cells cs T fr)) (hE : E T = false) : w'.heap[k]? = some (.cells cs T fr) :=
  (h.block k (blk_lt hk) (.inr (by unfold rowE; rw [hk]; exact hE))).trans hk
theorem Keep.old {E : TypeId → Bool} {B : Nat} {w w' : World} (h : Keep E B w w') {k : Nat} {o : Obj} (hk : w.heap[k]? = some o) (hB : k < B) : w'.heap[k]? = some o :=
  (h.block k (blk_lt hk) (.inl hB)).trans hk
theorem Keep.own {E : TypeId → Bool} {B base n size : Nat} {e : TypeId} {v : Value} {xs : List Value} {w w' : World} (h : Keep E B w w') (ho : w.ownsRow base e size v n xs) (hE : E e = false) : w'.ownsRow base e size v n xs := by
  refine ⟨ho.1, ?_⟩
  rcases ho.2 with h2 | ⟨g, cap, cur, rfl, hb, hh, hr⟩
  · exact .inl h2
  · exact .inr ⟨g, cap, cur, rfl, hb, h.blk hh hE, hr⟩
theorem own_below {base n size : Nat} {e : TypeId} {v : Value} {xs : List Value} {w w' : World} (h : Below w.heap.size w w') (ho : w.ownsRow base e size v n xs) : w'.ownsRow base e size v n xs := by
  refine ⟨ho.1, ?_⟩
  rcases ho.2 with h2 | ⟨g, cap, cur, rfl, hb, hh, hr⟩
  · exact .inl h2
  · exact .inr ⟨g, cap, cur, rfl, hb, blk_below h hh, hr⟩
theorem own_base {base base' n size : Nat} {e : TypeId} {v : Value} {xs : List Value} {w : World} (ho : w.ownsRow base e size v n xs) (hb : base' ≤ base) : w.ownsRow base' e size v n xs := by
  refine ⟨ho.1, ?_⟩
  rcases ho.2 with h2 | ⟨g, cap, cur, rfl, hb', hh, hr⟩
  · exact .inl h2
  · exact .inr ⟨g, cap, cur, rfl, Nat.le_trans hb hb', hh, hr⟩
/-- v, a row of the call's own, has become v': nothing else that was there has turned; v' lies where v lay, or in a new block -/
def Ext (w w' : World) (v v' : Value) : Prop := w.grownBy w' v.ownBlock ∧ (v'.ownBlock = v.ownBlock ∨ ∃ k, v'.ownBlock = some k ∧ w.heap.size ≤ k)
theorem Ext.refl (w : World) (v : Value) : Ext w w v v := ⟨⟨rfl, rfl, rfl, Nat.le_refl _, fun _ _ _ => rfl⟩, .inl rfl⟩
theorem Ext.size {w w' : World} {v v' : Value} (h : Ext w w' v v') : w.heap.size ≤ w'.heap.size := h.1.size
theorem Ext.trans {a b c : World} {u v x : Value} (h : Ext a b u v) (k : Ext b c v x) : Ext a c u x := by
  refine ⟨⟨k.1.os.trans h.1.os, k.1.tape.trans h.1.tape, k.1.output.trans h.1.output, Nat.le_trans h.1.size k.1.size, fun i hi hne => ?_⟩, ?_⟩
  · have e := h.1.block i hi hne
    refine (k.1.block i (Nat.lt_of_lt_of_le hi h.1.size) ?_).trans e
    rcases h.2 with h2 | ⟨j, h2, hj⟩
    · rw [h2]; exact hne
    · rw [h2]; intro e2; injection e2 with e2; omega
  · rcases k.2 with k2 | ⟨j, k2, hj⟩
    · rw [k2]; exact h.2
    · exact .inr ⟨j, k2, Nat.le_trans h.1.size hj⟩
theorem Ext.below {a b c : World} {u v : Value} (h : Ext a b u v) (k : Below b.heap.size b c) : Ext a c u v :=
  ⟨⟨k.os.trans h.1.os, k.tape.trans h.1.tape, k.output.trans h.1.output, Nat.le_trans h.1.size k.size, fun i hi hne => (k.block i (Nat.lt_of_lt_of_le hi h.1.size)).trans (h.1.block i hi hne)⟩, h.2⟩
theorem Ext.alloc {a b : World} {u v : Value} (h : Ext a b u v) (o : Obj) : Ext a (b.alloc o) u v := h.below ((Below.refl _ _).alloc (Nat.le_refl _) o)
/-- what the append law says, as a step -/
theorem Ext.of_at {w w' : World} {v v' : Value} (hg : w.grownBy w' v.ownBlock) (h : v'.ownBlock = v.ownBlock ∨ v'.ownBlock = some w.heap.size) : Ext w w' v v' :=
  ⟨hg, h.imp id (fun e => ⟨_, e, Nat.le_refl _⟩)⟩
theorem Ext.blk {w w' : World} {v v' : Value} (h : Ext w w' v v') {k : Nat} {o : Obj} (hk : w.heap[k]? = some o) (hne : some k ≠ v.ownBlock) : w'.heap[k]? = some o :=
  (h.1.block k (blk_lt hk) hne).trans hk
theorem Ext.keep {E : TypeId → Bool} {base n size : Nat} {e : TypeId} {v v' : Value} {xs : List Value} {w w' : World} (h : Ext w w' v v') (ho : w.ownsRow base e size v n xs) (hE : E e = true) : Keep E base w w' :=
  (Keep.refl _ _ _).grown ho h.1 (Nat.le_refl _) hE
/-- a step from behind a new block on -/
theorem Ext.from_alloc {w w' : World} {v v' : Value} {o : Obj} (h : Ext (w.alloc o) w' v v') : Ext w w' v v' := (((Ext.refl w v).alloc o)).trans h
end Go.Proofs.YthehpafkaefohaaDoor
namespace Go.Proofs.YthehpafkaefohaaDoor
open Go.RowKit
theorem infoB : (Tryd.prog.info? 5).map (fun i => (i.zero, i.size, i.bytes)) = some (some (.int .u8 0), 1, 1) := by kernel_rfl
/-- v is bytes that the call owns, from block base on -/
def Bytes (base : Nat) (w : World) (v : Value) (xs : List UInt8) : Prop := w.ownsRow base 5 1 v xs.length (Lib.byteCells xs)
/-- the type of bytes -/
def isB (t : TypeId) : Bool := t == 5
/-- a call gives back bytes that it owns; nothing else that was there has turned -/
def RetBytes (base : Nat) (w : World) (v : Value) (xs : List UInt8) (e : Ending) (w' : World) : Prop := ∃ v', e = .returned v' ∧ Bytes base w' v' xs ∧ Ext w w' v v'
theorem rounds_small {m : Nat} (h : m < 128) : (Lib.bitLen (m ||| 1) - 1) / 7 = 0 := by
  have : ∀ m : Fin 128, (Lib.bitLen (m.val ||| 1) - 1) / 7 = 0 := by decide +kernel
  exact this ⟨m, h⟩
theorem or_one_half (q : Nat) : (q ||| 1) / 2 = q / 2 := by
  apply Nat.eq_of_testBit_eq
  intro i
  simp only [Nat.testBit_div_two, Nat.testBit_or]
  simp [Nat.testBit_succ]
theorem bitLen_or (q : Nat) (h0 : q ≠ 0) (h : q < 2 ^ 64) : Lib.bitLen (q ||| 1) = Lib.bitLen q := by
  have h1 : q ||| 1 < 2 ^ 64 := Nat.or_lt_two_pow h (by decide)
  have h2 : q ||| 1 ≠ 0 := by
    intro e
    have := Nat.left_le_or (n := q) (m := 1)
    omega
  rw [Lib.bitLen_half _ h2 h1, Lib.bitLen_half _ h0 h, or_one_half]
theorem rounds_uv : ∀ m : Nat, m < 18446744073709551616 → (Lib.bitLen (m ||| 1) - 1) / 7 = (uv m).length - 1 := by
  intro m
  induction m using Nat.strongRecOn with
  | _ m ih =>
    intro h
    by_cases h1 : m < 128
    · rw [rounds_small h1, uv_small h1]; rfl
    · have hm : m ≠ 0 := by omega
      have h64 : m < 2 ^ 64 := h
      rw [bitLen_or m hm h64, Lib.bitLen_shift 7 m (by omega) h64, uv_big h1]
      have e := ih (m / 128) (by omega) (by omega)
      rw [bitLen_or (m / 128) (by omega) (by omega)] at e
      have hp := uv_pos (m / 128)
      have hb : 1 ≤ Lib.bitLen (m / 128) := by rw [Lib.bitLen_half _ (by omega) (by omega)]; omega
      show (7 + Lib.bitLen (m / 128) - 1) / 7 = _
      simp only [List.length_cons]
      omega
theorem or128_fin : ∀ y : Fin 256, bits .or .u8 128 ((y.val : Nat) : Int) = 128 + ((y.val % 128 : Nat) : Int) := by decide +kernel
theorem or128 (m : Nat) : bits .or .u8 128 ((m : Int) % 256) = ((m % 128 + 128 : Nat) : Int) := by
  have h := or128_fin ⟨m % 256, Nat.mod_lt _ (by decide)⟩
  simp only at h
  rw [show ((m : Int) % 256) = ((m % 256 : Nat) : Int) by omega, h, show m % 256 % 128 = m % 128 by omega]
  omega
theorem or_one_int (n : Nat) (h : n < 18446744073709551616) : bits .or .u64 (n : Int) 1 = ((n ||| 1 : Nat) : Int) := bits_or_u64_nat n 1 h (by decide)
theorem cell_byte (m : Nat) (h : m < 256) : Value.int .u8 ((UInt8.ofNat m).toNat : Int) = .int .u8 (m : Int) := by
  have : (UInt8.ofNat m).toNat = m := by simp; omega
  rw [this]
theorem bitLen_or_range (n : Nat) (h : n < 18446744073709551616) : 1 ≤ Lib.bitLen (n ||| 1) ∧ Lib.bitLen (n ||| 1) ≤ 64 := by
  have h1 : n ||| 1 < 2 ^ 64 := Nat.or_lt_two_pow h (by decide)
  have h2 : n ||| 1 ≠ 0 := by
    intro e
    have := Nat.right_le_or (n := n) (m := 1)
    omega
  refine ⟨by rw [Lib.bitLen_half _ h2 h1]; omega, Lib.bitLen_le _ 64 (by decide) h1⟩
theorem bytes_snoc (xs : List UInt8) (m : Nat) (h : m < 256) : Lib.byteCells xs ++ [.int .u8 (m : Int)] = Lib.byteCells (xs ++ [UInt8.ofNat m]) := by
  rw [Lib.byteCells_append, ← cell_byte m h]; rfl
theorem bytes_own {base : Nat} {w : World} {v : Value} {xs : List UInt8} {m : Nat} (hm : m < 256) (h : w.ownsRow base 5 1 v (xs.length + 1) (Lib.byteCells xs ++ [.int .u8 (m : Int)])) : Bytes base w v (xs ++ [UInt8.ofNat m]) := by
  unfold Bytes
  rw [← bytes_snoc xs m hm, List.length_append]; exact h
theorem ret_int {k : IntKind} {a b : Int} (h : a = b) : Ending.returned (.int k a) = .returned (.int k b) := by rw [h]
/-- the state of Uint's loop after k rounds: m is left to be written -/
def UintAt (base n k m : Nat) (w wr : World) (v v' : Value) (xs : List UInt8) : Prop := ∃ pre, uv n = pre ++ uv m ∧ pre.length = k ∧ Bytes base wr v' (xs ++ pre) ∧ Ext w wr v v'
theorem Bytes.alloc {base : Nat} {w : World} {v : Value} {xs : List UInt8} (h : Bytes base w v xs) (o : Obj) : Bytes base (w.alloc o) v xs := World.ownsRow.alloc h o
theorem Bytes.nil (base : Nat) (w : World) : Bytes base w (.slice none 0 0) [] := World.ownsRow_nil _ _ _ _
theorem Bytes.below {base : Nat} {w w' : World} {v : Value} {xs : List UInt8} (h : Bytes base w v xs) (hb : Below w.heap.size w w') : Bytes base w' v xs := own_below hb h
/-- 'append(s, x)' of one byte that has just been laid in a block of its own -/
theorem wpList_append_byte {ops : Array Oper} {rest : List Oper} {o : Oper} {a : Act} {w : World} {Q : Exit → Act → World → Prop} (hgd : o.guard = none) (s x : Operand)
    (ho : o.op = .call { callee := .builtin .append, args := #[s, x], argTypes := #[43, 43] })
    (base : Nat) (v : Value) (xs : List UInt8) (m g : Nat) (hs : a.eval s = v) (hown : Bytes base w v xs) (hx : a.eval x = .slice (some ⟨g, 0, none⟩) 1 1) (hc : w.cell? ⟨g, 0, none⟩ = some (.int .u8 (m : Int))) (hm : m < 256)
    (hl : xs.length + 1 ≤ 140737488355328) (hb : base ≤ w.heap.size)
    (h : ∀ v' w', Bytes base w' v' (xs ++ [UInt8.ofNat m]) → Ext w w' v v' → wpList Tryd.prog ops Q rest (a.put o.dst v') w') : wpList Tryd.prog ops Q (o :: rest) a w := by
  obtain ⟨i0, hi, hz0, hz1, hz2⟩ := info_parts infoB
  refine wpList_append_own_at _ hgd s x 43 ho base 5 i0 (.int .u8 0) 1 1 Tryd.underlying43 hi hz0 hz1 hz2 rfl (by decide) v xs.length _ hs hown ⟨g, 0, none⟩ 1 1 [.int .u8 (m : Int)] hx rfl ?_ ?_ ?_ ?_ hb ?_
  · intro j u hj
    match j, hj with
    | 0, hj => simp at hj; subst hj; exact hc
    | j + 1, hj => simp at hj
  · intro u hu; simp at hu; subst hu; rfl
  · simp only [maxLen]; omega
  · omega
  · intro v' w' h1 h2 _ h3
    exact h v' w' (bytes_own hm h1) (Ext.of_at h2 h3)
theorem addr_add (b o j : Nat) : (⟨b, o, none⟩ : Addr).add j = ⟨b, o + j, none⟩ := by unfold Addr.add; split <;> simp_all
/-- bytes that a slice reads as -/
def RdB (w : World) (v : Value) (ys : List UInt8) : Prop := (v = .slice none 0 0 ∧ ys = []) ∨
  ∃ b o c, v = .slice (some ⟨b, o, none⟩) ys.length c ∧ ys.length ≤ c ∧ c ≤ maxLen ∧ b < w.heap.size ∧ ∀ (j : Nat) (x : UInt8), ys[j]? = some x → w.cell? ⟨b, o + j, none⟩ = some (.int .u8 (x.toNat : Int))
/-- the block that is read -/
def Value.readBlock : Value → Option Nat
  | .slice (some a) _ _ => some a.block
  | _ => none
theorem RdB.step {w w' : World} {v : Value} {ys : List UInt8} (h : RdB w v ys) (hs : w.heap.size ≤ w'.heap.size) (hb : ∀ k, Value.readBlock v = some k → k < w.heap.size → w'.heap[k]? = w.heap[k]?) : RdB w' v ys := by
  rcases h with h | ⟨b, o, c, rfl, h1, h2, h3, h4⟩
  · exact .inl h
  · refine .inr ⟨b, o, c, rfl, h1, h2, Nat.lt_of_lt_of_le h3 hs, fun j x hj => ?_⟩
    rw [← h4 j x hj]
    exact World.cell?_of_block (w := w) (a := ⟨b, o + j, none⟩) (hb b rfl h3)
theorem RdB.below {w w' : World} {v : Value} {ys : List UInt8} (h : RdB w v ys) (hb : Below w.heap.size w w') : RdB w' v ys := h.step hb.size (fun k _ hk => hb.block k hk)
theorem RdB.lower {w w' : World} {B : Nat} {v : Value} {ys : List UInt8} (h : RdB w v ys) (hB : ∀ k, Value.readBlock v = some k → k < B) (hs : w.heap.size ≤ w'.heap.size) (hb : Below B w w') : RdB w' v ys := h.step hs (fun k hk _ => hb.block k (hB k hk))
theorem RdB.ext {w w' : World} {u u' v : Value} {ys : List UInt8} (h : RdB w v ys) (he : Ext w w' u u') (hne : ∀ k, Value.readBlock v = some k → some k ≠ u.ownBlock) : RdB w' v ys := h.step he.size (fun k hk hl => he.1.block k hl (hne k hk))
theorem Bytes.reads {base : Nat} {w : World} {v : Value} {xs : List UInt8} (h : Bytes base w v xs) : RdB w v xs := by
  rcases h.2 with ⟨rfl, h2⟩ | ⟨g, cap, cur, rfl, hb, hh, h3, h4, h5, h6⟩
  · exact .inl ⟨rfl, List.eq_nil_of_length_eq_zero h2⟩
  · refine .inr ⟨g, 0, cap, rfl, h3, h4, blk_lt hh, fun j x hj => ?_⟩
    have := World.ownsRow.cells h (g := g) rfl j (.int .u8 (x.toNat : Int)) (by simp [Lib.byteCells, hj])
    rwa [addr_add] at this
theorem cell_get (ys : List UInt8) (j : Nat) (u : Value) (h : (Lib.byteCells ys)[j]? = some u) : ∃ x, ys[j]? = some x ∧ u = .int .u8 (x.toNat : Int) := by
  simp only [Lib.byteCells, List.getElem?_map, Option.map_eq_some_iff] at h
  obtain ⟨x, hx, rfl⟩ := h
  exact ⟨x, hx, rfl⟩
/-- 'append(s, y...)' -/
theorem wpList_append_bytes {ops : Array Oper} {rest : List Oper} {o : Oper} {a : Act} {w : World} {Q : Exit → Act → World → Prop} (hgd : o.guard = none) (s x : Operand)
    (ho : o.op = .call { callee := .builtin .append, args := #[s, x], argTypes := #[43, 43] })
    (base : Nat) (v y : Value) (xs ys : List UInt8) (hs : a.eval s = v) (hown : Bytes base w v xs) (hx : a.eval x = y) (hr : RdB w y ys)
    (hl : xs.length + ys.length ≤ 140737488355328) (hb : base ≤ w.heap.size)
    (h : ∀ v' w', Bytes base w' v' (xs ++ ys) → Ext w w' v v' → wpList Tryd.prog ops Q rest (a.put o.dst v') w') : wpList Tryd.prog ops Q (o :: rest) a w := by
  obtain ⟨i0, hi, hz0, hz1, hz2⟩ := info_parts infoB
  rcases hr with ⟨rfl, rfl⟩ | ⟨b, o', c, rfl, h1, h2, h3, h4⟩
  · exact wpList_append_own_none hgd s x 43 ho base 5 i0 1 Tryd.underlying43 hi v xs.length _ hs hown hx (h v w (by simpa using hown) (Ext.refl _ _))
  · refine wpList_append_own_at _ hgd s x 43 ho base 5 i0 (.int .u8 0) 1 1 Tryd.underlying43 hi hz0 hz1 hz2 rfl (by decide) v xs.length _ hs hown ⟨b, o', none⟩ ys.length c (Lib.byteCells ys) hx (by simp [Lib.byteCells]) ?_ (Lib.byteCells_one _) ?_ ?_ hb ?_
    · intro j u hj
      obtain ⟨z, hz, rfl⟩ := cell_get ys j u hj
      rw [addr_add]; exact h4 j z hz
    · simp only [maxLen]; omega
    · omega
    · intro v' w' g1 g2 _ g3
      exact h v' w' (by unfold Bytes; rw [Lib.byteCells_append, List.length_append]; exact g1) (Ext.of_at g2 g3)
set_option maxRecDepth 20000 in
set_option maxHeartbeats 1000000 in
theorem uint_any (v : Value) (xs : List UInt8) (n : Nat) (w : World) (base : Nat) (hn : n < 18446744073709551616) (hown : Bytes base w v xs) (hbase : base ≤ w.heap.size) (hlen : xs.length + 10 ≤ 140737488355328) :
    Calls Tryd.prog 42 #[v, .int .u64 n] w (RetBytes base w v (xs ++ uv n)) := by
  have hr := Lib.hid (rounds_uv n hn)
  have hl := uv_len10 hn
  have hp := uv_pos n
  have hbit := or_one_int n hn
  have hor : n ||| 1 < 18446744073709551616 := Nat.or_lt_two_pow (n := 64) hn (by decide)
  obtain ⟨b1, b2⟩ := bitLen_or_range n hn
  go_enter Tryd.func42, Tryd.ntmps42
  go_wp2_with fail
  refine (Tryd.bits_Len64 _ _ (by omega) (by omega)).mono ?_
  rintro e w' ⟨rfl, rfl⟩
  rw [Int.toNat_natCast]
  generalize Lib.bitLen (n ||| 1) = L at *
  clear hbit hor
  go_wp2_with fail
  go_loopw [0, 1, 10] (fun u a i wr => ∃ k m : Nat, u = u ∧ m < 18446744073709551616 ∧ a = .int .u64 m ∧ i = .int .i64 k ∧ (uv m).length + k = (uv n).length ∧ UintAt base n k m w' wr v u xs) (fun _ _ i _ => 10 - (intOf i).toNat)
  case atStart => exact ⟨0, n, rfl, hn, rfl, rfl, rfl, [], rfl, rfl, by simpa using hown, Ext.refl _ _⟩
  case round =>
    obtain ⟨k, m, _, hm, rfl, rfl, hlm, hat⟩ := hrel
    obtain ⟨pre, hpre, hk, hown', hkeep⟩ := hat
    have hsz := hkeep.size
    have HK := Lib.hid hk
    have hxl : (xs ++ pre).length ≤ xs.length + k := by rw [List.length_append, hk]; exact Nat.le_refl _
    have hk9 : k ≤ 9 := by have := uv_pos m; omega
    by_cases hk1 : k + 1 < (uv n).length
    · have hbig : ¬ m < 128 := fun h => by rw [uv_small h] at hlm; simp at hlm; omega
      have ht : (k : Int) < ((L : Int) - 1) / 7 := by have := hr.out; omega
      have hpre' : uv n = (pre ++ [UInt8.ofNat (m % 128 + 128)]) ++ uv (m / 128) := by rw [hpre, uv_big hbig]; simp
      have hlm' : (uv (m / 128)).length + (k + 1) = (uv n).length := by rw [uv_big hbig] at hlm; simp at hlm; omega
      have HP := Lib.hid hpre'; have HL := Lib.hid hlm'
      clear hpre hpre' hlm hlm' hr hk
      have ob := or128 m
      have hc0 := Lib.hid (blk_cell (alloc_at wr (.cells #[.int .u8 ((m % 128 + 128 : Nat) : Int)] 5)) 0)
      have mb : m % 128 + 128 < 256 := by omega
      clear hown
      go_wp2_with (at_builtin; refine wpList_append_byte rfl _ _ rfl base u0 (xs ++ pre) (m % 128 + 128) wr.heap.size rfl (hown'.alloc _) rfl hc0.out mb (by omega) (by simp; omega) ?_; intro v' w1 hown1 hk2)
      go_roundw
      case rel => exact ⟨k + 1, m / 128, trivial, by omega, by go_num, by go_num, HL.out, pre ++ [UInt8.ofNat (m % 128 + 128)], HP.out, by simp [HK.out], by simpa using hown1, (hkeep.alloc _).trans hk2⟩
      case measure => simp [intOf]; omega
    · have hsm : m < 128 := by
        apply Nat.lt_of_not_le
        intro h
        rw [uv_big (by omega)] at hlm
        have := uv_pos (m / 128)
        simp at hlm; omega
      have ht : ¬ (k : Int) < ((L : Int) - 1) / 7 := by have := hr.out; omega
      have hpre' : xs ++ uv n = (xs ++ pre) ++ [UInt8.ofNat m] := by rw [hpre, uv_small hsm]; simp
      have HP := Lib.hid hpre'
      clear hpre hpre' hlm hr hk
      have hc0 := Lib.hid (blk_cell (alloc_at wr (.cells #[.int .u8 (m : Int)] 5)) 0)
      have mb : m < 256 := by omega
      clear hown
      go_wp2_with (at_builtin; refine wpList_append_byte rfl _ _ rfl base u0 (xs ++ pre) m wr.heap.size rfl (hown'.alloc _) rfl hc0.out mb (by omega) (by simp; omega) ?_; intro v' w1 hown1 hk2)
      go_ret
      exact ⟨v', rfl, by rw [HP.out]; exact hown1, (hkeep.alloc _).trans hk2⟩
end Go.Proofs.YthehpafkaefohaaDoor
namespace Go.Proofs.YthehpafkaefohaaDoor
open Go.RowKit
theorem uint_int (v : Value) (xs : List UInt8) (n : Int) (w : World) (base : Nat) (h0 : 0 ≤ n) (hn : n < 18446744073709551616) (hown : Bytes base w v xs) (hbase : base ≤ w.heap.size) (hlen : xs.length + 10 ≤ 140737488355328) :
    Calls Tryd.prog 42 #[v, .int .u64 n] w (RetBytes base w v (xs ++ uv n.toNat)) := by
  obtain ⟨k, rfl⟩ := Int.eq_ofNat_of_zero_le h0
  rw [Int.toNat_natCast]
  exact uint_any v xs k w base (by omega) hown hbase hlen
theorem blob_any (v y : Value) (xs ys : List UInt8) (w : World) (base : Nat) (hown : Bytes base w v xs) (hr : RdB w y ys) (hne : ∀ k, Value.readBlock y = some k → some k ≠ v.ownBlock) (hbase : base ≤ w.heap.size) (hlen : xs.length + ys.length + 10 ≤ 140737488355328) :
    Calls Tryd.prog 43 #[v, y] w (RetBytes base w v (xs ++ blobB ys)) := by
  obtain ⟨A, n, c, hy, hn⟩ : ∃ A n c, y = .slice A n c ∧ n = ys.length := by
    rcases hr with ⟨rfl, rfl⟩ | ⟨b, o, c, rfl, _⟩
    · exact ⟨_, _, _, rfl, rfl⟩
    · exact ⟨_, _, _, rfl, rfl⟩
  subst hy
  have hn' := Lib.hid hn
  have hn1 : n ≤ 140737488355328 := by omega
  clear hn
  go_enter Tryd.func43, Tryd.ntmps43
  go_wp2_with fail
  refine (uint_int _ xs _ _ base (by omega) (by omega) hown hbase (by omega)).mono ?_
  rintro e w1 ⟨v1, rfl, h2, h3⟩
  have hl := uv_len10 (n := n) (by omega)
  have hr1 := hr.ext h3 hne
  have hs1 := h3.size
  have hz : (xs ++ uv ((n : Int)).toNat).length ≤ xs.length + 10 := by rw [List.length_append, Int.toNat_natCast]; omega
  go_wp2_with (at_builtin; refine wpList_append_bytes rfl _ _ rfl base v1 _ _ ys rfl h2 rfl hr1 (by omega) (by omega) ?_; intro v' w' hown1 hk2)
  go_ret
  exact ⟨v', rfl, by rw [Int.toNat_natCast, hn'.out, List.append_assoc] at hown1; exact hown1, h3.trans hk2⟩
end Go.Proofs.YthehpafkaefohaaDoor
namespace Go.Proofs.YthehpafkaefohaaDoor
open Go.RowKit
theorem andNot_fin : ∀ y : Fin 256, bits .andNot .u8 ((y.val : Nat) : Int) 128 = ((y.val % 128 : Nat) : Int) := by decide +kernel
theorem andNot128 (x : UInt8) : bits .andNot .u8 (x.toNat : Int) 128 = ((x.toNat % 128 : Nat) : Int) := andNot_fin ⟨x.toNat, x.toNat_lt⟩
/-- what GetUint answers: the number, the place behind it, the error -/
def getU (ys : List UInt8) (at_ : Int) : Nat × Int × Int :=
  if at_ < 0 ∨ (ys.length : Int) < at_ then (0, 0, 2) else ((gU (ys.drop at_.toNat) 0 0).1, (if (gU (ys.drop at_.toNat) 0 0).2.2 = 0 then at_ + (gU (ys.drop at_.toNat) 0 0).2.1 else 0), (gU (ys.drop at_.toNat) 0 0).2.2)
theorem or_nat (acc y j : Nat) (h : acc < 2 ^ j) : acc ||| y * 2 ^ j = acc + y * 2 ^ j := by
  have := Nat.two_pow_add_eq_or_of_lt h y
  rw [Nat.or_comm, Nat.mul_comm y, ← this, Nat.add_comm]
theorem pow128 (k : Nat) : (128 : Nat) ^ k = 2 ^ (7 * k) := by rw [Nat.pow_mul]
theorem or_shift (acc y k : Nat) (h : acc < 128 ^ k) (hy : acc + y * 128 ^ k < 18446744073709551616) : bits .or .u64 (acc : Int) (IntKind.u64.wrap ((y : Int) * 2 ^ (7 * k))) = ((acc + y * 128 ^ k : Nat) : Int) := by
  rw [pow128] at h hy ⊢
  have e : ((y : Int) * 2 ^ (7 * k)) = ((y * 2 ^ (7 * k) : Nat) : Int) := by push_cast; rfl
  have e2 : IntKind.u64.wrap ((y * 2 ^ (7 * k) : Nat) : Int) = ((y * 2 ^ (7 * k) : Nat) : Int) := by rw [IntKind.wrap_u64]; omega
  rw [e, e2, bits_or_u64_nat _ _ (by omega) (by omega), or_nat _ _ _ h]
theorem or_shift_mod (acc x k : Nat) (h : acc < 128 ^ k) (hy : acc + x % 128 * 128 ^ k < 18446744073709551616) : bits .or .u64 (acc : Int) (IntKind.u64.wrap ((x : Int) % 128 * 2 ^ (7 * k))) = ((acc + x % 128 * 128 ^ k : Nat) : Int) := by
  rw [← or_shift acc (x % 128) k h hy]
  rw [show ((x % 128 : Nat) : Int) = (x : Int) % 128 by omega]
theorem or_ninth_mod (acc x : Nat) (h : acc < 128 ^ 9) (hx : x ≤ 1) : bits .or .u64 (acc : Int) ((x : Int) % 128 * 9223372036854775808) = ((acc + x * 128 ^ 9 : Nat) : Int) := by
  have h9 : (128 : Nat) ^ 9 = 9223372036854775808 := by decide
  have := or_shift acc x 9 h (by rw [h9] at h ⊢; omega)
  rw [← this]
  congr 1
  rw [IntKind.wrap_u64]
  omega
theorem acc_next {acc y k : Nat} (h : acc < 128 ^ k) (hy : y < 128) : acc + y * 128 ^ k < 128 ^ (k + 1) := by
  have : (y + 1) * 128 ^ k ≤ 128 * 128 ^ k := Nat.mul_le_mul_right _ hy
  rw [Nat.pow_succ, Nat.mul_comm (128 ^ k)]
  rw [Nat.add_mul, Nat.one_mul] at this
  omega
theorem acc_fits {acc k : Nat} (h : acc < 128 ^ k) (hk : k ≤ 9) : acc < 18446744073709551616 := by
  have h1 : 128 ^ k ≤ 128 ^ 9 := Nat.pow_le_pow_right (by decide) hk
  have h9 : (128 : Nat) ^ 9 = 9223372036854775808 := by decide
  omega
theorem getU_of {ys : List UInt8} {a n c : Nat} {e : Int} (ha : a ≤ ys.length) (h : gU (ys.drop a) 0 0 = (n, c, e)) : getU ys a = (n, if e = 0 then (a : Int) + c else 0, e) := by
  unfold getU
  rw [if_neg (by omega), Int.toNat_natCast, h]
def GetPost (ys : List UInt8) (a : Int) (w : World) (e : Ending) (w' : World) : Prop :=
  e = .returned (.tuple #[.int .u64 (getU ys a).1, .int .i64 (getU ys a).2.1, .int .i64 (getU ys a).2.2]) ∧ w = w'
end Go.Proofs.YthehpafkaefohaaDoor
namespace Go.Proofs.YthehpafkaefohaaDoor
open Go.RowKit
theorem RdB.form {w : World} {v : Value} {ys : List UInt8} (h : RdB w v ys) : ∃ A c, v = .slice A ys.length c ∧ ys.length ≤ c ∧ c ≤ maxLen := by
  rcases h with ⟨rfl, rfl⟩ | ⟨b, o, c, rfl, h1, h2, _⟩
  · exact ⟨_, _, rfl, Nat.le_refl _, by simp [maxLen]⟩
  · exact ⟨_, _, rfl, h1, h2⟩
/-- what GetUint answers is in range -/
theorem getU_range (ys : List UInt8) (a : Int) (hl : ys.length ≤ 140737488355328) : (getU ys a).1 < 18446744073709551616 ∧ 0 ≤ (getU ys a).2.1 ∧ (getU ys a).2.1 ≤ ys.length := by
  unfold getU
  split
  · simp
  · rename_i h
    generalize hg : gU (ys.drop a.toNat) 0 0 = g
    obtain ⟨n, c, e⟩ := g
    simp only
    by_cases he : e = 0
    · subst he
      obtain ⟨h1, h2, h3⟩ := gU_zero_back hg
      have h4 := congrArg List.length h3
      rw [List.length_append, List.length_drop, List.length_drop, ← h2] at h4
      simp only [if_true]
      omega
    · obtain ⟨h1, h2, _⟩ := gU_err _ _ _ _ _ _ hg he
      subst h1
      rw [if_neg he]
      omega
/-- what GetInt answers -/
def getI (ys : List UInt8) (a : Int) : Int × Int × Int := (zig (getU ys a).1, (getU ys a).2)
def GetIPost (ys : List UInt8) (a : Int) (w : World) (e : Ending) (w' : World) : Prop :=
  e = .returned (.tuple #[.int .i64 (getI ys a).1, .int .i64 (getI ys a).2.1, .int .i64 (getI ys a).2.2]) ∧ w = w'
end Go.Proofs.YthehpafkaefohaaDoor
namespace Go.Proofs.YthehpafkaefohaaDoor
open Go.RowKit
/-- what GetBlob answers, by what GetUint answers -/
def gB (ys : List UInt8) (n : Nat) (m e most : Int) : List UInt8 × Int × Int :=
  if e ≠ 0 then ([], 0, e)
  else if most < 0 ∨ most < n then ([], 0, 3)
  else if (ys.length : Int) - m < n then ([], 0, 11)
  else ((ys.drop m.toNat).take n, m + n, 0)
def getB (ys : List UInt8) (a most : Int) : List UInt8 × Int × Int := gB ys (getU ys a).1 (getU ys a).2.1 (getU ys a).2.2 most
def GetBPost (ys : List UInt8) (a most : Int) (w : World) (e : Ending) (w' : World) : Prop :=
  ∃ v, e = .returned (.tuple #[v, .int .i64 (getB ys a most).2.1, .int .i64 (getB ys a most).2.2]) ∧ Bytes w.heap.size w' v (getB ys a most).1 ∧ Below w.heap.size w w'
theorem made_own {w w' : World} {g n : Nat} {ys : List UInt8} (hg : w'.heap[g]? = some (.cells (splice (List.replicate n (.int .u8 0)) 0 (Lib.byteCells ys)).toArray 5)) (hn : ys.length = n) (hm : n ≤ maxLen) (hb : w.heap.size ≤ g) :
    Bytes w.heap.size w' (.slice (some ⟨g, 0, none⟩) n n) ys := by
  subst hn
  have e : splice (List.replicate ys.length (.int .u8 0)) 0 (Lib.byteCells ys) = Lib.byteCells ys := by
    simp [splice, Lib.byteCells]
  rw [e] at hg
  refine ⟨by simp [Lib.byteCells], .inr ⟨g, ys.length, _, rfl, hb, hg, Nat.le_refl _, hm, by simp [Lib.byteCells], ?_⟩⟩
  simp [Lib.byteCells, List.take_of_length_le]
theorem made_cells (n : Nat) : madeCells (Value.int .u8 0).cells (n * 1) = (List.replicate n (Value.int .u8 0)).toArray := by
  rw [Nat.mul_one]
  apply Array.ext
  · simp [madeCells]
  · intro i h1 h2
    simp [madeCells, Value.cells, Nat.mod_one]
theorem infoB1 : (Tryd.prog.info? 5).map (·.size) = some 1 := by kernel_rfl
/-- the bytes that are copied are the source's -/
def SrcOk (w : World) (sp : Option Addr) (cs : List UInt8) : Prop :=
  0 < (Lib.byteCells cs).length → ∃ ad, sp = some ad ∧ ∀ j v, (Lib.byteCells cs)[j]? = some v → w.cell? (ad.add j) = some v
theorem SrcOk.use {w : World} {sp : Option Addr} {cs : List UInt8} (h : SrcOk w sp cs) (g : Addr) : 0 < (Lib.byteCells cs).length → some g = some g ∧ ∃ ad, sp = some ad ∧ ∀ j v, (Lib.byteCells cs)[j]? = some v → w.cell? (ad.add j) = some v :=
  fun h0 => ⟨rfl, h h0⟩
theorem w64 (n : Int) (h : -9223372036854775808 ≤ n ∧ n ≤ 9223372036854775807) : wrap64 n = n := by unfold wrap64; omega
end Go.Proofs.YthehpafkaefohaaDoor

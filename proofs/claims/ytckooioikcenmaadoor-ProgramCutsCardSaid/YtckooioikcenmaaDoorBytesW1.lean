/- Walks of bytes.Uint, Int and Blob: a number, and a text, behind bytes that the call owns. Conditions: sizes a machine can have. -/
import Derived.Test.YtckooioikcenmaaDoorProg
import Derived.Test.YtckooioikcenmaaDoorShelfB
import Derived.Test.YtckooioikcenmaaDoorBase
import Derived.Test.YtckooioikcenmaaDoorKeep
import Derived.Test.YtckooioikcenmaaDoorBytesPure
import Derived.OwnWalk
import Derived.Maps.AppendAt
import Derived.Laws.AppendOwnNone
import Derived.Lib.UnsafeStr
import Derived.Lib.BufferWrite
import Derived.KernelRfl
import Derived.Laws.BitsLemmas
import Derived.Laws.Bits64b
namespace Go.Proofs.YtckooioikcenmaaDoor
open Go.RowKit
theorem infoB : (Tryd.prog.info? 5).map (fun i => (i.zero, i.size, i.bytes)) = some (some (.int .u8 0), 1, 1) := by kernel_rfl
/-- v is bytes that the call owns, from block base on -/
def Bytes (base : Nat) (w : World) (v : Value) (xs : List UInt8) : Prop := w.ownsRow base 5 1 v xs.length (Lib.byteCells xs)
/-- the type of bytes -/
def isB (t : TypeId) : Bool := t == 5
/-- a call gives back bytes that it owns; nothing else that was there has turned -/
def RetBytes (base : Nat) (w : World) (v : Value) (xs : List UInt8) (e : Ending) (w' : World) : Prop := ∃ v', e = .returned v' ∧ Bytes base w' v' xs ∧ Ext w w' v v'
theorem rounds_small {m : Nat} (h : m < 128) : (Lib.bitLen (m ||| 1) - 1) / 7 = 0 := by
  have : ∀ m : Fin 128, (Lib.bitLen (m.val ||| 1) - 1) / 7 = 0 := by decide +kernel
  exact this ⟨m, h⟩
theorem or_one_half (q : Nat) : (q ||| 1) / 2 = q / 2 := by
  apply Nat.eq_of_testBit_eq
  intro i
  simp only [Nat.testBit_div_two, Nat.testBit_or]
  simp [Nat.testBit_succ]
theorem bitLen_or (q : Nat) (h0 : q ≠ 0) (h : q < 2 ^ 64) : Lib.bitLen (q ||| 1) = Lib.bitLen q := by
  have h1 : q ||| 1 < 2 ^ 64 := Nat.or_lt_two_pow h (by decide)
  have h2 : q ||| 1 ≠ 0 := by
    intro e
    have := Nat.left_le_or (n := q) (m := 1)
    omega
  rw [Lib.bitLen_half _ h2 h1, Lib.bitLen_half _ h0 h, or_one_half]
theorem rounds_uv : ∀ m : Nat, m < 18446744073709551616 → (Lib.bitLen (m ||| 1) - 1) / 7 = (uv m).length - 1 := by
  intro m
  induction m using Nat.strongRecOn with
  | _ m ih =>
    intro h
    by_cases h1 : m < 128
    · rw [rounds_small h1, uv_small h1]; rfl
    · have hm : m ≠ 0 := by omega
      have h64 : m < 2 ^ 64 := h
      rw [bitLen_or m hm h64, Lib.bitLen_shift 7 m (by omega) h64, uv_big h1]
      have e := ih (m / 128) (by omega) (by omega)
      rw [bitLen_or (m / 128) (by omega) (by omega)] at e
      have hp := uv_pos (m / 128)
      have hb : 1 ≤ Lib.bitLen (m / 128) := by rw [Lib.bitLen_half _ (by omega) (by omega)]; omega
      show (7 + Lib.bitLen (m / 128) - 1) / 7 = _
      simp only [List.length_cons]
      omega
theorem or128_fin : ∀ y : Fin 256, bits .or .u8 128 ((y.val : Nat) : Int) = 128 + ((y.val % 128 : Nat) : Int) := by decide +kernel
theorem or128 (m : Nat) : bits .or .u8 128 ((m : Int) % 256) = ((m % 128 + 128 : Nat) : Int) := by
  have h := or128_fin ⟨m % 256, Nat.mod_lt _ (by decide)⟩
  simp only at h
  rw [show ((m : Int) % 256) = ((m % 256 : Nat) : Int) by omega, h, show m % 256 % 128 = m % 128 by omega]
  omega
theorem or_one_int (n : Nat) (h : n < 18446744073709551616) : bits .or .u64 (n : Int) 1 = ((n ||| 1 : Nat) : Int) := bits_or_u64_nat n 1 h (by decide)
theorem cell_byte (m : Nat) (h : m < 256) : Value.int .u8 ((UInt8.ofNat m).toNat : Int) = .int .u8 (m : Int) := by
  have : (UInt8.ofNat m).toNat = m := by simp; omega
  rw [this]
theorem bitLen_or_range (n : Nat) (h : n < 18446744073709551616) : 1 ≤ Lib.bitLen (n ||| 1) ∧ Lib.bitLen (n ||| 1) ≤ 64 := by
  have h1 : n ||| 1 < 2 ^ 64 := Nat.or_lt_two_pow h (by decide)
  have h2 : n ||| 1 ≠ 0 := by
    intro e
    have := Nat.right_le_or (n := n) (m := 1)
    omega
  refine ⟨by rw [Lib.bitLen_half _ h2 h1]; omega, Lib.bitLen_le _ 64 (by decide) h1⟩
theorem bytes_snoc (xs : List UInt8) (m : Nat) (h : m < 256) : Lib.byteCells xs ++ [.int .u8 (m : Int)] = Lib.byteCells (xs ++ [UInt8.ofNat m]) := by
  rw [Lib.byteCells_append, ← cell_byte m h]; rfl
theorem bytes_own {base : Nat} {w : World} {v : Value} {xs : List UInt8} {m : Nat} (hm : m < 256) (h : w.ownsRow base 5 1 v (xs.length + 1) (Lib.byteCells xs ++ [.int .u8 (m : Int)])) : Bytes base w v (xs ++ [UInt8.ofNat m]) := by
  unfold Bytes
  rw [← bytes_snoc xs m hm, List.length_append]; exact h
theorem ret_int {k : IntKind} {a b : Int} (h : a = b) : Ending.returned (.int k a) = .returned (.int k b) := by rw [h]
/-- the state of Uint's loop after k rounds: m is left to be written -/
def UintAt (base n k m : Nat) (w wr : World) (v v' : Value) (xs : List UInt8) : Prop := ∃ pre, uv n = pre ++ uv m ∧ pre.length = k ∧ Bytes base wr v' (xs ++ pre) ∧ Ext w wr v v'
theorem Bytes.alloc {base : Nat} {w : World} {v : Value} {xs : List UInt8} (h : Bytes base w v xs) (o : Obj) : Bytes base (w.alloc o) v xs := World.ownsRow.alloc h o
theorem Bytes.nil (base : Nat) (w : World) : Bytes base w (.slice none 0 0) [] := World.ownsRow_nil _ _ _ _
theorem Bytes.below {base : Nat} {w w' : World} {v : Value} {xs : List UInt8} (h : Bytes base w v xs) (hb : Below w.heap.size w w') : Bytes base w' v xs := own_below hb h
/-- 'append(s, x)' of one byte that has just been laid in a block of its own -/
theorem wpList_append_byte {ops : Array Oper} {rest : List Oper} {o : Oper} {a : Act} {w : World} {Q : Exit → Act → World → Prop} (hgd : o.guard = none) (s x : Operand)
    (ho : o.op = .call { callee := .builtin .append, args := #[s, x], argTypes := #[35, 35] })
    (base : Nat) (v : Value) (xs : List UInt8) (m g : Nat) (hs : a.eval s = v) (hown : Bytes base w v xs) (hx : a.eval x = .slice (some ⟨g, 0, none⟩) 1 1) (hc : w.cell? ⟨g, 0, none⟩ = some (.int .u8 (m : Int))) (hm : m < 256)
    (hl : xs.length + 1 ≤ 140737488355328) (hb : base ≤ w.heap.size)
    (h : ∀ v' w', Bytes base w' v' (xs ++ [UInt8.ofNat m]) → Ext w w' v v' → wpList Tryd.prog ops Q rest (a.put o.dst v') w') : wpList Tryd.prog ops Q (o :: rest) a w := by
  obtain ⟨i0, hi, hz0, hz1, hz2⟩ := info_parts infoB
  refine wpList_append_own_at _ hgd s x 35 ho base 5 i0 (.int .u8 0) 1 1 Tryd.underlying35 hi hz0 hz1 hz2 rfl (by decide) v xs.length _ hs hown ⟨g, 0, none⟩ 1 1 [.int .u8 (m : Int)] hx rfl ?_ ?_ ?_ ?_ hb ?_
  · intro j u hj
    match j, hj with
    | 0, hj => simp at hj; subst hj; exact hc
    | j + 1, hj => simp at hj
  · intro u hu; simp at hu; subst hu; rfl
  · simp only [maxLen]; omega
  · omega
  · intro v' w' h1 h2 _ h3
    exact h v' w' (bytes_own hm h1) (Ext.of_at h2 h3)
theorem addr_add (b o j : Nat) : (⟨b, o, none⟩ : Addr).add j = ⟨b, o + j, none⟩ := by unfold Addr.add; split <;> simp_all
/-- bytes that a slice reads as -/
def RdB (w : World) (v : Value) (ys : List UInt8) : Prop := (v = .slice none 0 0 ∧ ys = []) ∨
  ∃ b o c, v = .slice (some ⟨b, o, none⟩) ys.length c ∧ ys.length ≤ c ∧ c ≤ maxLen ∧ b < w.heap.size ∧ ∀ (j : Nat) (x : UInt8), ys[j]? = some x → w.cell? ⟨b, o + j, none⟩ = some (.int .u8 (x.toNat : Int))
/-- the block that is read -/
def Value.readBlock : Value → Option Nat
  | .slice (some a) _ _ => some a.block
  | _ => none
theorem RdB.step {w w' : World} {v : Value} {ys : List UInt8} (h : RdB w v ys) (hs : w.heap.size ≤ w'.heap.size) (hb : ∀ k, Value.readBlock v = some k → k < w.heap.size → w'.heap[k]? = w.heap[k]?) : RdB w' v ys := by
  rcases h with h | ⟨b, o, c, rfl, h1, h2, h3, h4⟩
  · exact .inl h
  · refine .inr ⟨b, o, c, rfl, h1, h2, Nat.lt_of_lt_of_le h3 hs, fun j x hj => ?_⟩
    rw [← h4 j x hj]
    exact World.cell?_of_block (w := w) (a := ⟨b, o + j, none⟩) (hb b rfl h3)
theorem RdB.below {w w' : World} {v : Value} {ys : List UInt8} (h : RdB w v ys) (hb : Below w.heap.size w w') : RdB w' v ys := h.step hb.size (fun k _ hk => hb.block k hk)
theorem RdB.lower {w w' : World} {B : Nat} {v : Value} {ys : List UInt8} (h : RdB w v ys) (hB : ∀ k, Value.readBlock v = some k → k < B) (hs : w.heap.size ≤ w'.heap.size) (hb : Below B w w') : RdB w' v ys := h.step hs (fun k hk _ => hb.block k (hB k hk))
theorem RdB.ext {w w' : World} {u u' v : Value} {ys : List UInt8} (h : RdB w v ys) (he : Ext w w' u u') (hne : ∀ k, Value.readBlock v = some k → some k ≠ u.ownBlock) : RdB w' v ys := h.step he.size (fun k hk hl => he.1.block k hl (hne k hk))
theorem Bytes.reads {base : Nat} {w : World} {v : Value} {xs : List UInt8} (h : Bytes base w v xs) : RdB w v xs := by
  rcases h.2 with ⟨rfl, h2⟩ | ⟨g, cap, cur, rfl, hb, hh, h3, h4, h5, h6⟩
  · exact .inl ⟨rfl, List.eq_nil_of_length_eq_zero h2⟩
  · refine .inr ⟨g, 0, cap, rfl, h3, h4, blk_lt hh, fun j x hj => ?_⟩
    have := World.ownsRow.cells h (g := g) rfl j (.int .u8 (x.toNat : Int)) (by simp [Lib.byteCells, hj])
    rwa [addr_add] at this
theorem cell_get (ys : List UInt8) (j : Nat) (u : Value) (h : (Lib.byteCells ys)[j]? = some u) : ∃ x, ys[j]? = some x ∧ u = .int .u8 (x.toNat : Int) := by
  simp only [Lib.byteCells, List.getElem?_map, Option.map_eq_some_iff] at h
  obtain ⟨x, hx, rfl⟩ := h
  exact ⟨x, hx, rfl⟩
/-- 'append(s, y...)' -/
theorem wpList_append_bytes {ops : Array Oper} {rest : List Oper} {o : Oper} {a : Act} {w : World} {Q : Exit → Act → World → Prop} (hgd : o.guard = none) (s x : Operand)
    (ho : o.op = .call { callee := .builtin .append, args := #[s, x], argTypes := #[35, 35] })
    (base : Nat) (v y : Value) (xs ys : List UInt8) (hs : a.eval s = v) (hown : Bytes base w v xs) (hx : a.eval x = y) (hr : RdB w y ys)
    (hl : xs.length + ys.length ≤ 140737488355328) (hb : base ≤ w.heap.size)
    (h : ∀ v' w', Bytes base w' v' (xs ++ ys) → Ext w w' v v' → wpList Tryd.prog ops Q rest (a.put o.dst v') w') : wpList Tryd.prog ops Q (o :: rest) a w := by
  obtain ⟨i0, hi, hz0, hz1, hz2⟩ := info_parts infoB
  rcases hr with ⟨rfl, rfl⟩ | ⟨b, o', c, rfl, h1, h2, h3, h4⟩
  · exact wpList_append_own_none hgd s x 35 ho base 5 i0 1 Tryd.underlying35 hi v xs.length _ hs hown hx (h v w (by simpa using hown) (Ext.refl _ _))
  · refine wpList_append_own_at _ hgd s x 35 ho base 5 i0 (.int .u8 0) 1 1 Tryd.underlying35 hi hz0 hz1 hz2 rfl (by decide) v xs.length _ hs hown ⟨b, o', none⟩ ys.length c (Lib.byteCells ys) hx (by simp [Lib.byteCells]) ?_ (Lib.byteCells_one _) ?_ ?_ hb ?_
    · intro j u hj
      obtain ⟨z, hz, rfl⟩ := cell_get ys j u hj
      rw [addr_add]; exact h4 j z hz
    · simp only [maxLen]; omega
    · omega
    · intro v' w' g1 g2 _ g3
      exact h v' w' (by unfold Bytes; rw [Lib.byteCells_append, List.length_append]; exact g1) (Ext.of_at g2 g3)
set_option maxRecDepth 20000 in
set_option maxHeartbeats 1000000 in
theorem uint_any (v : Value) (xs : List UInt8) (n : Nat) (w : World) (base : Nat) (hn : n < 18446744073709551616) (hown : Bytes base w v xs) (hbase : base ≤ w.heap.size) (hlen : xs.length + 10 ≤ 140737488355328) :
    Calls Tryd.prog 30 #[v, .int .u64 n] w (RetBytes base w v (xs ++ uv n)) := by
  have hr := Lib.hid (rounds_uv n hn)
  have hl := uv_len10 hn
  have hp := uv_pos n
  have hbit := or_one_int n hn
  have hor : n ||| 1 < 18446744073709551616 := Nat.or_lt_two_pow (n := 64) hn (by decide)
  obtain ⟨b1, b2⟩ := bitLen_or_range n hn
  go_enter Tryd.func30, Tryd.ntmps30
  go_wp2_with fail
  refine (Tryd.bits_Len64 _ _ (by omega) (by omega)).mono ?_
  rintro e w' ⟨rfl, rfl⟩
  rw [Int.toNat_natCast]
  generalize Lib.bitLen (n ||| 1) = L at *
  clear hbit hor
  go_wp2_with fail
  go_loopw [0, 1, 10] (fun u a i wr => ∃ k m : Nat, u = u ∧ m < 18446744073709551616 ∧ a = .int .u64 m ∧ i = .int .i64 k ∧ (uv m).length + k = (uv n).length ∧ UintAt base n k m w' wr v u xs) (fun _ _ i _ => 10 - (intOf i).toNat)
  case atStart => exact ⟨0, n, rfl, hn, rfl, rfl, rfl, [], rfl, rfl, by simpa using hown, Ext.refl _ _⟩
  case round =>
    obtain ⟨k, m, _, hm, rfl, rfl, hlm, hat⟩ := hrel
    obtain ⟨pre, hpre, hk, hown', hkeep⟩ := hat
    have hsz := hkeep.size
    have HK := Lib.hid hk
    have hxl : (xs ++ pre).length ≤ xs.length + k := by rw [List.length_append, hk]; exact Nat.le_refl _
    have hk9 : k ≤ 9 := by have := uv_pos m; omega
    by_cases hk1 : k + 1 < (uv n).length
    · have hbig : ¬ m < 128 := fun h => by rw [uv_small h] at hlm; simp at hlm; omega
      have ht : (k : Int) < ((L : Int) - 1) / 7 := by have := hr.out; omega
      have hpre' : uv n = (pre ++ [UInt8.ofNat (m % 128 + 128)]) ++ uv (m / 128) := by rw [hpre, uv_big hbig]; simp
      have hlm' : (uv (m / 128)).length + (k + 1) = (uv n).length := by rw [uv_big hbig] at hlm; simp at hlm; omega
      have HP := Lib.hid hpre'; have HL := Lib.hid hlm'
      clear hpre hpre' hlm hlm' hr hk
      have ob := or128 m
      have hc0 := Lib.hid (blk_cell (alloc_at wr (.cells #[.int .u8 ((m % 128 + 128 : Nat) : Int)] 5)) 0)
      have mb : m % 128 + 128 < 256 := by omega
      clear hown
      go_wp2_with (at_builtin; refine wpList_append_byte rfl _ _ rfl base u0 (xs ++ pre) (m % 128 + 128) wr.heap.size rfl (hown'.alloc _) rfl hc0.out mb (by omega) (by simp; omega) ?_; intro v' w1 hown1 hk2)
      go_roundw
      case rel => exact ⟨k + 1, m / 128, trivial, by omega, by go_num, by go_num, HL.out, pre ++ [UInt8.ofNat (m % 128 + 128)], HP.out, by simp [HK.out], by simpa using hown1, (hkeep.alloc _).trans hk2⟩
      case measure => simp [intOf]; omega
    · have hsm : m < 128 := by
        apply Nat.lt_of_not_le
        intro h
        rw [uv_big (by omega)] at hlm
        have := uv_pos (m / 128)
        simp at hlm; omega
      have ht : ¬ (k : Int) < ((L : Int) - 1) / 7 := by have := hr.out; omega
      have hpre' : xs ++ uv n = (xs ++ pre) ++ [UInt8.ofNat m] := by rw [hpre, uv_small hsm]; simp
      have HP := Lib.hid hpre'
      clear hpre hpre' hlm hr hk
      have hc0 := Lib.hid (blk_cell (alloc_at wr (.cells #[.int .u8 (m : Int)] 5)) 0)
      have mb : m < 256 := by omega
      clear hown
      go_wp2_with (at_builtin; refine wpList_append_byte rfl _ _ rfl base u0 (xs ++ pre) m wr.heap.size rfl (hown'.alloc _) rfl hc0.out mb (by omega) (by simp; omega) ?_; intro v' w1 hown1 hk2)
      go_ret
      exact ⟨v', rfl, by rw [HP.out]; exact hown1, (hkeep.alloc _).trans hk2⟩
end Go.Proofs.YtckooioikcenmaaDoor

/- Walks of bytes.Int and Blob. Conditions: sizes a machine can have. -/
import Derived.Test.YtckooioikcenmaaDoorBytesW1
namespace Go.Proofs.YtckooioikcenmaaDoor
open Go.RowKit
theorem uint_int (v : Value) (xs : List UInt8) (n : Int) (w : World) (base : Nat) (h0 : 0 ≤ n) (hn : n < 18446744073709551616) (hown : Bytes base w v xs) (hbase : base ≤ w.heap.size) (hlen : xs.length + 10 ≤ 140737488355328) :
    Calls Tryd.prog 30 #[v, .int .u64 n] w (RetBytes base w v (xs ++ uv n.toNat)) := by
  obtain ⟨k, rfl⟩ := Int.eq_ofNat_of_zero_le h0
  rw [Int.toNat_natCast]
  exact uint_any v xs k w base (by omega) hown hbase hlen
theorem int_any (v : Value) (xs : List UInt8) (z : Int) (w : World) (base : Nat) (h0 : -9223372036854775808 ≤ z) (h1 : z ≤ 9223372036854775807) (hown : Bytes base w v xs) (hbase : base ≤ w.heap.size) (hlen : xs.length + 10 ≤ 140737488355328) :
    Calls Tryd.prog 31 #[v, .int .i64 z] w (RetBytes base w v (xs ++ iv z)) := by
  by_cases hz : z < 0
  · have hd := Lib.hid (show iv z = uv (-(z + 1) * 2 + 1).toNat by unfold iv; rw [if_pos hz]; congr 1; omega)
    go_enter Tryd.func31, Tryd.ntmps31
    go_wp2_with fail
    refine (uint_int _ xs _ _ base (by omega) (by omega) hown hbase hlen).mono ?_
    rintro e w' ⟨v', rfl, h2, h3⟩
    go_wp2_with fail
    go_ret
    exact ⟨v', rfl, by rw [hd.out]; exact h2, h3⟩
  · have hd := Lib.hid (show iv z = uv (z * 2).toNat by unfold iv; rw [if_neg hz]; congr 1; omega)
    go_enter Tryd.func31, Tryd.ntmps31
    go_wp2_with fail
    refine (uint_int _ xs _ _ base (by omega) (by omega) hown hbase hlen).mono ?_
    rintro e w' ⟨v', rfl, h2, h3⟩
    go_wp2_with fail
    go_ret
    exact ⟨v', rfl, by rw [hd.out]; exact h2, h3⟩
theorem blob_any (v y : Value) (xs ys : List UInt8) (w : World) (base : Nat) (hown : Bytes base w v xs) (hr : RdB w y ys) (hne : ∀ k, Value.readBlock y = some k → some k ≠ v.ownBlock) (hbase : base ≤ w.heap.size) (hlen : xs.length + ys.length + 10 ≤ 140737488355328) :
    Calls Tryd.prog 28 #[v, y] w (RetBytes base w v (xs ++ blobB ys)) := by
  obtain ⟨A, n, c, hy, hn⟩ : ∃ A n c, y = .slice A n c ∧ n = ys.length := by
    rcases hr with ⟨rfl, rfl⟩ | ⟨b, o, c, rfl, _⟩
    · exact ⟨_, _, _, rfl, rfl⟩
    · exact ⟨_, _, _, rfl, rfl⟩
  subst hy
  have hn' := Lib.hid hn
  have hn1 : n ≤ 140737488355328 := by omega
  clear hn
  go_enter Tryd.func28, Tryd.ntmps28
  go_wp2_with fail
  refine (uint_int _ xs _ _ base (by omega) (by omega) hown hbase (by omega)).mono ?_
  rintro e w1 ⟨v1, rfl, h2, h3⟩
  have hl := uv_len10 (n := n) (by omega)
  have hr1 := hr.ext h3 hne
  have hs1 := h3.size
  have hz : (xs ++ uv ((n : Int)).toNat).length ≤ xs.length + 10 := by rw [List.length_append, Int.toNat_natCast]; omega
  go_wp2_with (at_builtin; refine wpList_append_bytes rfl _ _ rfl base v1 _ _ ys rfl h2 rfl hr1 (by omega) (by omega) ?_; intro v' w' hown1 hk2)
  go_ret
  exact ⟨v', rfl, by rw [Int.toNat_natCast, hn'.out, List.append_assoc] at hown1; exact hown1, h3.trans hk2⟩
end Go.Proofs.YtckooioikcenmaaDoor

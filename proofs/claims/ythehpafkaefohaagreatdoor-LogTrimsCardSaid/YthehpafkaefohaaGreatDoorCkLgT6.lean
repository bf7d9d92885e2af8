/- The law LogTrims: parts of lists that are read; what is told behind a Trim. Conditions: none. -/
import Derived.Test.YthehpafkaefohaaGreatDoorCkLgT1
import Derived.Test.YthehpafkaefohaaGreatDoorCkM28
namespace Go.Proofs.YthehpafkaefohaaGreatDoor
open Go.RowKit
theorem TrI.told {b : Int} {k : Nat} {n : Int} {segs : List Sg} {dk : DkSt} {lg : LgSt} (h : TrI b k n segs dk lg) (h0 : 1 ≤ n) (h1 : n ≤ 1000000000) (hs : ∀ s ∈ segs, ∀ r ∈ s.2, smallB r) (ht : (flatS segs).length ≤ 1000) : Told n segs dk lg :=
  ⟨h.i.ok, h.i.lit, h.fi, fun s hs' => ⟨(h.i.seg s.1 (by rw [h.fi]; exact List.mem_map_of_mem hs')).2.2, h.byt s hs'⟩, h.ch, h0, h1, hs, ht, by have := segs_le h.ch; omega⟩
theorem flat_cut (segs : List Sg) (t : Nat) : flatS segs = flatS (segs.take t) ++ flatS (segs.drop t) := by
  unfold flatS
  rw [← List.flatMap_append, List.take_append_drop]
theorem numB_drop (a b : List Bt) (n : Int) : (numB n (a ++ b)).drop a.length = numB (n + a.length) b := by
  rw [numB_append, List.drop_left' (numB_len a n)]
theorem rdT_take {w : World} {A : Option Addr} {n c : Nat} {xs : List ByteArray} (h : RdT w (.slice A n c) xs) (k : Nat) (hk : k ≤ n) : RdT w (.slice A k c) (xs.take k) := by
  rcases h with ⟨h1, rfl⟩ | ⟨b, o, c', h1, h2, h3, h4⟩
  · injection h1 with h1 h2 h3
    subst h1; subst h2; subst h3
    obtain rfl : k = 0 := by omega
    exact .inl ⟨rfl, by simp⟩
  · injection h1 with h1 h5 h6
    subst h1; subst h5; subst h6
    exact .inr ⟨b, o, c, by rw [List.length_take, Nat.min_eq_left hk], by rw [List.length_take]; omega, h3, fun j s hj => by
      rw [List.getElem?_take] at hj
      split at hj
      · exact h4 j s hj
      · cases hj⟩
theorem rdT_drop {w : World} {b o n c : Nat} {xs : List ByteArray} (h : RdT w (.slice (some ⟨b, o, none⟩) n c) xs) (k : Nat) (hk : k ≤ n) : RdT w (.slice (some ⟨b, o + k, none⟩) (n - k) (c - k)) (xs.drop k) := by
  rcases h with ⟨h1, rfl⟩ | ⟨b', o', c', h1, h2, h3, h4⟩
  · cases h1
  · injection h1 with h1 h5 h6
    injection h1 with h1
    injection h1 with h1 h7
    subst h1; subst h5; subst h6; subst h7
    refine .inr ⟨b, o + k, c - k, by rw [List.length_drop], by rw [List.length_drop]; omega, by omega, fun j s hj => ?_⟩
    rw [List.getElem?_drop] at hj
    rw [Nat.add_assoc]
    exact h4 (k + j) s hj
theorem rdBt_drop {w : World} {b o n c : Nat} {xs : List (Int × List (List UInt8))} (h : RdBt w (.slice (some ⟨b, o, none⟩) n c) xs) (k : Nat) (hk : k ≤ n) : RdBt w (.slice (some ⟨b, o + k * 2, none⟩) (n - k) (c - k)) (xs.drop k) := by
  rcases h with ⟨h1, rfl⟩ | ⟨b', o', c', h1, h2, h3, h4⟩
  · cases h1
  · injection h1 with h1 h5 h6
    injection h1 with h1
    injection h1 with h1 h7
    subst h1; subst h5; subst h6; subst h7
    refine .inr ⟨b, o + k * 2, c - k, by rw [List.length_drop], by rw [List.length_drop]; omega, by omega, fun j s hj => ?_⟩
    rw [List.getElem?_drop] at hj
    have := h4 (k + j) s hj
    rw [show o + k * 2 + j * 2 = o + (k + j) * 2 by omega]
    exact this
end Go.Proofs.YthehpafkaefohaaGreatDoor

/- The fixed examples of LogNumbers as plain things. No program in sight. Conditions: none. -/
import Derived.Test.YthehpafkaefohaaGreatDoorCkM15
import Derived.Test.YthehpafkaefohaaGreatDoorCkM24
namespace Go.Proofs.YthehpafkaefohaaGreatDoor
def nD0 : DkSt := ⟨[], 100, -1, false⟩
def nL0 : LgSt := ⟨64, [], 4, 4, false⟩
def nR1 : List (List UInt8) := [[120]]
def nR2 : List (List UInt8) := [List.replicate 90 0]
def nW1 := lWrite nD0 nL0 nR1
def nW2 := lWrite nW1.1 nW1.2.1 nR2
theorem nw1 : nW1.2.2 = (5, 0) ∧ nW1.2.1.over = false ∧ nW1.2.1.last = 5 ∧ nW1.1.fuse = -1 ∧ nW1.2.1.firsts = [5] := by decide +kernel
theorem nw2 : nW2.2.2 = (0, 5) ∧ nW2.2.1.over = true ∧ nW2.2.1.last = 5 ∧ nW2.2.1.acked = 4 ∧ nW2.2.1.firsts = [5] ∧ nW2.1.fuse = -1 := by decide +kernel
theorem nE1 : batchE (nL0.last + 1) nR1 = 0 := by decide +kernel
theorem nE2 : batchE (nW1.2.1.last + 1) nR2 = 0 := by decide +kernel
theorem nOk0 : DkOk nD0 := ⟨List.Pairwise.nil, by simp [nD0], by simp [nD0, usedF], by simp [nD0], by simp [nD0], fun f hf => by simp [nD0] at hf⟩
theorem nOk1 : DkOk nW1.1 := (write_end nOk0 rfl nE1).1
theorem nOk2 : DkOk nW2.1 := (write_end nOk1 nw1.2.1 nE2).1
def w5N : ByteArray := ⟨#[119, 53]⟩
theorem nname : nameL 5 = w5N ∧ nameL 0 = ⟨#[]⟩ ∧ nameL (-1) = ⟨#[]⟩ ∧ nameL 1152921504606846977 = ⟨#[]⟩ ∧ nameL 1152921504606846976 = ⟨#[119, 49, 49, 53, 50, 57, 50, 49, 53, 48, 52, 54, 48, 54, 56, 52, 54, 57, 55, 54]⟩ := by decide +kernel
theorem nparse : parseB [] = none ∧ parseB [0, 1, 0] = none ∧ parseB [1, 0] = none ∧ parseB [1, 1] = none ∧ parseB [1, 1, 1] = none ∧ parseB [1, 1, 0, 0] = none ∧ parseB [129, 0, 1, 0] = none := by decide +kernel
theorem nhead : headOr 0 = [] ∧ headOr 1152921504606846977 = [] ∧ (headOr 1).length = 8 ∧ (headOr 1)[1]? = some 0 ∧ (headOr 1)[2]? = some 1 := by decide +kernel
theorem nfiles : lFiles nW2.2.1 = [w5N] := by unfold lFiles; rw [nw2.2.2.2.2.1]; simp only [List.map_cons, List.map_nil]; rw [nname.1]
theorem big_len (n : Nat) (_hn : n < 4000000) : (batchB 1 [List.replicate n 0]).length = 2 + (uv n).length + n := by
  have h1 : (uv 1).length = 1 := by decide +kernel
  unfold batchB
  rw [List.length_append, List.length_append, show [List.replicate n (0 : UInt8)].length = 1 from rfl, h1]
  simp [blobB]
  omega
theorem nbatch : batchE 1 [] = 2 ∧ batchE 0 [[97]] = 2 ∧ batchE 1 (List.replicate 1001 []) = 2 ∧ batchE 1 [List.replicate 1048572 0] = 3 ∧ batchE 1 [List.replicate 1048571 0] = 0 := by
  have h1 : (uv 1048572).length = 3 := by decide +kernel
  have h2 : (uv 1048571).length = 3 := by decide +kernel
  refine ⟨by decide +kernel, by decide +kernel, ?_, ?_, ?_⟩
  · unfold batchE
    rw [if_pos (by rw [List.length_replicate]; omega)]
  · unfold batchE
    rw [if_neg (by rw [List.length_singleton]; omega), show (1 : Int).toNat = 1 from rfl, big_len _ (by omega), h1, if_pos (by omega)]
  · unfold batchE
    rw [if_neg (by rw [List.length_singleton]; omega), show (1 : Int).toNat = 1 from rfl, big_len _ (by omega), h2, if_neg (by omega)]
end Go.Proofs.YthehpafkaefohaaGreatDoor

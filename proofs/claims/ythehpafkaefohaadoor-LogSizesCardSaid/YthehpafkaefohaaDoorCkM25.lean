/- The law LogForms walked: what it holds against one another. Conditions: the library's variables read as they are laid. -/
import Derived.Test.YthehpafkaefohaaDoorCkM24
import Derived.Test.YthehpafkaefohaaDoorCkLgH1
import Derived.Test.YthehpafkaefohaaDoorCkLgG8
namespace Go.Proofs.YthehpafkaefohaaDoor
open Go.RowKit
theorem firstL_name (n : Int) : firstL (nameL n) = if inL n then (n, true) else (0, false) := by
  by_cases h : inL n
  · rw [if_pos h]
    have hd := nameL_data h
    have hn : 1 ≤ n ∧ n ≤ 1152921504606846976 := h
    have hsz : (nameL n).size = (Lib.itoa n).length + 1 := by
      show (nameL n).data.size = _
      rw [← Array.length_toList, hd]; rfl
    have h1 : ((nameL n).extract 0 1).data.toList = [119] := by
      rw [ByteArray.data_extract, Array.toList_extract, hd]
      simp
    have h2 : ((nameL n).extract 1 (nameL n).size).data.toList = Lib.itoa n := by
      rw [ByteArray.data_extract, Array.toList_extract, hd, hsz]
      simp
    have hc : cutW (nameL n) = ((nameL n).extract 1 (nameL n).size, true) := by
      unfold cutW
      rw [if_pos ⟨by omega, by rw [ByteArray.toList_eq, h1]⟩]
    unfold firstL
    rw [hc]
    simp only
    rw [h2, atoi_itoa (by omega) (by omega)]
    simp
  · rw [if_neg h]
    have hn : nameL n = ⟨#[]⟩ := by unfold nameL; rw [if_neg h]
    have hc : cutW (nameL n) = (nameL n, false) := by
      unfold cutW
      rw [if_neg (fun h => by rw [hn] at h; simp [ByteArray.size] at h)]
    unfold firstL
    rw [hc]
    simp only
    split <;> simp
theorem smallV_iff (yss : List (List UInt8)) : smallV yss = true ↔ yss.length ≤ 20 ∧ ∀ y ∈ yss, y.length ≤ 60 := by
  unfold smallV
  simp
theorem batchE_zero {n : Int} {l : List (List UInt8)} (h : batchE n l = 0) : 1 ≤ n ∧ n ≤ 1152921504606846976 ∧ 1 ≤ l.length ∧ l.length ≤ 1000 := by
  unfold batchE at h
  split at h
  · simp at h
  · omega
/-- unlike batches have unlike bytes -/
theorem batch_same {n m : Int} {a b : List (List UInt8)} (ha : batchE n a = 0) (hb : batchE m b = 0) (sa : smallV a = true) (sb : smallV b = true) : decide ((batchB n.toNat a) = (batchB m.toNat b)) = decide ([(n, a)] = [(m, b)]) := by
  obtain ⟨a1, a2, a3, a4⟩ := batchE_zero ha
  obtain ⟨b1, b2, b3, b4⟩ := batchE_zero hb
  obtain ⟨_, s1⟩ := (smallV_iff a).1 sa
  obtain ⟨_, s2⟩ := (smallV_iff b).1 sb
  by_cases h : batchB n.toNat a = batchB m.toNat b
  · obtain ⟨h1, h2⟩ := batch_inj (by omega) (by omega) (by omega) (by omega) (fun x hx => by have := s1 x hx; omega) (fun x hx => by have := s2 x hx; omega) h
    subst h2
    have : n = m := by omega
    subst this
    simp
  · rw [decide_eq_false h]
    symm
    refine decide_eq_false fun e => h ?_
    injection e with e
    injection e with e1 e2
    rw [e1, e2]
theorem parse_bytes {ys : List UInt8} {n : Nat} {l : List (List UInt8)} (h : parseB ys = some (n, l)) : batchE n l = 0 ∧ batchB n l = ys := by
  obtain ⟨h1, h2, h3, h4, h5, h6⟩ := parse_back h
  refine ⟨?_, h1.symm⟩
  unfold batchE
  rw [if_neg (by omega), Int.toNat_natCast, ← h1, if_neg (by omega)]
theorem rec_le (n : Nat) : ∀ {l : List (List UInt8)} {y : List UInt8}, y ∈ l → y.length ≤ (batchB n l).length := by
  intro l y hy
  have h : y.length ≤ (l.flatMap blobB).length := by
    induction l with
    | nil => cases hy
    | cons a l ih =>
      rw [List.flatMap_cons, List.length_append]
      rcases List.mem_cons.1 hy with rfl | hy
      · unfold blobB
        simp only [List.length_append]
        omega
      · have := ih hy
        omega
  unfold batchB
  simp only [List.length_append]
  omega
/-- a row of one batch -/
theorem bt_one {w : World} {b : Nat} {n : Int} {v : Value} {l : List (List UInt8)} (h : w.heap[b]? = some (.cells #[.int .i64 n, v] 62)) (hr : RdL w v l) : RdBt w (.slice (some ⟨b, 0, none⟩) 1 1) [(n, l)] := by
  refine .inr ⟨b, 0, 1, rfl, Nat.le_refl _, by simp only [maxLen]; omega, fun j x hj => ?_⟩
  match j, hj with
  | 0, hj =>
    have e : (n, l) = x := by simpa using hj
    subst e
    refine ⟨v, ?_, ?_, hr⟩
    · rw [show (0 : Nat) + 0 * 2 = 0 from rfl, blk_cell h 0]; rfl
    · rw [show (0 : Nat) + 0 * 2 + 1 = 1 from rfl, blk_cell h 1]; rfl
theorem bytes_some {base : Nat} {w : World} {v : Value} {x : UInt8} {xs : List UInt8} (h : Bytes base w v (x :: xs)) : ∃ g c, v = .slice (some ⟨g, 0, none⟩) (xs.length + 1) c ∧ w.cell? ⟨g, 0, none⟩ = some (.int .u8 x.toNat) ∧ base ≤ g := by
  rcases h.2 with ⟨_, h2⟩ | ⟨g, cap, cur, rfl, hb, hh, h3, h4, h5, h6⟩
  · simp at h2
  · refine ⟨g, cap, rfl, ?_, hb⟩
    have := h.reads
    rcases this with ⟨h7, _⟩ | ⟨b, o, c, hv, _, _, _, hc⟩
    · cases h7
    · injection hv with hv
      injection hv with hv
      injection hv with h8 h9
      subst h8
      subst h9
      have := hc 0 x rfl
      simpa using this
end Go.Proofs.YthehpafkaefohaaDoor

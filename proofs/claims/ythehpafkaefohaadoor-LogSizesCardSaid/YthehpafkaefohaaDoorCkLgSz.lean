/- Two logs, one that syncs and one that does not: they go on alike. No program in sight. Conditions: none. -/
import Derived.Test.YthehpafkaefohaaDoorCkM15
namespace Go.Proofs.YthehpafkaefohaaDoor
structure LgPair (k : Nat) (d0 : DkSt) (l0 : LgSt) (d1 : DkSt) (l1 : LgSt) : Prop where
  a : LgI 0 k d0 l0
  b : LgI 0 k d1 l1
  st : strip d0.fs = strip d1.fs
  fi : l0.firsts = l1.firsts
  si : l0.size = l1.size
  la : l0.last = l1.last
theorem LgPair.write {k : Nat} {d0 d1 : DkSt} {l0 l1 : LgSt} (h : LgPair k d0 l0 d1 l1) (hk : k ≤ 60) {recs : List (List UInt8)} (hr : smallB recs) :
    LgPair (k + 1) (lWrite d0 l0 recs).1 (lWrite d0 l0 recs).2.1 (lWrite d1 l1 recs).1 (lWrite d1 l1 recs).2.1 ∧ (lWrite d0 l0 recs).2.2 = (l0.last + 1, 0) ∧ (lWrite d1 l1 recs).2.2 = (l0.last + 1, 0) ∧
    (lWrite d0 l0 recs).2.1.firsts = (if fullL d0 l0 = true then l0.firsts ++ [l0.last + 1] else l0.firsts) := by
  obtain ⟨a1, a2, a3, a4, a5, a6, _⟩ := write_ok h.a (Int.le_refl _) (by omega) hk hr
  obtain ⟨b1, b2, b3, b4, b5, b6, _⟩ := write_ok h.b (Int.le_refl _) (by omega) hk hr
  have hf := full_strip h.st h.fi h.si
  have hfl : fileL l0 = fileL l1 := by unfold fileL; rw [h.fi]
  refine ⟨⟨a1, b1, ?_, ?_, ?_, ?_⟩, a2, by rw [b2, h.la], a4⟩
  · rw [a6, b6, hf, h.st, h.la, hfl]
  · rw [a4, b4, hf, h.fi, h.la]
  · rw [a5, b5, h.si]
  · rw [a3, b3, h.la]
theorem LgPair.sync {k : Nat} {d0 d1 : DkSt} {l0 l1 : LgSt} (h : LgPair k d0 l0 d1 l1) : LgPair k d0 l0 (lSync d1 l1).1 (lSync d1 l1).2.1 ∧ (lSync d1 l1).2.2 = 0 := by
  obtain ⟨b1, b2, b3, b4⟩ := sync_ok h.b
  refine ⟨⟨h.a, b1, by rw [b4]; exact h.st, by rw [b3]; exact h.fi, by rw [b3]; exact h.si, by rw [b3]; exact h.la⟩, b2⟩
theorem LgPair.bytes {k : Nat} {d0 d1 : DkSt} {l0 l1 : LgSt} (h : LgPair k d0 l0 d1 l1) {n : Int} (hn : n ∈ l0.firsts) : hasN d0.fs (nameL n) = true ∧ hasN d1.fs (nameL n) = true ∧ (lookF d0.fs (nameL n)).bs = (lookF d1.fs (nameL n)).bs := by
  have h1 := (h.a.seg n hn).2.2
  obtain ⟨h2, h3⟩ := look_strip h.st (nameL n)
  exact ⟨h1, h3 ▸ h1, h2⟩
theorem pair_start (s : Int) : LgPair 0 ⟨[], 1048576, -1, false⟩ ⟨s, [], 0, 0, false⟩ ⟨[], 1048576, -1, false⟩ ⟨s, [], 0, 0, false⟩ := by
  have hI : LgI 0 0 ⟨[], 1048576, -1, false⟩ ⟨s, [], 0, 0, false⟩ := by
    refine ⟨⟨List.Pairwise.nil, by simp, by simp [usedF], by simp, by simp, fun f hf => by cases hf⟩, rfl, rfl, rfl, by simp, by simp [usedF], rfl, Int.le_refl _, by simp, fun n hn => (by simp at hn), by simp⟩
  exact ⟨hI, hI, rfl, rfl, rfl, rfl⟩
end Go.Proofs.YthehpafkaefohaaDoor

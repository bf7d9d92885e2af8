/- Trim as a plain thing: which segments go, what stays. No program in sight. Conditions: none. -/
import Derived.Test.YthehpafkaefohaaGreatDoorCkM27
namespace Go.Proofs.YthehpafkaefohaaGreatDoor
/-- how many segments go -/
def goneN (below : Int) : List Int → Nat
  | _ :: b :: r => if b ≤ below then goneN below (b :: r) + 1 else 0
  | _ => 0
theorem goneN_lt (below : Int) : ∀ l : List Int, goneN below l ≤ l.length - 1
  | [] => Nat.le_refl _
  | [_] => Nat.le_refl _
  | _ :: b :: r => by
    have := goneN_lt below (b :: r)
    unfold goneN
    split
    · simp at this ⊢; omega
    · omega
theorem goneN_more (below : Int) : ∀ (l : List Int), (∃ a b r, l = a :: b :: r ∧ b ≤ below ∧ goneN below l = goneN below (b :: r) + 1) ∨ (goneN below l = 0 ∧ (l.length ≤ 1 ∨ ∃ a b r, l = a :: b :: r ∧ below < b))
  | [] => .inr ⟨rfl, .inl (by simp)⟩
  | [_] => .inr ⟨rfl, .inl (by simp)⟩
  | a :: b :: r => by
    by_cases h : b ≤ below
    · exact .inl ⟨a, b, r, rfl, h, by rw [goneN, if_pos h]⟩
    · exact .inr ⟨by rw [goneN, if_neg h], .inr ⟨a, b, r, rfl, by omega⟩⟩
theorem goneN_end (below : Int) : ∀ (l : List Int), goneN below (l.drop (goneN below l)) = 0 ∧ (0 < goneN below l → ∃ b r, l.drop (goneN below l) = b :: r ∧ b ≤ below)
  | [] => ⟨rfl, fun h => absurd h (by simp [goneN])⟩
  | [_] => ⟨rfl, fun h => absurd h (by simp [goneN])⟩
  | a :: b :: r => by
    obtain ⟨h1, h2⟩ := goneN_end below (b :: r)
    rcases goneN_more below (a :: b :: r) with ⟨a', b', r', e, hb, hg⟩ | ⟨hg, _⟩
    · injection e with e1 e2
      injection e2 with e2 e3
      subst e1; subst e2; subst e3
      rw [hg, List.drop_succ_cons]
      refine ⟨h1, fun _ => ?_⟩
      rcases Nat.eq_zero_or_pos (goneN below (b :: r)) with h | h
      · rw [h]; exact ⟨b, r, rfl, hb⟩
      · exact h2 h
    · rw [hg]
      exact ⟨hg, fun h => absurd h (by omega)⟩
/-- t segments are gone -/
def rmT : Nat → DkSt → LgSt → DkSt × LgSt
  | 0, dk, lg => (dk, lg)
  | t + 1, dk, lg => ((dRemove (rmT t dk lg).1 (nameL ((rmT t dk lg).2.firsts.headD 0))).1, { (rmT t dk lg).2 with firsts := (rmT t dk lg).2.firsts.tail })
structure TrI (b : Int) (k : Nat) (n : Int) (segs : List Sg) (dk : DkSt) (lg : LgSt) : Prop where
  i : LgI b k dk lg
  fi : lg.firsts = segs.map Prod.fst
  byt : ∀ s ∈ segs, (lookF dk.fs (nameL s.1)).bs = segB s.1 s.2
  ch : chainS n segs
theorem LgH.tr {b : Int} {segs : List Sg} {all : List Bt} {dk : DkSt} {lg : LgSt} (h : LgH b segs all dk lg) : TrI b all.length (b + 1) segs dk lg := ⟨h.i, h.fi, h.byt, h.ch⟩
theorem usedF_erase (fs : List DF) (i : Nat) : usedF (fs.eraseIdx i) ≤ usedF fs := by
  unfold usedF
  induction fs generalizing i with
  | nil => simp
  | cons a fs ih =>
    cases i with
    | zero => simp
    | succ i =>
      have := ih i
      simp only [List.eraseIdx_cons_succ, List.map_cons, List.sum_cons] at this ⊢
      omega
theorem dRemove_lit {st : DkSt} (h1 : st.dark = false) (h2 : st.fuse = -1) {n : ByteArray} (hn : hasN st.fs n = true) : dRemove st n = ({ st with fs := st.fs.eraseIdx (plc st.fs n) }, 0) := by
  unfold dRemove
  rw [if_neg (by simp [h1]), if_neg (by simp [hn]), dDeed_lit h2]
theorem dRemove_ok {st : DkSt} (h : DkOk st) (n : ByteArray) : DkOk (dRemove st n).1 := by
  unfold dRemove
  split
  · exact h
  split
  · exact h
  · refine dDeed_ok h (erase_sorted h.sorted _) ?_ ?_ fun f hf => h.safe f (List.mem_of_mem_eraseIdx hf)
    · have := h.many
      have := List.length_eraseIdx_le st.fs (plc st.fs n)
      omega
    · have := usedF_erase st.fs (plc st.fs n)
      have := h.used
      omega
theorem TrI.rm {b : Int} {k : Nat} {n : Int} {s : Sg} {segs : List Sg} {dk : DkSt} {lg : LgSt} (h : TrI b k n (s :: segs) dk lg) (hb : 0 ≤ b) (hb2 : b ≤ 1000000000) (hk : k ≤ 60) :
    hasN dk.fs (nameL s.1) = true ∧ (dRemove dk (nameL s.1)).2 = 0 ∧ TrI b k (n + s.2.length) segs (dRemove dk (nameL s.1)).1 { lg with firsts := lg.firsts.tail } := by
  have hfi := h.fi
  rw [List.map_cons] at hfi
  have hi := h.i
  obtain ⟨hs1, hs2, hs3⟩ := hi.seg s.1 (by rw [hfi]; simp)
  have hin : ∀ m ∈ lg.firsts, inL m := fun m hm => by
    obtain ⟨h1, h2, _⟩ := hi.seg m hm
    exact inL_of hi hb hb2 (by omega) h1 (by omega)
  have hne : ∀ t ∈ segs, t.1 ≠ s.1 := fun t ht e => by
    have h1 := chainS_lt _ _ h.ch.2.2 t ht
    have h2 := h.ch.1
    have h3 := h.ch.2.1
    omega
  have hnm : ∀ t ∈ segs, nameL t.1 ≠ nameL s.1 := fun t ht e =>
    hne t ht (nameL_inj (hin _ (by rw [hfi]; exact List.mem_cons_of_mem _ (List.mem_map_of_mem ht))) (hin _ (by rw [hfi]; simp)) e)
  rw [dRemove_lit hi.lit hi.fuse hs3]
  have hok := dRemove_ok hi.ok (nameL s.1)
  rw [dRemove_lit hi.lit hi.fuse hs3] at hok
  have hsort := hi.ok.sorted
  refine ⟨hs3, rfl, ⟨hok, hi.lit, hi.fuse, hi.room, ?_, ?_, hi.over, hi.lo, hi.hi, fun m hm => ?_, ?_⟩, ?_, fun t ht => ?_, h.ch.2.2⟩
  · have := hi.few
    have := List.length_eraseIdx_le dk.fs (plc dk.fs (nameL s.1))
    show (dk.fs.eraseIdx _).length ≤ k
    omega
  · have := hi.used
    have := usedF_erase dk.fs (plc dk.fs (nameL s.1))
    show usedF (dk.fs.eraseIdx _) ≤ _
    omega
  · have hm : m ∈ lg.firsts.tail := hm
    obtain ⟨h1, h2, h3⟩ := hi.seg m (List.mem_of_mem_tail hm)
    refine ⟨h1, h2, ?_⟩
    show hasN (dk.fs.eraseIdx _) _ = true
    rw [has_erase hsort hs3, h3]
    rw [hfi, List.tail_cons] at hm
    obtain ⟨t, ht, e⟩ := List.mem_map.1 hm
    subst e
    simp [hnm t ht]
  · have := hi.nfew
    show lg.firsts.tail.length ≤ k
    rw [List.length_tail]
    omega
  · show lg.firsts.tail = _
    rw [hfi, List.tail_cons]
  · show (lookF (dk.fs.eraseIdx _) _).bs = _
    rw [look_erase hsort hs3 (hnm t ht)]
    exact h.byt t (List.mem_cons_of_mem _ ht)
theorem rmT_facts (t : Nat) (dk : DkSt) (lg : LgSt) : (rmT t dk lg).2.firsts = lg.firsts.drop t ∧ (rmT t dk lg).2.last = lg.last ∧ (rmT t dk lg).2.over = lg.over ∧ (rmT t dk lg).2.size = lg.size ∧ (rmT t dk lg).2.acked = lg.acked := by
  induction t with
  | zero => exact ⟨rfl, rfl, rfl, rfl, rfl⟩
  | succ t ih =>
    obtain ⟨h1, h2⟩ := ih
    refine ⟨?_, h2⟩
    show (rmT t dk lg).2.firsts.tail = _
    rw [h1, List.tail_drop]
theorem rmT_zero (dk : DkSt) (lg : LgSt) : rmT 0 dk lg = (dk, lg) := rfl
theorem TrI.at {b : Int} {k : Nat} {n : Int} {segs : List Sg} {dk : DkSt} {lg : LgSt} (h : TrI b k n segs dk lg) (hb : 0 ≤ b) (hb2 : b ≤ 1000000000) (hk : k ≤ 60) : ∀ t, t ≤ segs.length →
    TrI b k (n + (((segs.take t).flatMap Prod.snd).length : Nat)) (segs.drop t) (rmT t dk lg).1 (rmT t dk lg).2
  | 0, _ => by simpa [rmT] using h
  | t + 1, ht => by
    have ih := TrI.at h hb hb2 hk t (by omega)
    obtain ⟨s, hs⟩ : ∃ s, segs[t]? = some s := ⟨_, List.getElem?_eq_getElem (by omega)⟩
    have hd : segs.drop t = s :: segs.drop (t + 1) := by
      obtain ⟨hlt, he⟩ := List.getElem?_eq_some_iff.1 hs
      rw [List.drop_eq_getElem_cons hlt, he]
    rw [hd] at ih
    obtain ⟨_, _, h3⟩ := ih.rm hb hb2 hk
    have hf := ih.fi
    rw [List.map_cons] at hf
    have e1 : nameL ((rmT t dk lg).2.firsts.headD 0) = nameL s.1 := by rw [hf]; rfl
    have e2 : (segs.take (t + 1)).flatMap Prod.snd = (segs.take t).flatMap Prod.snd ++ s.2 := by
      rw [List.take_add_one, hs, List.flatMap_append]
      simp
    show TrI b k _ _ (dRemove (rmT t dk lg).1 (nameL ((rmT t dk lg).2.firsts.headD 0))).1 { (rmT t dk lg).2 with firsts := (rmT t dk lg).2.firsts.tail }
    rw [e1, e2, List.length_append]
    rw [show n + ((((segs.take t).flatMap Prod.snd).length + s.2.length : Nat) : Int) = n + (((segs.take t).flatMap Prod.snd).length : Nat) + s.2.length by omega]
    exact h3
end Go.Proofs.YthehpafkaefohaaGreatDoor

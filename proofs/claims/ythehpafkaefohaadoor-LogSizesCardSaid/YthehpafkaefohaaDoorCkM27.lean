/- What a file is behind a disk's deeds. No program in sight. Conditions: none. -/
import Derived.Test.YthehpafkaefohaaDoorCkM15
namespace Go.Proofs.YthehpafkaefohaaDoor
theorem look_mem {fs : List DF} (hs : SortedF fs) {f : DF} (hf : f ∈ fs) : lookF fs f.nm = f := by
  obtain ⟨i, hi⟩ := List.getElem?_of_mem hf
  have h := getF_place hs hi (eqN_refl _)
  have h2 : hasN fs f.nm = true := (hasN_iff hs).2 ⟨f, hf, eqN_refl _⟩
  unfold lookF
  rw [if_pos h2, ← h, hi]
  rfl
theorem look_no {fs : List DF} {n : ByteArray} (h : hasN fs n = false) : lookF fs n = default := by
  unfold lookF
  rw [if_neg (by simp [h])]
theorem has_look {fs : List DF} (hs : SortedF fs) {n : ByteArray} (h : hasN fs n = true) : lookF fs n ∈ fs ∧ (lookF fs n).nm = n := by
  obtain ⟨f, hf, he⟩ := hasN_at h
  have he2 := eqN_data.1 he
  have hm := List.mem_of_getElem? hf
  have h1 := look_mem hs hm
  rw [he2] at h1
  rw [h1]
  exact ⟨hm, he2⟩
theorem hasN_mem {fs : List DF} (hs : SortedF fs) {f : DF} {n : ByteArray} (hf : f ∈ fs) (he : f.nm = n) : hasN fs n = true := (hasN_iff hs).2 ⟨f, hf, eqN_data.2 he⟩
theorem mem_hasN {fs : List DF} (hs : SortedF fs) {n : ByteArray} (h : hasN fs n = true) : ∃ f ∈ fs, f.nm = n := by
  obtain ⟨f, hf, he⟩ := (hasN_iff hs).1 h
  exact ⟨f, hf, eqN_data.1 he⟩
theorem has_at {fs : List DF} (hs : SortedF fs) (i : Nat) {g : DF → DF} (hg : ∀ f, (g f).nm = f.nm) (m : ByteArray) : hasN (atF fs i g) m = hasN fs m := by
  have hs2 := atF_sorted hs i hg
  cases hm : hasN fs m with
  | true =>
    obtain ⟨f, hf, he⟩ := mem_hasN hs hm
    obtain ⟨j, hj⟩ := List.getElem?_of_mem hf
    by_cases e : i = j
    · exact hasN_mem hs2 (f := g f) (List.mem_of_getElem? (i := j) (by rw [atF_get, if_pos e, hj]; rfl)) (by rw [hg]; exact he)
    · exact hasN_mem hs2 (f := f) (List.mem_of_getElem? (i := j) (by rw [atF_get, if_neg e, hj])) he
  | false =>
    cases h : hasN (atF fs i g) m with
    | false => rfl
    | true =>
      obtain ⟨f, hf, he⟩ := mem_hasN hs2 h
      rcases mem_at hf with hf | ⟨a, ha, rfl⟩
      · rw [hasN_mem hs hf he] at hm
        cases hm
      · rw [hg] at he
        rw [hasN_mem hs ha he] at hm
        cases hm
theorem look_at {fs : List DF} (hs : SortedF fs) {n : ByteArray} (h : hasN fs n = true) {g : DF → DF} (hg : ∀ f, (g f).nm = f.nm) (m : ByteArray) : lookF (atF fs (plc fs n) g) m = if m = n then g (lookF fs n) else lookF fs m := by
  have hs2 := atF_sorted hs (plc fs n) hg
  obtain ⟨f, hf, he⟩ := hasN_at h
  have he2 := eqN_data.1 he
  have h1 := look_mem hs (List.mem_of_getElem? hf)
  rw [he2] at h1
  split
  · rename_i e
    subst e
    have hm : g f ∈ atF fs (plc fs m) g := List.mem_of_getElem? (i := plc fs m) (by rw [atF_get, if_pos rfl, hf]; rfl)
    have h2 := look_mem hs2 hm
    rw [hg, he2] at h2
    rw [h2, h1]
  · rename_i e
    cases hm : hasN fs m with
    | false => rw [look_no (by rw [has_at hs _ hg]; exact hm), look_no hm]
    | true =>
      obtain ⟨f2, hf2, he3⟩ := hasN_at hm
      have he4 := eqN_data.1 he3
      have hne : ¬ plc fs n = plc fs m := fun e2 => by
        rw [e2, hf2] at hf
        injection hf with hf
        exact e (by rw [← he4, hf, he2])
      have h2 := look_mem hs2 (f := f2) (List.mem_of_getElem? (i := plc fs m) (by rw [atF_get, if_neg hne, hf2]))
      have h3 := look_mem hs (List.mem_of_getElem? hf2)
      rw [he4] at h2 h3
      rw [h2, h3]
theorem ins_mem {fs : List DF} {f g : DF} : g ∈ insF fs f ↔ g = f ∨ g ∈ fs := by
  constructor
  · exact mem_ins
  · intro h
    unfold insF
    rcases h with rfl | h
    · exact List.mem_append_right _ (List.mem_cons_self ..)
    · have : g ∈ fs.take (plc fs f.nm) ++ fs.drop (plc fs f.nm) := by rw [List.take_append_drop]; exact h
      rcases List.mem_append.1 this with h2 | h2
      · exact List.mem_append_left _ h2
      · exact List.mem_append_right _ (List.mem_cons_of_mem _ h2)
theorem look_ins {fs : List DF} (hs : SortedF fs) {f : DF} (hn : hasN fs f.nm = false) (m : ByteArray) : lookF (insF fs f) m = if m = f.nm then f else lookF fs m := by
  have hs2 := insF_sorted hs hn
  split
  · rename_i e
    subst e
    exact look_mem hs2 (ins_mem.2 (.inl rfl))
  · rename_i e
    cases hm : hasN fs m with
    | true =>
      obtain ⟨g, hg, rfl⟩ := mem_hasN hs hm
      rw [look_mem hs hg, look_mem hs2 (ins_mem.2 (.inr hg))]
    | false =>
      rw [look_no hm, look_no]
      cases h : hasN (insF fs f) m with
      | false => rfl
      | true =>
        obtain ⟨g, hg, he⟩ := mem_hasN hs2 h
        rcases ins_mem.1 hg with rfl | hg
        · exact absurd he.symm e
        · rw [hasN_mem hs hg he] at hm
          cases hm
/-- a file behind an Append -/
theorem look_put {fs : List DF} (hs : SortedF fs) (n : ByteArray) (b : List UInt8) (m : ByteArray) :
    lookF (putF fs n b) m = if m = n then (if hasN fs n = true then { lookF fs n with bs := (lookF fs n).bs ++ b } else ⟨n, b, 0⟩) else lookF fs m := by
  unfold putF
  by_cases h : hasN fs n = true
  · rw [if_pos h, if_pos h]
    exact look_at hs h (g := fun f => { f with bs := f.bs ++ b }) (fun _ => rfl) m
  · have h0 : hasN fs n = false := by simpa using h
    have hs2 := insF_sorted (f := ⟨n, [], 0⟩) hs h0
    have hh : hasN (insF fs ⟨n, [], 0⟩) n = true := hasN_mem hs2 (ins_mem.2 (.inl rfl)) rfl
    have hp := (plc_ins (f := ⟨n, [], 0⟩) hs h0).1
    have h1 := look_at hs2 hh (g := fun f => { f with bs := f.bs ++ b }) (fun _ => rfl) m
    rw [hp] at h1
    rw [if_neg h, if_neg h, h1, look_ins hs h0, look_ins hs h0, if_pos rfl]
    split
    · rfl
    · rfl
theorem has_put {fs : List DF} (hs : SortedF fs) (n : ByteArray) (b : List UInt8) (m : ByteArray) : hasN (putF fs n b) m = (decide (m = n) || hasN fs m) := by
  cases hm : hasN fs m with
  | true => rw [hasN_put hs b (.inl hm)]; simp
  | false =>
    by_cases e : m = n
    · rw [hasN_put hs b (.inr e)]; simp [e]
    · simp only [e, decide_false, Bool.or_false]
      cases h : hasN (putF fs n b) m with
      | false => rfl
      | true =>
        obtain ⟨h1, _, _, h4⟩ := putF_facts hs n b
        obtain ⟨f, hf, he⟩ := mem_hasN h1 h
        rcases h4 f hf with hf | ⟨a, ha, rfl⟩
        · rw [hasN_mem hs hf he] at hm
          cases hm
        · rcases ha with ha | rfl
          · rw [hasN_mem hs ha he] at hm
            cases hm
          · exact absurd he.symm e
/-- a file behind a Sync -/
theorem look_sync {fs : List DF} (hs : SortedF fs) {n : ByteArray} (h : hasN fs n = true) (m : ByteArray) : lookF (atF fs (plc fs n) fun f => { f with sf := f.bs.length }) m = if m = n then { lookF fs n with sf := (lookF fs n).bs.length } else lookF fs m := look_at hs h (g := fun f => { f with sf := f.bs.length }) (fun _ => rfl) m
theorem erase_sorted {fs : List DF} (hs : SortedF fs) (i : Nat) : SortedF (fs.eraseIdx i) := List.Pairwise.sublist (List.eraseIdx_sublist _ _) hs
/-- a file behind a Remove -/
theorem has_erase {fs : List DF} (hs : SortedF fs) {n : ByteArray} (h : hasN fs n = true) (m : ByteArray) : hasN (fs.eraseIdx (plc fs n)) m = (!decide (m = n) && hasN fs m) := by
  have hs2 := erase_sorted hs (plc fs n)
  obtain ⟨f, hf, he⟩ := hasN_at h
  have he2 := eqN_data.1 he
  by_cases e : m = n
  · subst e
    simp only [decide_true, Bool.not_true, Bool.false_and]
    cases h2 : hasN (fs.eraseIdx (plc fs m)) m with
    | false => rfl
    | true =>
      obtain ⟨g, hg, hge⟩ := mem_hasN hs2 h2
      obtain ⟨j, hj⟩ := List.getElem?_of_mem hg
      rw [List.getElem?_eraseIdx] at hj
      split at hj
      · have := getF_place hs hj (eqN_data.2 hge); omega
      · have := getF_place hs hj (eqN_data.2 hge); omega
  · simp only [e, decide_false, Bool.not_false, Bool.true_and]
    cases hm : hasN fs m with
    | true =>
      obtain ⟨g, hg, hge⟩ := mem_hasN hs hm
      obtain ⟨j, hj⟩ := List.getElem?_of_mem hg
      have hne : ¬ j = plc fs n := fun e2 => by
        rw [e2, hf] at hj
        injection hj with hj
        exact e (by rw [← hge, ← hj, he2])
      refine hasN_mem hs2 (f := g) ?_ hge
      rw [List.mem_eraseIdx_iff_getElem?]
      exact ⟨j, hne, hj⟩
    | false =>
      cases h2 : hasN (fs.eraseIdx (plc fs n)) m with
      | false => rfl
      | true =>
        obtain ⟨g, hg, hge⟩ := mem_hasN hs2 h2
        rw [hasN_mem hs (List.mem_of_mem_eraseIdx hg) hge] at hm
        cases hm
theorem look_erase {fs : List DF} (hs : SortedF fs) {n : ByteArray} (h : hasN fs n = true) {m : ByteArray} (hne : m ≠ n) : lookF (fs.eraseIdx (plc fs n)) m = lookF fs m := by
  have hs2 := erase_sorted hs (plc fs n)
  have hh := has_erase hs h m
  cases hm : hasN fs m with
  | false => rw [look_no hm, look_no (by rw [hh, hm]; simp)]
  | true =>
    rw [hm] at hh
    obtain ⟨g, hg, hge⟩ := mem_hasN hs2 (n := m) (by rw [hh]; simp [hne])
    have h1 := look_mem hs2 hg
    have h2 := look_mem hs (List.mem_of_mem_eraseIdx hg)
    rw [hge] at h1 h2
    rw [h1, h2]
end Go.Proofs.YthehpafkaefohaaDoor
namespace Go.Proofs.YthehpafkaefohaaDoor
abbrev Bt := List (List UInt8)
def frames : Int → List Bt → List UInt8
  | _, [] => []
  | n, r :: rs => frameB (batchB n.toNat r) ++ frames (n + 1) rs
def segB (n : Int) (bs : List Bt) : List UInt8 := headB n ++ frames n bs
abbrev Sg := Int × List Bt
def chainS : Int → List Sg → Prop
  | _, [] => True
  | n, s :: r => s.1 = n ∧ 1 ≤ s.2.length ∧ chainS (n + s.2.length) r
def endS : Int → List Sg → Int
  | n, [] => n
  | n, s :: r => endS (n + s.2.length) r
theorem frames_snoc (rs : List Bt) (r : Bt) : ∀ n, frames n (rs ++ [r]) = frames n rs ++ frameB (batchB (n + rs.length).toNat r) := by
  induction rs with
  | nil => intro n; simp [frames]
  | cons a rs ih =>
    intro n
    simp only [List.cons_append, frames, ih, List.append_assoc, List.length_cons]
    rw [show n + 1 + (rs.length : Int) = n + ((rs.length + 1 : Nat) : Int) by omega]
theorem chainS_snoc : ∀ (n : Int) (l : List Sg) (s : Sg), chainS n l → s.1 = endS n l → 1 ≤ s.2.length → chainS n (l ++ [s])
  | _, [], _, _, h, h2 => ⟨h, h2, trivial⟩
  | _, _ :: l, s, ⟨h1, h2, h3⟩, h, h4 => ⟨h1, h2, chainS_snoc _ l s h3 h h4⟩
theorem endS_snoc : ∀ (n : Int) (l : List Sg) (s : Sg), endS n (l ++ [s]) = endS n l + s.2.length
  | _, [], _ => rfl
  | _, _ :: l, s => endS_snoc _ l s
theorem chainS_grow : ∀ (n : Int) (l : List Sg) (m : Int) (rs : List Bt) (r : Bt), chainS n (l ++ [(m, rs)]) → chainS n (l ++ [(m, rs ++ [r])])
  | n, [], m, rs, r, ⟨h1, h2, _⟩ => ⟨h1, by simp, trivial⟩
  | n, a :: l, m, rs, r, ⟨h1, h2, h3⟩ => ⟨h1, h2, chainS_grow _ l m rs r h3⟩
theorem chainS_lt : ∀ (n : Int) (l : List Sg), chainS n l → ∀ s ∈ l, n ≤ s.1 ∧ s.1 < endS n l
  | n, [], _, s, h => by cases h
  | n, a :: l, ⟨h1, h2, h3⟩, s, h => by
    have hle : ∀ (l : List Sg) (m : Int), m ≤ endS m l := by
      intro l
      induction l with
      | nil => intro m; exact Int.le_refl _
      | cons b l ih => intro m; have := ih (m + b.2.length); simp only [endS]; omega
    have h4 := hle l (n + a.2.length)
    rcases List.mem_cons.1 h with rfl | h
    · simp only [endS]; omega
    · have := chainS_lt _ l h3 s h
      simp only [endS]; omega
/-- in a chain the last segment's number is no other's -/
theorem chainS_ne (n : Int) (l : List Sg) (s : Sg) (h : chainS n (l ++ [s])) : s.1 = endS n l ∧ ∀ t ∈ l, t.1 ≠ s.1 := by
  have h1 : ∀ (l : List Sg) (n : Int), chainS n (l ++ [s]) → s.1 = endS n l ∧ chainS n l := by
    intro l
    induction l with
    | nil => rintro n ⟨h1, _, _⟩; exact ⟨h1, trivial⟩
    | cons a l ih => rintro n ⟨h1, h2, h3⟩; obtain ⟨h4, h5⟩ := ih _ h3; exact ⟨h4, h1, h2, h5⟩
  obtain ⟨h2, h3⟩ := h1 l n h
  refine ⟨h2, fun t ht e => ?_⟩
  have := (chainS_lt n l h3 t ht).2
  omega
def syncFs (dk : DkSt) (lg : LgSt) : List DF := if lg.firsts = [] then dk.fs else atF dk.fs (plc dk.fs (fileL lg)) fun f => { f with sf := f.bs.length }
/-- the files behind a batch that is written -/
theorem write_fs {b : Int} {k : Nat} {dk : DkSt} {lg : LgSt} (h : LgI b k dk lg) (hb : 0 ≤ b) (hb2 : b ≤ 1000000000) (hk : k ≤ 60) {recs : List (List UInt8)} (hr : smallB recs) :
    (lWrite dk lg recs).1.fs = if fullL dk lg = true then putF (putF (syncFs dk lg) (nameL (lg.last + 1)) (headB (lg.last + 1))) (nameL (lg.last + 1)) (frameB (batchB (lg.last + 1).toNat recs)) else putF dk.fs (fileL lg) (frameB (batchB (lg.last + 1).toNat recs)) := by
  obtain ⟨e1, e2, e3⟩ := batch_fits (n := lg.last + 1) (by have := h.lo; omega) (by have := h.hi; omega) hr
  have hin : inL (lg.last + 1) := inL_of h hb hb2 (by omega) (by have := h.lo; omega) (Int.le_refl _)
  have hnm := nameL_ok hin
  have hroom := h.room
  have hfew := h.few
  have hused := h.used
  have hlo := h.lo
  have hhi := h.hi
  have hsort := h.ok.sorted
  unfold lWrite
  rw [if_neg (by simp [h.over]), if_neg (by simp [e1])]
  by_cases hf : fullL dk lg = true
  · rw [if_pos hf, if_pos hf]
    have hsy : lSyncFile dk lg = ({ dk with fs := syncFs dk lg }, 0) ∧ SortedF (syncFs dk lg) ∧ (syncFs dk lg).length = dk.fs.length ∧ usedF (syncFs dk lg) = usedF dk.fs := by
      unfold lSyncFile syncFs
      by_cases hn : lg.firsts = []
      · rw [if_pos hn, if_pos hn]
        exact ⟨rfl, hsort, rfl, rfl⟩
      · rw [if_neg hn, if_neg hn]
        have hm := (h.seg _ (last_mem hn)).2.2
        have hs := sync_lit (n := fileL lg) h.lit h.fuse hm
        refine ⟨hs, atF_sorted hsort _ (fun _ => rfl), by simp [atF], ?_⟩
        obtain ⟨f, hf1, _⟩ := hasN_at hm
        have := usedF_modify dk.fs (plc dk.fs (nameL (lastN lg.firsts))) (fun f => { f with sf := f.bs.length }) f hf1
        simp at this
        exact this
    obtain ⟨s1, s3s, s4, s5⟩ := hsy
    have a1 : dAppend { dk with fs := syncFs dk lg } (nameL (lg.last + 1)) (headB (lg.last + 1)) = ({ dk with fs := putF (syncFs dk lg) (nameL (lg.last + 1)) (headB (lg.last + 1)) }, 0) :=
      append_lit (st := { dk with fs := syncFs dk lg }) h.lit h.fuse hnm (by show (usedF (syncFs dk lg) : Int) + _ ≤ dk.room; omega) (by show (syncFs dk lg).length < 200; omega)
    have p1 := putF_facts s3s (nameL (lg.last + 1)) (headB (lg.last + 1))
    have hN : lNext dk lg (lg.last + 1) = ({ dk with fs := putF (syncFs dk lg) (nameL (lg.last + 1)) (headB (lg.last + 1)) }, { lg with acked := lg.last, firsts := lg.firsts ++ [lg.last + 1] }, 0) := by
      unfold lNext headOr
      rw [s1, if_pos hin]
      simp [a1]
    have hlen : (putF (syncFs dk lg) (nameL (lg.last + 1)) (headB (lg.last + 1))).length ≤ k + 1 := by
      rw [p1.2.2.1]
      split <;> omega
    have a2 : dAppend { dk with fs := putF (syncFs dk lg) (nameL (lg.last + 1)) (headB (lg.last + 1)) } (nameL (lg.last + 1)) (frameB (batchB (lg.last + 1).toNat recs)) = ({ dk with fs := putF (putF (syncFs dk lg) (nameL (lg.last + 1)) (headB (lg.last + 1))) (nameL (lg.last + 1)) (frameB (batchB (lg.last + 1).toNat recs)) }, 0) :=
      append_lit (st := { dk with fs := putF (syncFs dk lg) (nameL (lg.last + 1)) (headB (lg.last + 1)) }) h.lit h.fuse hnm (by have := p1.2.1; show (usedF (putF (syncFs dk lg) _ _) : Int) + _ ≤ dk.room; omega) (by show (putF (syncFs dk lg) _ _).length < 200; omega)
    have hfile : fileL { lg with acked := lg.last, firsts := lg.firsts ++ [lg.last + 1] } = nameL (lg.last + 1) := by
      unfold fileL lastN
      simp
    rw [hN]
    simp only [ne_eq, not_true_eq_false, if_false]
    unfold lPut
    rw [hfile, a2]
    simp
  · rw [if_neg hf, if_neg hf]
    have hne : lg.firsts ≠ [] := by
      intro e
      apply hf
      unfold fullL
      simp [e]
    have hm := (h.seg _ (last_mem hne))
    have hfn := nameL_ok (inL_of h hb hb2 (by omega) hm.1 (by omega))
    have a2 : dAppend dk (fileL lg) (frameB (batchB (lg.last + 1).toNat recs)) = ({ dk with fs := putF dk.fs (fileL lg) (frameB (batchB (lg.last + 1).toNat recs)) }, 0) :=
      append_lit h.lit h.fuse hfn (by omega) (by omega)
    unfold lPut
    rw [a2]
    simp
end Go.Proofs.YthehpafkaefohaaDoor
namespace Go.Proofs.YthehpafkaefohaaDoor
structure LgH (b : Int) (segs : List Sg) (all : List Bt) (dk : DkSt) (lg : LgSt) : Prop where
  i : LgI b all.length dk lg
  fi : lg.firsts = segs.map Prod.fst
  byt : ∀ s ∈ segs, (lookF dk.fs (nameL s.1)).bs = segB s.1 s.2
  ch : chainS (b + 1) segs
  la : lg.last = b + all.length
  en : endS (b + 1) segs = lg.last + 1
  fl : segs.flatMap Prod.snd = all
  nf : dk.fs.length = segs.length
  on : ∀ m, hasN dk.fs m = true → ∃ s ∈ segs, m = nameL s.1
  sy : ∀ s ∈ segs.dropLast, (lookF dk.fs (nameL s.1)).sf = (lookF dk.fs (nameL s.1)).bs.length
  ac : b ≤ lg.acked ∧ lg.acked ≤ lg.last
  sl : lg.acked = lg.last → ∀ s, segs.getLast? = some s → (lookF dk.fs (nameL s.1)).sf = (lookF dk.fs (nameL s.1)).bs.length
theorem LgH.inl {b : Int} {segs : List Sg} {all : List Bt} {dk : DkSt} {lg : LgSt} (h : LgH b segs all dk lg) (hb : 0 ≤ b) (hb2 : b ≤ 1000000000) (hk : all.length ≤ 60) : ∀ s ∈ segs, inL s.1 ∧ s.1 ≤ lg.last := by
  intro s hs
  have h1 := chainS_lt _ _ h.ch s hs
  rw [h.en] at h1
  have := h.la
  exact ⟨⟨by omega, by omega⟩, by omega⟩
theorem lastN_snoc (l : List Int) (n : Int) : lastN (l ++ [n]) = n := by unfold lastN; simp
theorem LgH.write {b : Int} {segs : List Sg} {all : List Bt} {dk : DkSt} {lg : LgSt} (h : LgH b segs all dk lg) (hb : 0 ≤ b) (hb2 : b ≤ 1000000000) (hk : all.length ≤ 50) {recs : Bt} (hr : smallB recs) :
    ∃ segs', LgH b segs' (all ++ [recs]) (lWrite dk lg recs).1 (lWrite dk lg recs).2.1 ∧ (lWrite dk lg recs).2.2 = (lg.last + 1, 0) ∧ lg.acked ≤ (lWrite dk lg recs).2.1.acked := by
  obtain ⟨a1, a2, a3, a4, a5, _, a7⟩ := write_ok h.i hb hb2 (by omega) hr
  have hfs := write_fs h.i hb hb2 (by omega) hr
  have hin := h.inl hb hb2 (by omega)
  have hla := h.la
  have hnew : inL (lg.last + 1) := ⟨by omega, by omega⟩
  have hs := h.i.ok.sorted
  have hac := h.ac
  have hseg := h.i.seg
  by_cases hf : fullL dk lg = true
  · rw [if_pos hf] at hfs a4 a7
    obtain ⟨F, hF⟩ : ∃ F, syncFs dk lg = F := ⟨_, rfl⟩
    rw [hF] at hfs
    have hFs : SortedF F ∧ F.length = dk.fs.length ∧ (∀ m, hasN F m = hasN dk.fs m) ∧ (∀ m, (lookF F m).bs = (lookF dk.fs m).bs) ∧ (∀ s ∈ segs, (lookF F (nameL s.1)).sf = (lookF F (nameL s.1)).bs.length) := by
      rw [← hF]
      unfold syncFs
      by_cases hn : lg.firsts = []
      · rw [if_pos hn]
        have : segs = [] := by
          have := h.fi
          rw [hn] at this
          simpa using this.symm
        exact ⟨hs, rfl, fun _ => rfl, fun _ => rfl, fun s hs => by rw [this] at hs; cases hs⟩
      · rw [if_neg hn]
        obtain ⟨l, s0, rfl⟩ : ∃ l s0, segs = l ++ [s0] := by
          rcases List.eq_nil_or_concat segs with e | ⟨l, s0, e⟩
          · rw [h.fi, e] at hn; exact absurd rfl hn
          · exact ⟨l, s0, by simpa using e⟩
        have hfile : fileL lg = nameL s0.1 := by unfold fileL; rw [h.fi, List.map_append, List.map_singleton, lastN_snoc]
        have hhas : hasN dk.fs (fileL lg) = true := (hseg _ (last_mem hn)).2.2
        have hl := look_sync hs hhas
        refine ⟨atF_sorted hs _ (fun _ => rfl), by simp [atF], fun m => has_at hs _ (g := fun f => { f with sf := f.bs.length }) (fun _ => rfl) m, fun m => ?_, fun s hss => ?_⟩
        · rw [hl]
          split
          · rename_i e; rw [e]
          · rfl
        · rw [hl]
          split
          · rfl
          · rename_i e
            rcases List.mem_append.1 hss with h1 | h1
            · exact h.sy s (by simpa using h1)
            · have : s = s0 := by simpa using h1
              rw [this, hfile] at e
              exact absurd rfl e
    obtain ⟨f1, f2, f3, f4, f5⟩ := hFs
    have hnn : hasN F (nameL (lg.last + 1)) = false := by
      rw [f3]
      cases hx : hasN dk.fs (nameL (lg.last + 1)) with
      | false => rfl
      | true =>
        obtain ⟨s, hs1, hs2⟩ := h.on _ hx
        have h1 := hin s hs1
        have := nameL_inj hnew h1.1 hs2
        omega
    have g1 := putF_facts f1 (nameL (lg.last + 1)) (headB (lg.last + 1))
    have l1 := look_put f1 (nameL (lg.last + 1)) (headB (lg.last + 1))
    have n1 := has_put f1 (nameL (lg.last + 1)) (headB (lg.last + 1))
    obtain ⟨G, hG⟩ : ∃ G, putF F (nameL (lg.last + 1)) (headB (lg.last + 1)) = G := ⟨_, rfl⟩
    rw [hG] at g1 l1 n1 hfs
    have hGn : hasN G (nameL (lg.last + 1)) = true := by rw [n1]; simp
    have g2 := putF_facts g1.1 (nameL (lg.last + 1)) (frameB (batchB (lg.last + 1).toNat recs))
    have l2 := look_put g1.1 (nameL (lg.last + 1)) (frameB (batchB (lg.last + 1).toNat recs))
    have n2 := has_put g1.1 (nameL (lg.last + 1)) (frameB (batchB (lg.last + 1).toNat recs))
    have hother : ∀ s ∈ segs, lookF (lWrite dk lg recs).1.fs (nameL s.1) = lookF F (nameL s.1) := fun s hss => by
      have h1 := hin s hss
      have hne : nameL s.1 ≠ nameL (lg.last + 1) := fun e => by
        have := nameL_inj h1.1 hnew e
        omega
      rw [hfs, l2, if_neg hne, l1, if_neg hne]
    have hself : lookF (lWrite dk lg recs).1.fs (nameL (lg.last + 1)) = ⟨nameL (lg.last + 1), headB (lg.last + 1) ++ frameB (batchB (lg.last + 1).toNat recs), 0⟩ := by
      rw [hfs, l2, if_pos rfl, if_pos hGn, l1, if_pos rfl, if_neg (by simp [hnn])]
    refine ⟨segs ++ [(lg.last + 1, [recs])], ⟨?_, ?_, ?_, ?_, ?_, ?_, ?_, ?_, ?_, ?_, ?_, ?_⟩, a2, ?_⟩
    · rw [List.length_append]; exact a1
    · rw [a4, h.fi]; simp
    · intro s hss
      rcases List.mem_append.1 hss with h1 | h1
      · rw [hother s h1, f4]; exact h.byt s h1
      · have : s = (lg.last + 1, [recs]) := by simpa using h1
        subst this
        rw [hself]
        simp [segB, frames]
    · exact chainS_snoc _ _ _ h.ch h.en.symm (by simp)
    · rw [a3, List.length_append]; simp; omega
    · rw [endS_snoc, h.en, a3]; simp
    · rw [List.flatMap_append, h.fl]; simp
    · rw [hfs, g2.2.2.1, hGn, g1.2.2.1, hnn, f2, h.nf]; simp
    · intro m hm
      rw [hfs, n2, n1, f3] at hm
      by_cases e : m = nameL (lg.last + 1)
      · exact ⟨_, List.mem_append_right _ (List.mem_singleton.2 rfl), e⟩
      · simp [e] at hm
        obtain ⟨s, h1, h2⟩ := h.on m hm
        exact ⟨s, List.mem_append_left _ h1, h2⟩
    · intro s hss
      rw [List.dropLast_concat] at hss
      rw [hother s hss]
      exact f5 s hss
    · rw [a7, a3]; omega
    · intro e
      rw [a7, a3] at e
      omega
    · rw [a7]; exact hac.2
  · rw [if_neg hf] at hfs a4 a7
    have hn : lg.firsts ≠ [] := by
      intro e
      apply hf
      unfold fullL
      simp [e]
    obtain ⟨l, s0, hsg⟩ : ∃ l s0, segs = l ++ [s0] := by
      rcases List.eq_nil_or_concat segs with e | ⟨l, s0, e⟩
      · rw [h.fi, e] at hn; exact absurd rfl hn
      · exact ⟨l, s0, by simpa using e⟩
    obtain ⟨m0, rs⟩ := s0
    have hfile : fileL lg = nameL m0 := by unfold fileL; rw [h.fi, hsg, List.map_append, List.map_singleton, lastN_snoc]
    have hhas : hasN dk.fs (nameL m0) = true := by rw [← hfile]; exact (hseg _ (last_mem hn)).2.2
    have hch := h.ch
    rw [hsg] at hch
    obtain ⟨hm0, hne0⟩ := chainS_ne _ _ _ hch
    simp only at hm0 hne0
    have hen := h.en
    rw [hsg, endS_snoc] at hen
    have hin0 := (hin (m0, rs) (by rw [hsg]; simp)).1
    rw [hfile] at hfs
    have l2 := look_put hs (nameL m0) (frameB (batchB (lg.last + 1).toNat recs))
    have n2 := has_put hs (nameL m0) (frameB (batchB (lg.last + 1).toNat recs))
    have g2 := putF_facts hs (nameL m0) (frameB (batchB (lg.last + 1).toNat recs))
    have hother : ∀ s ∈ l, lookF (lWrite dk lg recs).1.fs (nameL s.1) = lookF dk.fs (nameL s.1) := fun s hss => by
      have h1 := hin s (by rw [hsg]; exact List.mem_append_left _ hss)
      have hne : nameL s.1 ≠ nameL m0 := fun e => hne0 s hss (nameL_inj h1.1 hin0 e)
      rw [hfs, l2, if_neg hne]
    refine ⟨l ++ [(m0, rs ++ [recs])], ⟨?_, ?_, ?_, ?_, ?_, ?_, ?_, ?_, ?_, ?_, ?_, ?_⟩, a2, ?_⟩
    · rw [List.length_append]; exact a1
    · rw [a4, h.fi, hsg]; simp
    · intro s hss
      rcases List.mem_append.1 hss with h1 | h1
      · rw [hother s h1]; exact h.byt s (by rw [hsg]; exact List.mem_append_left _ h1)
      · have : s = (m0, rs ++ [recs]) := by simpa using h1
        subst this
        have hb0 := h.byt (m0, rs) (by rw [hsg]; simp)
        simp only at hb0
        rw [hfs, l2, if_pos rfl, if_pos hhas]
        show (lookF dk.fs (nameL m0)).bs ++ _ = segB m0 (rs ++ [recs])
        rw [hb0]
        unfold segB
        rw [frames_snoc, show m0 + (rs.length : Int) = lg.last + 1 by simp at hen; omega, List.append_assoc]
    · exact chainS_grow _ _ _ _ _ hch
    · rw [a3, List.length_append]; simp; omega
    · rw [endS_snoc, a3]; simp at hen ⊢; omega
    · have := h.fl
      rw [hsg] at this
      rw [← this]
      simp
    · rw [hfs, g2.2.2.1, hhas, h.nf, hsg]; simp
    · intro m hm
      rw [hfs, n2] at hm
      by_cases e : m = nameL m0
      · exact ⟨_, List.mem_append_right _ (List.mem_singleton.2 rfl), e⟩
      · simp [e] at hm
        obtain ⟨s, h1, h2⟩ := h.on m hm
        rw [hsg] at h1
        rcases List.mem_append.1 h1 with h3 | h3
        · exact ⟨s, List.mem_append_left _ h3, h2⟩
        · have : s = (m0, rs) := by simpa using h3
          subst this
          exact absurd h2 e
    · intro s hss
      rw [List.dropLast_concat] at hss
      rw [hother s hss]
      refine h.sy s ?_
      rw [hsg, List.dropLast_concat]
      exact hss
    · rw [a7, a3]; omega
    · intro e
      rw [a7, a3] at e
      omega
    · rw [a7]; exact Int.le_refl _
theorem LgH.sync {b : Int} {segs : List Sg} {all : List Bt} {dk : DkSt} {lg : LgSt} (h : LgH b segs all dk lg) :
    LgH b segs all (lSync dk lg).1 (lSync dk lg).2.1 ∧ (lSync dk lg).2.2 = 0 ∧ (lSync dk lg).2.1 = { lg with acked := lg.last } := by
  obtain ⟨b1, b2, b3, _⟩ := sync_ok h.i
  have hs := h.i.ok.sorted
  have hseg := h.i.seg
  have hac := h.ac
  have hfs : (lSync dk lg).1.fs = syncFs dk lg := by
    unfold lSync
    rw [if_neg (by simp [h.i.over])]
    unfold lSyncFile syncFs
    by_cases hn : lg.firsts = []
    · rw [if_pos hn, if_pos hn]; simp
    · rw [if_neg hn, if_neg hn]
      have hm := (hseg _ (last_mem hn)).2.2
      rw [sync_lit (n := fileL lg) h.i.lit h.i.fuse hm]
      simp
  refine ⟨?_, b2, b3⟩
  have key : (∀ m, hasN (syncFs dk lg) m = hasN dk.fs m) ∧ (syncFs dk lg).length = dk.fs.length ∧ (∀ m, (lookF (syncFs dk lg) m).bs = (lookF dk.fs m).bs) ∧ (∀ m, (lookF dk.fs m).sf = (lookF dk.fs m).bs.length → (lookF (syncFs dk lg) m).sf = (lookF (syncFs dk lg) m).bs.length) ∧ (∀ s, segs.getLast? = some s → (lookF (syncFs dk lg) (nameL s.1)).sf = (lookF (syncFs dk lg) (nameL s.1)).bs.length) := by
    unfold syncFs
    by_cases hn : lg.firsts = []
    · rw [if_pos hn]
      have : segs = [] := by
        have := h.fi
        rw [hn] at this
        simpa using this.symm
      exact ⟨fun _ => rfl, rfl, fun _ => rfl, fun _ h => h, fun s hs => by rw [this] at hs; cases hs⟩
    · rw [if_neg hn]
      have hhas : hasN dk.fs (fileL lg) = true := (hseg _ (last_mem hn)).2.2
      have hl := look_sync hs hhas
      refine ⟨fun m => has_at hs _ (g := fun f => { f with sf := f.bs.length }) (fun _ => rfl) m, by simp [atF], fun m => ?_, fun m hm => ?_, fun s hss => ?_⟩
      · rw [hl]
        split
        · rename_i e; rw [e]
        · rfl
      · rw [hl]
        split
        · rfl
        · exact hm
      · have hfile : fileL lg = nameL s.1 := by
          unfold fileL lastN
          rw [h.fi, List.getLastD_eq_getLast?, List.getLast?_map, hss]
          rfl
        rw [hl, hfile, if_pos rfl]
  obtain ⟨k1, k2, k3, k4, k5⟩ := key
  rw [← hfs] at k1 k2 k3 k4 k5
  refine ⟨b1, by rw [b3]; exact h.fi, fun s hss => by rw [k3]; exact h.byt s hss, h.ch, by rw [b3]; exact h.la, by rw [b3]; exact h.en, h.fl, by rw [k2]; exact h.nf, fun m hm => h.on m (by rw [← k1]; exact hm), fun s hss => k4 _ (h.sy s hss), ?_, fun _ s hss => k5 s hss⟩
  rw [b3]
  exact ⟨by have := h.i.lo; exact this, Int.le_refl _⟩
end Go.Proofs.YthehpafkaefohaaDoor

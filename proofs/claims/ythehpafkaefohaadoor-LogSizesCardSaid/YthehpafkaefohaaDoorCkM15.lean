/- A disk as a plain thing: files by rising names. No program in sight. Conditions: none. -/
import Derived.Sort.Walk0
import Derived.Lib.ItoaNum
import Derived.Lib.AtoiAll
import Derived.Test.YthehpafkaefohaaDoorCkM0
namespace Go.Proofs.YthehpafkaefohaaDoor

/-- a file: its name, its bytes, how many are safe -/
structure DF where
  nm : ByteArray
  bs : List UInt8
  sf : Int
instance : Inhabited DF := ⟨⟨⟨#[]⟩, [], 0⟩⟩
def ltN (a b : ByteArray) : Bool := Op.bytesLess a.toList b.toList
def eqN (a b : ByteArray) : Bool := a.toList == b.toList
theorem ltN_iff {a b : ByteArray} : ltN a b = true ↔ a.toList < b.toList := by unfold ltN; rw [bytesLess_eq, decide_eq_true_eq]
theorem eqN_iff {a b : ByteArray} : eqN a b = true ↔ a.toList = b.toList := by unfold eqN; rw [beq_iff_eq]
theorem ltN_trans {a b c : ByteArray} (h : ltN a b = true) (k : ltN b c = true) : ltN a c = true := ltN_iff.2 (List.lt_trans (ltN_iff.1 h) (ltN_iff.1 k))
theorem ltN_irr (a : ByteArray) : ltN a a = false := by
  cases h : ltN a a with
  | false => rfl
  | true => exact absurd (ltN_iff.1 h) (List.lt_irrefl _)
theorem ltN_eq {a b : ByteArray} (h : eqN a b = true) : ltN a b = false := by
  have := eqN_iff.1 h
  unfold ltN
  rw [this]
  exact ltN_irr b
theorem ltN_tri {a b : ByteArray} (h : ltN a b = false) (k : eqN a b = false) : ltN b a = true := by
  rw [ltN_iff]
  have h1 : ¬ a.toList < b.toList := fun h2 => by rw [ltN_iff.2 h2] at h; cases h
  have h2 : ¬ a.toList = b.toList := fun h2 => by rw [eqN_iff.2 h2] at k; cases k
  rcases List.le_iff_lt_or_eq.1 (List.not_lt.1 h1) with h3 | h3
  · exact h3
  · exact absurd h3.symm h2
/-- what cmp.Compare says -/
def cmpN (a b : ByteArray) : Int := if ltN a b = true then -1 else if eqN a b = true then 0 else 1
theorem cmpN_neg {a b : ByteArray} : cmpN a b < 0 ↔ ltN a b = true := by
  unfold cmpN
  split
  · simp [*]
  · split <;> simp [*]
theorem cmpN_zero {a b : ByteArray} : cmpN a b = 0 ↔ eqN a b = true := by
  unfold cmpN
  by_cases h : ltN a b = true
  · rw [if_pos h]
    constructor
    · intro h2; omega
    · intro h2; rw [ltN_eq h2] at h; cases h
  · rw [if_neg h]
    split <;> simp [*]
def SortedF (fs : List DF) : Prop := fs.Pairwise fun a b => ltN a.nm b.nm = true
/-- the place of a name -/
def plc : List DF → ByteArray → Nat
  | [], _ => 0
  | f :: fs, n => if ltN f.nm n = true then plc fs n + 1 else 0
/-- is there such a file? -/
def hasN (fs : List DF) (n : ByteArray) : Bool := match fs[plc fs n]? with
  | none => false
  | some f => eqN f.nm n
theorem plc_le (fs : List DF) (n : ByteArray) : plc fs n ≤ fs.length := by
  induction fs with
  | nil => exact Nat.le_refl _
  | cons f fs ih =>
    unfold plc
    split
    · simp only [List.length_cons]; omega
    · omega
theorem plc_lt {fs : List DF} {n : ByteArray} {i : Nat} (h : i < plc fs n) : ∃ f, fs[i]? = some f ∧ ltN f.nm n = true := by
  induction fs generalizing i with
  | nil => unfold plc at h; omega
  | cons f fs ih =>
    unfold plc at h
    split at h
    · rename_i hf
      cases i with
      | zero => exact ⟨f, rfl, hf⟩
      | succ i => exact ih (by omega)
    · omega
theorem plc_ge {fs : List DF} {n : ByteArray} (hs : SortedF fs) {i : Nat} {f : DF} (hi : plc fs n ≤ i) (hf : fs[i]? = some f) : ltN f.nm n = false := by
  induction fs generalizing i with
  | nil => simp at hf
  | cons g fs ih =>
    unfold plc at hi
    have hs' := List.pairwise_cons.1 hs
    by_cases hg : ltN g.nm n = true
    · rw [if_pos hg] at hi
      cases i with
      | zero => omega
      | succ i => exact ih hs'.2 (i := i) (by omega) (by simpa using hf)
    · cases i with
      | zero =>
        simp at hf
        subst hf
        simpa using hg
      | succ i =>
        cases h : ltN f.nm n with
        | false => rfl
        | true =>
          have hm : f ∈ fs := List.mem_of_getElem? (by simpa using hf)
          exact absurd (ltN_trans (hs'.1 f hm) h) hg
/-- the place is the one that a search finds -/
theorem plc_unique {fs : List DF} {n : ByteArray} (hs : SortedF fs) {i : Nat} (hi : i ≤ fs.length) (h1 : ∀ t f, t < i → fs[t]? = some f → ltN f.nm n = true) (h2 : ∀ t f, i ≤ t → fs[t]? = some f → ltN f.nm n = false) : i = plc fs n := by
  have hp := plc_le fs n
  rcases Nat.lt_trichotomy i (plc fs n) with h | h | h
  · obtain ⟨f, hf, hl⟩ := plc_lt h
    rw [h2 i f (Nat.le_refl _) hf] at hl
    cases hl
  · exact h
  · have hlt : plc fs n < fs.length := by omega
    have := h1 _ fs[plc fs n] h (List.getElem?_eq_getElem hlt)
    rw [plc_ge hs (Nat.le_refl _) (List.getElem?_eq_getElem hlt)] at this
    cases this
/-- a file by its name -/
def getF (fs : List DF) (n : ByteArray) : Option DF := fs.find? fun f => eqN f.nm n
theorem eqN_refl (a : ByteArray) : eqN a a = true := eqN_iff.2 rfl
theorem eqN_symm {a b : ByteArray} (h : eqN a b = true) : eqN b a = true := eqN_iff.2 (eqN_iff.1 h).symm
theorem eqN_trans {a b c : ByteArray} (h : eqN a b = true) (k : eqN b c = true) : eqN a c = true := eqN_iff.2 ((eqN_iff.1 h).trans (eqN_iff.1 k))
theorem hasN_at {fs : List DF} {n : ByteArray} (h : hasN fs n = true) : ∃ f, fs[plc fs n]? = some f ∧ eqN f.nm n = true := by
  unfold hasN at h
  split at h
  · cases h
  · rename_i f hf
    exact ⟨f, hf, h⟩
/-- a file that is found stands at the place -/
theorem getF_place {fs : List DF} {n : ByteArray} (hs : SortedF fs) {i : Nat} {f : DF} (hi : fs[i]? = some f) (he : eqN f.nm n = true) : i = plc fs n := by
  have hlt := (List.getElem?_eq_some_iff.1 hi).1
  refine plc_unique hs (by omega) (fun t g ht hg => ?_) (fun t g ht hg => ?_)
  · have := List.pairwise_iff_getElem.1 hs t i (by omega) hlt ht
    rw [(List.getElem?_eq_some_iff.1 hg).2, (List.getElem?_eq_some_iff.1 hi).2] at this
    rw [ltN_iff] at this ⊢
    rw [← eqN_iff.1 he]
    exact this
  · rcases Nat.lt_or_ge i t with h | h
    · have hlt2 := (List.getElem?_eq_some_iff.1 hg).1
      have := List.pairwise_iff_getElem.1 hs i t hlt hlt2 h
      rw [(List.getElem?_eq_some_iff.1 hg).2, (List.getElem?_eq_some_iff.1 hi).2] at this
      cases hx : ltN g.nm n with
      | false => rfl
      | true =>
        have h1 := ltN_trans this hx
        rw [ltN_eq he] at h1
        cases h1
    · have : t = i := by omega
      subst this
      rw [hi] at hg
      injection hg with hg
      subst hg
      exact ltN_eq he
theorem hasN_iff {fs : List DF} {n : ByteArray} (hs : SortedF fs) : hasN fs n = true ↔ ∃ f ∈ fs, eqN f.nm n = true := by
  constructor
  · intro h
    obtain ⟨f, hf, he⟩ := hasN_at h
    exact ⟨f, List.mem_of_getElem? hf, he⟩
  · rintro ⟨f, hm, he⟩
    obtain ⟨i, hi⟩ := List.getElem?_of_mem hm
    have := getF_place hs hi he
    unfold hasN
    rw [← this, hi]
    exact he
theorem getF_some {fs : List DF} {n : ByteArray} (hs : SortedF fs) {f : DF} (hf : fs[plc fs n]? = some f) (he : eqN f.nm n = true) : getF fs n = some f := by
  unfold getF
  cases h : fs.find? fun f => eqN f.nm n with
  | none => exact absurd he (by simpa using List.find?_eq_none.1 h f (List.mem_of_getElem? hf))
  | some g =>
    have h1 := List.find?_some h
    obtain ⟨i, hi⟩ := List.getElem?_of_mem (List.mem_of_find?_eq_some h)
    have h2 := getF_place hs hi h1
    rw [h2, hf] at hi
    exact hi.symm
theorem getF_none {fs : List DF} {n : ByteArray} (hs : SortedF fs) (h : hasN fs n = false) : getF fs n = none := by
  unfold getF
  rw [List.find?_eq_none]
  intro f hf he
  rw [(hasN_iff hs).2 ⟨f, hf, he⟩] at h
  cases h
/-- a file put in at the place of its name -/
def insF (fs : List DF) (f : DF) : List DF := fs.take (plc fs f.nm) ++ f :: fs.drop (plc fs f.nm)
theorem insF_sorted {fs : List DF} {f : DF} (hs : SortedF fs) (hn : hasN fs f.nm = false) : SortedF (insF fs f) := by
  unfold insF SortedF
  rw [List.pairwise_append]
  refine ⟨List.Pairwise.sublist (List.take_sublist _ _) hs, ?_, ?_⟩
  · rw [List.pairwise_cons]
    refine ⟨fun g hg => ?_, List.Pairwise.sublist (List.drop_sublist _ _) hs⟩
    obtain ⟨j, hj⟩ := List.getElem?_of_mem hg
    rw [List.getElem?_drop] at hj
    have h1 := plc_ge hs (n := f.nm) (by omega) hj
    refine ltN_tri h1 ?_
    cases h2 : eqN g.nm f.nm with
    | false => rfl
    | true => rw [(hasN_iff hs).2 ⟨g, List.mem_of_getElem? hj, h2⟩] at hn; cases hn
  · intro a ha b hb
    obtain ⟨j, hj⟩ := List.getElem?_of_mem ha
    rw [List.getElem?_take] at hj
    split at hj
    · rename_i hlt
      obtain ⟨g, hg, hl⟩ := plc_lt hlt
      rw [hj] at hg
      injection hg with hg
      subst hg
      rcases List.mem_cons.1 hb with hb | hb
      · subst hb; exact hl
      · have : (fs.take (plc fs f.nm) ++ fs.drop (plc fs f.nm)).Pairwise fun a b => ltN a.nm b.nm = true := by rw [List.take_append_drop]; exact hs
        exact (List.pairwise_append.1 this).2.2 a ha b hb
    · cases hj
theorem plc_ins {fs : List DF} {f : DF} (hs : SortedF fs) (hn : hasN fs f.nm = false) : plc (insF fs f) f.nm = plc fs f.nm ∧ (insF fs f)[plc fs f.nm]? = some f := by
  have hp := plc_le fs f.nm
  have hat : (insF fs f)[plc fs f.nm]? = some f := by
    unfold insF
    rw [List.getElem?_append_right (by rw [List.length_take]; omega), List.length_take]
    simp [Nat.min_eq_left hp]
  exact ⟨(getF_place (insF_sorted hs hn) hat (eqN_refl _)).symm, hat⟩
end Go.Proofs.YthehpafkaefohaaDoor
namespace Go.Proofs.YthehpafkaefohaaDoor
/-- a disk: files by rising names, room, fuse, dark -/
structure DkSt where
  fs : List DF
  room : Int
  fuse : Int
  dark : Bool
def usedF (fs : List DF) : Nat := (fs.map fun f => f.bs.length).sum
def okC (c : UInt8) : Bool := (97 ≤ c && c ≤ 122) || (48 ≤ c && c ≤ 57) || c == 46 || c == 45
def namedB (n : ByteArray) : Bool := n.data.toList.all okC && decide (0 < n.size) && decide (n.size ≤ 60)
/-- a deed, unless the fuse has burnt down -/
def dDeed (st : DkSt) (fs' : List DF) : DkSt × Int :=
  if st.fuse = 0 then ({ st with fuse := -1, dark := true }, 15) else ({ st with fuse := if 0 < st.fuse then st.fuse - 1 else st.fuse, fs := fs' }, 0)
/-- the file at a place, turned -/
def atF (fs : List DF) (i : Nat) (g : DF → DF) : List DF := fs.modify i g
def putF (fs : List DF) (n : ByteArray) (b : List UInt8) : List DF := atF (if hasN fs n = true then fs else insF fs ⟨n, [], 0⟩) (plc fs n) fun f => { f with bs := f.bs ++ b }
def dAppend (st : DkSt) (n : ByteArray) (b : List UInt8) : DkSt × Int :=
  if st.dark = true then (st, 15)
  else if namedB n = false then (st, 16)
  else if st.room < (usedF st.fs : Int) + b.length ∨ (hasN st.fs n = false ∧ st.fs.length = 200) then (st, 5)
  else dDeed st (putF st.fs n b)
def dSync (st : DkSt) (n : ByteArray) : DkSt × Int :=
  if st.dark = true then (st, 15) else if hasN st.fs n = false then (st, 16) else dDeed st (atF st.fs (plc st.fs n) fun f => { f with sf := f.bs.length })
def dRemove (st : DkSt) (n : ByteArray) : DkSt × Int :=
  if st.dark = true then (st, 15) else if hasN st.fs n = false then (st, 16) else dDeed st (st.fs.eraseIdx (plc st.fs n))
def lookF (fs : List DF) (n : ByteArray) : DF := if hasN fs n = true then (fs[plc fs n]?).getD default else default
/-- a disk as it may be -/
structure DkOk (st : DkSt) : Prop where
  sorted : SortedF st.fs
  many : st.fs.length ≤ 200
  used : (usedF st.fs : Int) ≤ st.room
  room : st.room ≤ 16777216
  fuse : -1 ≤ st.fuse
  safe : ∀ f ∈ st.fs, 0 ≤ f.sf ∧ f.sf ≤ f.bs.length
theorem atF_get {fs : List DF} {i : Nat} {g : DF → DF} {j : Nat} : (atF fs i g)[j]? = if i = j then (fs[j]?).map g else fs[j]? := by
  unfold atF
  rw [List.getElem?_modify]
  split <;> simp_all
theorem atF_sorted {fs : List DF} (hs : SortedF fs) (i : Nat) {g : DF → DF} (hg : ∀ f, (g f).nm = f.nm) : SortedF (atF fs i g) := by
  have h1 : (atF fs i g).map DF.nm = fs.map DF.nm := by
    apply List.ext_getElem?
    intro j
    rw [List.getElem?_map, List.getElem?_map, atF_get]
    split
    · cases fs[j]? with
      | none => rfl
      | some f => simp [hg]
    · rfl
  have h2 : ((atF fs i g).map DF.nm).Pairwise fun a b => ltN a b = true := by rw [h1]; exact List.pairwise_map.2 hs
  exact List.pairwise_map.1 h2
theorem usedF_modify (fs : List DF) (i : Nat) (g : DF → DF) (f : DF) (hf : fs[i]? = some f) : usedF (atF fs i g) + f.bs.length = usedF fs + (g f).bs.length := by
  induction fs generalizing i with
  | nil => simp at hf
  | cons a fs ih =>
    cases i with
    | zero =>
      simp at hf
      subst hf
      simp [usedF, atF, List.modify]
      omega
    | succ i =>
      have := ih i (by simpa using hf)
      simp [usedF, atF] at this ⊢
      omega
theorem usedF_ins (fs : List DF) (f : DF) : usedF (insF fs f) = usedF fs + f.bs.length := by
  unfold usedF insF
  have : (fs.map fun f => f.bs.length).sum = ((fs.take (plc fs f.nm)).map fun f => f.bs.length).sum + ((fs.drop (plc fs f.nm)).map fun f => f.bs.length).sum := by
    rw [← List.sum_append, ← List.map_append, List.take_append_drop]
  rw [this]
  simp
  omega
theorem insF_len (fs : List DF) (f : DF) : (insF fs f).length = fs.length + 1 := by
  have := plc_le fs f.nm
  unfold insF
  simp
  omega
theorem dDeed_ok {st : DkSt} {fs' : List DF} (h : DkOk st) (h1 : SortedF fs') (h2 : fs'.length ≤ 200) (h3 : (usedF fs' : Int) ≤ st.room) (h4 : ∀ f ∈ fs', 0 ≤ f.sf ∧ f.sf ≤ f.bs.length) : DkOk (dDeed st fs').1 := by
  unfold dDeed
  split
  · exact ⟨h.sorted, h.many, h.used, h.room, by simp, h.safe⟩
  · refine ⟨h1, h2, h3, h.room, ?_, h4⟩
    have := h.fuse
    simp only
    split <;> omega
theorem mem_ins {fs : List DF} {f g : DF} (h : g ∈ insF fs f) : g = f ∨ g ∈ fs := by
  unfold insF at h
  rcases List.mem_append.1 h with h | h
  · exact .inr (List.mem_of_mem_take h)
  · rcases List.mem_cons.1 h with h | h
    · exact .inl h
    · exact .inr (List.mem_of_mem_drop h)
theorem mem_at {fs : List DF} {i : Nat} {g : DF → DF} {f : DF} (h : f ∈ atF fs i g) : f ∈ fs ∨ ∃ a ∈ fs, f = g a := by
  obtain ⟨j, hj⟩ := List.getElem?_of_mem h
  rw [atF_get] at hj
  split at hj
  · cases ha : fs[j]? with
    | none => rw [ha] at hj; cases hj
    | some a =>
      rw [ha] at hj
      exact .inr ⟨a, List.mem_of_getElem? ha, by simpa using hj.symm⟩
  · exact .inl (List.mem_of_getElem? hj)
theorem putF_facts {fs : List DF} (hs : SortedF fs) (n : ByteArray) (b : List UInt8) : SortedF (putF fs n b) ∧ usedF (putF fs n b) = usedF fs + b.length ∧ (putF fs n b).length = fs.length + (if hasN fs n = true then 0 else 1) ∧ (∀ f ∈ putF fs n b, f ∈ fs ∨ ∃ a, (a ∈ fs ∨ a = ⟨n, [], 0⟩) ∧ f = { a with bs := a.bs ++ b }) := by
  unfold putF
  by_cases h : hasN fs n = true
  · rw [if_pos h, if_pos h]
    obtain ⟨f, hf, he⟩ := hasN_at h
    have h1 := usedF_modify fs (plc fs n) (fun f => { f with bs := f.bs ++ b }) f hf
    simp at h1
    refine ⟨atF_sorted hs _ (fun _ => rfl), by omega, by simp [atF], fun g hg => ?_⟩
    rcases mem_at hg with hg | ⟨a, ha, hg⟩
    · exact .inl hg
    · exact .inr ⟨a, .inl ha, hg⟩
  · have h0 : hasN fs n = false := by simpa using h
    rw [if_neg h, if_neg h]
    obtain ⟨hp, hat⟩ := plc_ins (f := ⟨n, [], 0⟩) hs h0
    have h1 := usedF_modify (insF fs ⟨n, [], 0⟩) (plc fs n) (fun f => { f with bs := f.bs ++ b }) ⟨n, [], 0⟩ hat
    rw [usedF_ins] at h1
    simp at h1
    refine ⟨atF_sorted (insF_sorted hs h0) _ (fun _ => rfl), by omega, by simp [atF, insF_len], fun g hg => ?_⟩
    rcases mem_at hg with hg | ⟨a, ha, hg⟩
    · rcases mem_ins hg with hg | hg
      · obtain ⟨j, hj⟩ := List.getElem?_of_mem ‹g ∈ atF _ _ _›
        rw [atF_get] at hj
        split at hj
        · rename_i e
          subst e
          rw [hat] at hj
          exact .inr ⟨⟨n, [], 0⟩, .inr rfl, by simpa using hj.symm⟩
        · have := getF_place (insF_sorted hs h0) hj (by rw [hg]; exact eqN_refl n)
          rename_i e
          exact absurd (hp.symm.trans this.symm) e
      · exact .inl hg
    · rcases mem_ins ha with ha | ha
      · exact .inr ⟨a, .inr ha, hg⟩
      · exact .inr ⟨a, .inl ha, hg⟩
theorem dAppend_ok {st : DkSt} (h : DkOk st) (n : ByteArray) (b : List UInt8) : DkOk (dAppend st n b).1 := by
  unfold dAppend
  split
  · exact h
  split
  · exact h
  split
  · exact h
  · rename_i hc
    obtain ⟨h1, h2, h3, h4⟩ := putF_facts h.sorted n b
    have hm := h.many
    refine dDeed_ok h h1 ?_ ?_ ?_
    · rw [h3]
      split
      · omega
      · rename_i hn
        have : ¬ st.fs.length = 200 := fun e => hc (.inr ⟨by simpa using hn, e⟩)
        omega
    · rw [h2]
      have : ¬ st.room < (usedF st.fs : Int) + b.length := fun e => hc (.inl e)
      omega
    · intro f hf
      rcases h4 f hf with hf | ⟨a, ha, rfl⟩
      · exact h.safe f hf
      · rcases ha with ha | rfl
        · have := h.safe a ha
          simp
          omega
        · simp
theorem dSync_ok {st : DkSt} (h : DkOk st) (n : ByteArray) : DkOk (dSync st n).1 := by
  unfold dSync
  split
  · exact h
  split
  · exact h
  · rename_i hd hn
    obtain ⟨f, hf, he⟩ := hasN_at (by simpa using hn)
    have h1 := usedF_modify st.fs (plc st.fs n) (fun f => { f with sf := f.bs.length }) f hf
    simp at h1
    refine dDeed_ok h (atF_sorted h.sorted _ (fun _ => rfl)) (by simp [atF]; exact h.many) (by rw [h1]; exact h.used) fun g hg => ?_
    rcases mem_at hg with hg | ⟨a, ha, rfl⟩
    · exact h.safe g hg
    · simp
end Go.Proofs.YthehpafkaefohaaDoor
namespace Go.Proofs.YthehpafkaefohaaDoor
theorem parse_append (l m : List UInt8) : ∀ (acc u : Nat), Lib.parseUint10 acc l = .ok u → Lib.parseUint10 acc (l ++ m) = Lib.parseUint10 u m := by
  induction l with
  | nil => intro acc u h; simp only [Lib.parseUint10] at h; injection h with h; subst h; rfl
  | cons c r ih =>
    intro acc u h
    simp only [Lib.parseUint10, List.cons_append] at h ⊢
    split at h
    · split at h
      · cases h
      · split at h
        · cases h
        · rename_i h1 h2 h3
          rw [if_pos h1, if_neg h2, if_neg h3]
          exact ih _ _ h
    · cases h
theorem digit_nat {i : Nat} (h : i < 10) : (UInt8.ofNat (48 + i)).toNat = 48 + i := by
  rw [UInt8.toNat_ofNat']
  omega
theorem parse_one {i acc : Nat} (h : i < 10) (ha : acc * 10 + i < 18446744073709551616) (ha2 : acc < 1844674407370955162) : Lib.parseUint10 acc [UInt8.ofNat (48 + i)] = .ok (acc * 10 + i) := by
  simp only [Lib.parseUint10, digit_nat h]
  rw [if_pos (by omega), if_neg (by omega), if_neg (by omega)]
  congr 1
  omega
/-- digits are read as what they are written of -/
theorem parse_dec (n : Nat) (h : n < 9223372036854775808) : Lib.parseUint10 0 (Lib.decDigits n) = .ok n := by
  induction n using Nat.strongRecOn with
  | ind n ih =>
    rw [Lib.decDigits]
    split
    · rename_i h1
      rw [parse_one h1 (by omega) (by omega)]
      simp
    · rename_i h1
      rw [parse_append _ _ 0 _ (ih (n / 10) (by omega) (by omega)), parse_one (by omega) (by omega) (by omega)]
      congr 1
      omega
theorem dec_head (n : Nat) : ∃ i r, i < 10 ∧ Lib.decDigits n = UInt8.ofNat (48 + i) :: r := by
  induction n using Nat.strongRecOn with
  | ind n ih =>
    rw [Lib.decDigits]
    split
    · rename_i h1
      exact ⟨n, [], h1, rfl⟩
    · obtain ⟨i, r, h2, h3⟩ := ih (n / 10) (by omega)
      exact ⟨i, r ++ [_], h2, by rw [h3]; rfl⟩
theorem atoi_itoa {n : Int} (h0 : 0 ≤ n) (h1 : n < 9223372036854775808) : Lib.atoiAll (Lib.itoa n) = .ok n := by
  obtain ⟨k, rfl⟩ := Int.eq_ofNat_of_zero_le h0
  unfold Lib.itoa
  rw [if_neg (by omega), Int.toNat_natCast]
  have hp := parse_dec k (by omega)
  obtain ⟨i, r, hi, hd⟩ := dec_head k
  rw [hd] at hp ⊢
  have hc := digit_nat hi
  unfold Lib.atoiAll
  simp only [hc]
  rw [if_neg (by omega)]
  unfold Lib.parseMag
  rw [if_neg (by simp), hp]
  simp only
  rw [if_neg (by omega), if_neg (by omega), if_neg (by omega)]
theorem itoa_inj {a b : Int} (h0 : 0 ≤ a) (h1 : a < 9223372036854775808) (k0 : 0 ≤ b) (k1 : b < 9223372036854775808) (h : Lib.itoa a = Lib.itoa b) : a = b := by
  have h2 := atoi_itoa h0 h1
  rw [h, atoi_itoa k0 k1] at h2
  injection h2 with h2
  exact h2.symm
theorem dec_okC (n : Nat) : (Lib.decDigits n).all okC = true := by
  induction n using Nat.strongRecOn with
  | ind n ih =>
    have hd : ∀ i, i < 10 → okC (UInt8.ofNat (48 + i)) = true := by decide
    rw [Lib.decDigits]
    split
    · rename_i h1
      simpa using hd n h1
    · rw [List.all_append, ih (n / 10) (by omega)]
      simpa using hd (n % 10) (by omega)
theorem dec_len (n k : Nat) (h : n < 10 ^ k) (hk : 1 ≤ k) : (Lib.decDigits n).length ≤ k := by
  induction k generalizing n with
  | zero => omega
  | succ k ih =>
    rw [Lib.decDigits]
    split
    · simp
    · rename_i h1
      rw [List.length_append]
      have : (Lib.decDigits (n / 10)).length ≤ k := by
        refine ih (n / 10) ?_ ?_
        · rw [Nat.pow_succ] at h; omega
        · rcases Nat.eq_zero_or_pos k with h2 | h2
          · subst h2; simp at h; omega
          · exact h2
      simp
      exact this
def inL (n : Int) : Prop := 1 ≤ n ∧ n ≤ 1152921504606846976
instance (n : Int) : Decidable (inL n) := by unfold inL; infer_instance
/-- a segment's name -/
def nameL (n : Int) : ByteArray := if inL n then ⟨(119 :: Lib.itoa n).toArray⟩ else ⟨#[]⟩
theorem nameL_data {n : Int} (h : inL n) : (nameL n).data.toList = 119 :: Lib.itoa n := by
  unfold nameL
  rw [if_pos h]
theorem nameL_inj {a b : Int} (ha : inL a) (hb : inL b) (h : nameL a = nameL b) : a = b := by
  have h1 := nameL_data ha
  rw [h, nameL_data hb] at h1
  injection h1 with _ h1
  exact itoa_inj (by have := ha.1; omega) (by have := ha.2; omega) (by have := hb.1; omega) (by have := hb.2; omega) h1.symm
theorem nameL_ok {n : Int} (h : inL n) : namedB (nameL n) = true := by
  unfold namedB
  have h1 := nameL_data h
  obtain ⟨k, rfl⟩ := Int.eq_ofNat_of_zero_le (show 0 ≤ n by have := h.1; omega)
  have hi : Lib.itoa (k : Int) = Lib.decDigits k := by unfold Lib.itoa; rw [if_neg (by omega), Int.toNat_natCast]
  have hl := dec_len k 19 (by have := h.2; omega) (by omega)
  have hs : (nameL (k : Int)).size = (Lib.decDigits k).length + 1 := by
    rw [ByteArray.size, ← Array.length_toList, h1, hi]
    simp
  rw [h1, hi, hs]
  have h2 := dec_okC k
  simp only [List.all_cons, h2, Bool.and_true]
  simp
  exact ⟨by decide, by omega⟩
theorem eqN_data {a b : ByteArray} : eqN a b = true ↔ a = b := by
  rw [eqN_iff]
  constructor
  · intro h
    have h2 : ∀ x : ByteArray, x.toList = x.data.toList := fun x => by rw [ByteArray.toList_eq]
    rw [h2, h2] at h
    apply ByteArray.ext
    exact Array.toList_inj.1 h
  · rintro rfl; rfl
end Go.Proofs.YthehpafkaefohaaDoor
namespace Go.Proofs.YthehpafkaefohaaDoor
/-- one bit of the check's register -/
def stepV (r : Nat) : Nat := if r % 2 = 1 then (r / 2) ^^^ 3988292384 else r / 2
def stepsV : Nat → Nat → Nat
  | 0, r => r
  | k + 1, r => stepsV k (stepV r)
def pushV (r : Nat) (x : UInt8) : Nat := stepsV 8 (r ^^^ x.toNat)
def crcV (bs : List UInt8) : Nat := bs.foldl pushV 4294967295 ^^^ 4294967295
def sumB (body : List UInt8) : List UInt8 := [UInt8.ofNat (crcV body / 16777216), UInt8.ofNat (crcV body / 65536), UInt8.ofNat (crcV body / 256), UInt8.ofNat (crcV body)]
def frameB (body : List UInt8) : List UInt8 := uv body.length ++ body ++ sumB body ++ [165]
theorem frameB_len (body : List UInt8) : (frameB body).length = (uv body.length).length + body.length + 5 := by simp [frameB, sumB]; omega
def headB (n : Int) : List UInt8 := frameB (0 :: uv n.toNat)
def batchB (n : Nat) (recs : List (List UInt8)) : List UInt8 := uv n ++ uv recs.length ++ recs.flatMap blobB
/-- the error of a batch -/
def batchE (n : Int) (recs : List (List UInt8)) : Int := if n < 1 ∨ 1152921504606846976 < n ∨ recs.length < 1 ∨ 1000 < recs.length then 2 else if 1048576 < (batchB n.toNat recs).length then 3 else 0
/-- a log -/
structure LgSt where
  size : Int
  firsts : List Int
  last : Int
  acked : Int
  over : Bool
def lastN (l : List Int) : Int := l.getLastD 0
def fileL (lg : LgSt) : ByteArray := nameL (lastN lg.firsts)
def sizeF (dk : DkSt) (n : ByteArray) : Int := ((lookF dk.fs n).bs.length : Int)
def lSyncFile (dk : DkSt) (lg : LgSt) : DkSt × Int := if lg.firsts = [] then (dk, 0) else dSync dk (fileL lg)
def headOr (n : Int) : List UInt8 := if inL n then headB n else []
def lNext (dk : DkSt) (lg : LgSt) (first : Int) : DkSt × LgSt × Int :=
  let a := lSyncFile dk lg
  if a.2 ≠ 0 then (a.1, { lg with over := true }, a.2)
  else
    let b := dAppend a.1 (nameL first) (headOr first)
    if b.2 ≠ 0 then (b.1, { lg with acked := lg.last, over := true }, b.2)
    else (b.1, { lg with acked := lg.last, firsts := lg.firsts ++ [first] }, 0)
def lPut (dk : DkSt) (lg : LgSt) (n : Int) (body : List UInt8) : DkSt × LgSt × Int × Int :=
  let b := dAppend dk (fileL lg) (frameB body)
  if b.2 ≠ 0 then (b.1, { lg with over := true }, 0, b.2) else (b.1, { lg with last := n }, n, 0)
def fullL (dk : DkSt) (lg : LgSt) : Bool := decide (lg.firsts = []) || decide (lg.size ≤ sizeF dk (fileL lg))
def lWrite (dk : DkSt) (lg : LgSt) (recs : List (List UInt8)) : DkSt × LgSt × Int × Int :=
  if lg.over = true then (dk, lg, 0, 17)
  else if batchE (lg.last + 1) recs ≠ 0 then (dk, lg, 0, batchE (lg.last + 1) recs)
  else if fullL dk lg = true then
    let a := lNext dk lg (lg.last + 1)
    if a.2.2 ≠ 0 then (a.1, a.2.1, 0, a.2.2) else lPut a.1 a.2.1 (lg.last + 1) (batchB (lg.last + 1).toNat recs)
  else lPut dk lg (lg.last + 1) (batchB (lg.last + 1).toNat recs)
def lSync (dk : DkSt) (lg : LgSt) : DkSt × LgSt × Int :=
  if lg.over = true then (dk, lg, 17)
  else
    let a := lSyncFile dk lg
    if a.2 ≠ 0 then (a.1, { lg with over := true }, a.2) else (a.1, { lg with acked := lg.last }, 0)
def lFiles (lg : LgSt) : List ByteArray := lg.firsts.map nameL
theorem batchB_len (n : Nat) (recs : List (List UInt8)) (hn : n < 18446744073709551616) (h1 : recs.length ≤ 20) (h2 : ∀ r ∈ recs, r.length ≤ 60) : (batchB n recs).length ≤ 1400 := by
  have e1 := uv_len10 hn
  have e2 : (uv recs.length).length ≤ 10 := uv_len10 (by omega)
  have e3 : ∀ l : List (List UInt8), (∀ r ∈ l, r.length ≤ 60) → (l.flatMap blobB).length ≤ l.length * 61 := by
    intro l
    induction l with
    | nil => intro _; simp
    | cons a l ih =>
      intro h
      have h3 := ih (fun r hr => h r (List.mem_cons_of_mem _ hr))
      have h4 := h a (List.mem_cons_self ..)
      have h5 : (uv a.length).length = 1 := by rw [uv_small (by omega)]; rfl
      simp only [List.flatMap_cons, List.length_append, blobB, List.length_cons, h5]
      omega
  have e4 := e3 recs h2
  unfold batchB
  simp only [List.length_append]
  omega
end Go.Proofs.YthehpafkaefohaaDoor
namespace Go.Proofs.YthehpafkaefohaaDoor
/-- files without how many bytes are safe -/
def strip (fs : List DF) : List DF := fs.map fun f => { f with sf := 0 }
theorem strip_get (fs : List DF) (i : Nat) : (strip fs)[i]? = (fs[i]?).map fun f => { f with sf := 0 } := by unfold strip; rw [List.getElem?_map]
theorem strip_plc (fs : List DF) (n : ByteArray) : plc (strip fs) n = plc fs n := by
  induction fs with
  | nil => rfl
  | cons f fs ih =>
    show plc (_ :: strip fs) n = _
    unfold plc
    rw [ih]
theorem strip_hasN (fs : List DF) (n : ByteArray) : hasN (strip fs) n = hasN fs n := by
  unfold hasN
  rw [strip_plc, strip_get]
  cases fs[plc fs n]? <;> rfl
theorem strip_at (fs : List DF) (i : Nat) (g : DF → DF) (hg : ∀ f, ({ g f with sf := 0 } : DF) = g { f with sf := 0 }) : strip (atF fs i g) = atF (strip fs) i g := by
  apply List.ext_getElem?
  intro j
  rw [strip_get, atF_get, atF_get, strip_get]
  split
  · cases fs[j]? with
    | none => rfl
    | some f => simp [hg]
  · rfl
theorem strip_ins (fs : List DF) (f : DF) (h : f.sf = 0) : strip (insF fs f) = insF (strip fs) f := by
  unfold insF
  rw [strip_plc]
  unfold strip
  rw [List.map_append, List.map_cons, List.map_take, List.map_drop]
  congr 2
  obtain ⟨a, b, c⟩ := f
  simp only at h
  subst h
  rfl
theorem strip_put (fs : List DF) (n : ByteArray) (b : List UInt8) : strip (putF fs n b) = putF (strip fs) n b := by
  unfold putF
  rw [strip_hasN, strip_plc, strip_at _ _ _ (fun _ => rfl)]
  split
  · rfl
  · rw [strip_ins _ _ rfl]
theorem strip_sync (fs : List DF) (i : Nat) : strip (atF fs i fun f => { f with sf := f.bs.length }) = strip fs := by
  apply List.ext_getElem?
  intro j
  rw [strip_get, atF_get, strip_get]
  split
  · cases fs[j]? <;> rfl
  · rfl
theorem strip_look (fs : List DF) (n : ByteArray) : (lookF (strip fs) n).bs = (lookF fs n).bs := by
  unfold lookF
  rw [strip_hasN, strip_plc, strip_get]
  split
  · cases fs[plc fs n]? <;> rfl
  · rfl
/-- a file stands in the files that are longer -/
theorem hasN_put {fs : List DF} (hs : SortedF fs) {n m : ByteArray} (b : List UInt8) (h : hasN fs m = true ∨ m = n) : hasN (putF fs n b) m = true := by
  obtain ⟨h1, _, _, _⟩ := putF_facts hs n b
  rw [hasN_iff h1]
  have keep : ∀ l : List DF, (∃ f ∈ l, eqN f.nm m = true) → ∃ f ∈ atF l (plc fs n) (fun f => { f with bs := f.bs ++ b }), eqN f.nm m = true := by
    rintro l ⟨f, hf, he⟩
    obtain ⟨j, hj⟩ := List.getElem?_of_mem hf
    by_cases e : plc fs n = j
    · exact ⟨{ f with bs := f.bs ++ b }, List.mem_of_getElem? (i := j) (by rw [atF_get, if_pos e, hj]; rfl), he⟩
    · exact ⟨f, List.mem_of_getElem? (i := j) (by rw [atF_get, if_neg e, hj]), he⟩
  unfold putF
  rcases h with h | rfl
  · obtain ⟨f, hf, he⟩ := (hasN_iff hs).1 h
    split
    · exact keep _ ⟨f, hf, he⟩
    · refine keep _ ⟨f, ?_, he⟩
      unfold insF
      have : f ∈ fs.take (plc fs n) ++ fs.drop (plc fs n) := by rw [List.take_append_drop]; exact hf
      rcases List.mem_append.1 this with h2 | h2
      · exact List.mem_append_left _ h2
      · exact List.mem_append_right _ (List.mem_cons_of_mem _ h2)
  · split
    · rename_i h2
      exact keep _ ((hasN_iff hs).1 h2)
    · exact keep _ ⟨⟨m, [], 0⟩, by unfold insF; exact List.mem_append_right _ (List.mem_cons_self ..), eqN_refl _⟩
theorem hasN_sync {fs : List DF} (_hs : SortedF fs) (i : Nat) (m : ByteArray) : hasN (atF fs i fun f => { f with sf := f.bs.length }) m = hasN fs m := by
  rw [← strip_hasN, strip_sync, strip_hasN]
/-- a log on a disk with room, k batches on from number b -/
structure LgI (b : Int) (k : Nat) (dk : DkSt) (lg : LgSt) : Prop where
  ok : DkOk dk
  lit : dk.dark = false
  fuse : dk.fuse = -1
  room : dk.room = 1048576
  few : dk.fs.length ≤ k
  used : usedF dk.fs ≤ k * 1500
  over : lg.over = false
  lo : b ≤ lg.last
  hi : lg.last ≤ b + k
  seg : ∀ n ∈ lg.firsts, b < n ∧ n ≤ lg.last ∧ hasN dk.fs (nameL n) = true
  nfew : lg.firsts.length ≤ k
def smallB (recs : List (List UInt8)) : Prop := 1 ≤ recs.length ∧ recs.length ≤ 20 ∧ ∀ r ∈ recs, r.length ≤ 60
theorem last_mem {l : List Int} (h : l ≠ []) : lastN l ∈ l := by
  unfold lastN
  rw [List.getLastD_eq_getLast?, List.getLast?_eq_some_getLast h]
  exact List.getLast_mem h
theorem dDeed_lit {st : DkSt} (h : st.fuse = -1) (fs' : List DF) : dDeed st fs' = ({ st with fs := fs' }, 0) := by
  unfold dDeed
  rw [h, if_neg (by omega)]
  obtain ⟨a, b, c, d⟩ := st
  simp at h
  simp
theorem append_lit {st : DkSt} (h1 : st.dark = false) (h2 : st.fuse = -1) {n : ByteArray} (hn : namedB n = true) {b : List UInt8} (hu : (usedF st.fs : Int) + b.length ≤ st.room) (hf : st.fs.length < 200) : dAppend st n b = ({ st with fs := putF st.fs n b }, 0) := by
  unfold dAppend
  rw [if_neg (by simp [h1]), if_neg (by simp [hn]), if_neg (by rintro (h | ⟨_, h⟩) <;> omega), dDeed_lit h2]
theorem sync_lit {st : DkSt} (h1 : st.dark = false) (h2 : st.fuse = -1) {n : ByteArray} (hn : hasN st.fs n = true) : dSync st n = ({ st with fs := atF st.fs (plc st.fs n) fun f => { f with sf := f.bs.length } }, 0) := by
  unfold dSync
  rw [if_neg (by simp [h1]), if_neg (by simp [hn]), dDeed_lit h2]
theorem batch_fits {n : Int} {recs : List (List UInt8)} (h0 : 1 ≤ n) (h1 : n ≤ 1152921504606846976) (hr : smallB recs) : batchE n recs = 0 ∧ (frameB (batchB n.toNat recs)).length ≤ 1420 ∧ (headB n).length ≤ 30 := by
  obtain ⟨r1, r2, r3⟩ := hr
  have hl := batchB_len n.toNat recs (by omega) r2 r3
  refine ⟨?_, ?_, ?_⟩
  · unfold batchE
    rw [if_neg (by omega), if_neg (by omega)]
  · rw [frameB_len]
    have : (uv (batchB n.toNat recs).length).length ≤ 10 := uv_len10 (by omega)
    omega
  · unfold headB
    rw [frameB_len]
    have h2 : (uv n.toNat).length ≤ 10 := uv_len10 (by omega)
    simp only [List.length_cons]
    have h3 : (uv ((uv n.toNat).length + 1)).length ≤ 10 := uv_len10 (by omega)
    omega
theorem inL_of {b : Int} {k : Nat} {dk : DkSt} {lg : LgSt} (h : LgI b k dk lg) (hb : 0 ≤ b) (hb2 : b ≤ 1000000000) (hk : k ≤ 100) {n : Int} (h1 : b < n) (h2 : n ≤ lg.last + 1) : inL n := by
  have := h.hi
  exact ⟨by omega, by omega⟩
/-- what a batch that is written comes to -/
theorem write_ok {b : Int} {k : Nat} {dk : DkSt} {lg : LgSt} (h : LgI b k dk lg) (hb : 0 ≤ b) (hb2 : b ≤ 1000000000) (hk : k ≤ 60) {recs : List (List UInt8)} (hr : smallB recs) :
    LgI b (k + 1) (lWrite dk lg recs).1 (lWrite dk lg recs).2.1 ∧ (lWrite dk lg recs).2.2 = (lg.last + 1, 0) ∧ (lWrite dk lg recs).2.1.last = lg.last + 1 ∧
    (lWrite dk lg recs).2.1.firsts = (if fullL dk lg = true then lg.firsts ++ [lg.last + 1] else lg.firsts) ∧ (lWrite dk lg recs).2.1.size = lg.size ∧
    strip (lWrite dk lg recs).1.fs = (if fullL dk lg = true then putF (putF (strip dk.fs) (nameL (lg.last + 1)) (headB (lg.last + 1))) (nameL (lg.last + 1)) (frameB (batchB (lg.last + 1).toNat recs)) else putF (strip dk.fs) (fileL lg) (frameB (batchB (lg.last + 1).toNat recs))) ∧
    ((lWrite dk lg recs).2.1.acked = if fullL dk lg = true then lg.last else lg.acked) := by
  obtain ⟨e1, e2, e3⟩ := batch_fits (n := lg.last + 1) (by have := h.lo; omega) (by have := h.hi; omega) hr
  have hin : inL (lg.last + 1) := inL_of h hb hb2 (by omega) (by have := h.lo; omega) (Int.le_refl _)
  have hnm := nameL_ok hin
  have hroom := h.room
  have hfew := h.few
  have hused := h.used
  have hlo := h.lo
  have hhi := h.hi
  have hsort := h.ok.sorted
  unfold lWrite
  rw [if_neg (by simp [h.over]), if_neg (by simp [e1])]
  by_cases hf : fullL dk lg = true
  · -- a new segment
    rw [if_pos hf]
    have hsy : ∃ fs1, lSyncFile dk lg = ({ dk with fs := fs1 }, 0) ∧ strip fs1 = strip dk.fs ∧ DkOk { dk with fs := fs1 } ∧ fs1.length = dk.fs.length ∧ usedF fs1 = usedF dk.fs ∧ ∀ m, hasN fs1 m = hasN dk.fs m := by
      unfold lSyncFile
      by_cases hn : lg.firsts = []
      · rw [if_pos hn]
        exact ⟨dk.fs, rfl, rfl, h.ok, rfl, rfl, fun _ => rfl⟩
      · rw [if_neg hn]
        have hm := (h.seg _ (last_mem hn)).2.2
        have hs := sync_lit (n := fileL lg) h.lit h.fuse hm
        refine ⟨_, hs, strip_sync _ _, ?_, by simp [atF], ?_, fun m => hasN_sync hsort _ m⟩
        · have := dSync_ok h.ok (fileL lg)
          rw [hs] at this
          exact this
        · obtain ⟨f, hf1, _⟩ := hasN_at hm
          have := usedF_modify dk.fs (plc dk.fs (nameL (lastN lg.firsts))) (fun f => { f with sf := f.bs.length }) f hf1
          simp at this
          exact this
    obtain ⟨fs1, s1, s2, s3, s4, s5, s6⟩ := hsy
    have a1 : dAppend { dk with fs := fs1 } (nameL (lg.last + 1)) (headB (lg.last + 1)) = ({ dk with fs := putF fs1 (nameL (lg.last + 1)) (headB (lg.last + 1)) }, 0) :=
      append_lit (st := { dk with fs := fs1 }) h.lit h.fuse hnm (by show (usedF fs1 : Int) + _ ≤ dk.room; omega) (by show fs1.length < 200; omega)
    have s3s : SortedF fs1 := s3.sorted
    have p1 := putF_facts s3s (nameL (lg.last + 1)) (headB (lg.last + 1))
    have o1 : DkOk { dk with fs := putF fs1 (nameL (lg.last + 1)) (headB (lg.last + 1)) } := by
      have := dAppend_ok s3 (nameL (lg.last + 1)) (headB (lg.last + 1))
      rw [a1] at this
      exact this
    have hN : lNext dk lg (lg.last + 1) = ({ dk with fs := putF fs1 (nameL (lg.last + 1)) (headB (lg.last + 1)) }, { lg with acked := lg.last, firsts := lg.firsts ++ [lg.last + 1] }, 0) := by
      unfold lNext headOr
      rw [s1, if_pos hin]
      simp [a1]
    have hlen : (putF fs1 (nameL (lg.last + 1)) (headB (lg.last + 1))).length ≤ k + 1 := by
      rw [p1.2.2.1]
      split <;> omega
    have a2 : dAppend { dk with fs := putF fs1 (nameL (lg.last + 1)) (headB (lg.last + 1)) } (nameL (lg.last + 1)) (frameB (batchB (lg.last + 1).toNat recs)) = ({ dk with fs := putF (putF fs1 (nameL (lg.last + 1)) (headB (lg.last + 1))) (nameL (lg.last + 1)) (frameB (batchB (lg.last + 1).toNat recs)) }, 0) :=
      append_lit (st := { dk with fs := putF fs1 (nameL (lg.last + 1)) (headB (lg.last + 1)) }) h.lit h.fuse hnm (by have := p1.2.1; show (usedF (putF fs1 _ _) : Int) + _ ≤ dk.room; omega) (by show (putF fs1 _ _).length < 200; omega)
    have hfile : fileL { lg with acked := lg.last, firsts := lg.firsts ++ [lg.last + 1] } = nameL (lg.last + 1) := by
      unfold fileL lastN
      simp
    have hP : lPut { dk with fs := putF fs1 (nameL (lg.last + 1)) (headB (lg.last + 1)) } { lg with acked := lg.last, firsts := lg.firsts ++ [lg.last + 1] } (lg.last + 1) (batchB (lg.last + 1).toNat recs) =
        ({ dk with fs := putF (putF fs1 (nameL (lg.last + 1)) (headB (lg.last + 1))) (nameL (lg.last + 1)) (frameB (batchB (lg.last + 1).toNat recs)) }, { lg with acked := lg.last, firsts := lg.firsts ++ [lg.last + 1], last := lg.last + 1 }, lg.last + 1, 0) := by
      unfold lPut
      rw [hfile, a2]
      simp
    have p2 := putF_facts p1.1 (nameL (lg.last + 1)) (frameB (batchB (lg.last + 1).toNat recs))
    have o2 : DkOk { dk with fs := putF (putF fs1 (nameL (lg.last + 1)) (headB (lg.last + 1))) (nameL (lg.last + 1)) (frameB (batchB (lg.last + 1).toNat recs)) } := by
      have := dAppend_ok o1 (nameL (lg.last + 1)) (frameB (batchB (lg.last + 1).toNat recs))
      rw [a2] at this
      exact this
    have hin1 : hasN (putF fs1 (nameL (lg.last + 1)) (headB (lg.last + 1))) (nameL (lg.last + 1)) = true := hasN_put s3s _ (.inr rfl)
    simp only [hN, hP]
    rw [if_neg (by simp)]
    refine ⟨⟨o2, h.lit, h.fuse, h.room, ?_, ?_, h.over, by show b ≤ lg.last + 1; omega, by show lg.last + 1 ≤ b + (k + 1 : Nat); omega, ?_, ?_⟩, rfl, rfl, ?_, rfl, ?_, ?_⟩
    · show (putF _ _ _).length ≤ k + 1
      rw [p2.2.2.1, if_pos hin1]
      omega
    · show usedF (putF _ _ _) ≤ _
      rw [p2.2.1, p1.2.1]
      omega
    · intro n hn
      rcases List.mem_append.1 hn with hn | hn
      · obtain ⟨g1, g2, g3⟩ := h.seg n hn
        exact ⟨g1, by show n ≤ lg.last + 1; omega, hasN_put p1.1 _ (.inl (hasN_put s3s _ (.inl (by rw [s6]; exact g3))))⟩
      · have : n = lg.last + 1 := by simpa using hn
        subst this
        exact ⟨by omega, Int.le_refl _, hasN_put p1.1 _ (.inr rfl)⟩
    · show (lg.firsts ++ [lg.last + 1]).length ≤ k + 1
      have := h.nfew
      simp
      exact this
    · rw [if_pos hf]
    · rw [if_pos hf]
      show strip (putF _ _ _) = _
      rw [strip_put, strip_put, s2]
    · rw [if_pos hf]
  · rw [if_neg hf]
    have hne : lg.firsts ≠ [] := fun e => hf (by unfold fullL; simp [e])
    have hm := (h.seg _ (last_mem hne))
    have hfn := nameL_ok (inL_of h hb hb2 (by omega) hm.1 (by omega))
    have a2 : dAppend dk (fileL lg) (frameB (batchB (lg.last + 1).toNat recs)) = ({ dk with fs := putF dk.fs (fileL lg) (frameB (batchB (lg.last + 1).toNat recs)) }, 0) :=
      append_lit h.lit h.fuse hfn (by omega) (by omega)
    have hP : lPut dk lg (lg.last + 1) (batchB (lg.last + 1).toNat recs) = ({ dk with fs := putF dk.fs (fileL lg) (frameB (batchB (lg.last + 1).toNat recs)) }, { lg with last := lg.last + 1 }, lg.last + 1, 0) := by
      unfold lPut
      rw [a2]
      simp
    have p2 := putF_facts hsort (fileL lg) (frameB (batchB (lg.last + 1).toNat recs))
    have o2 : DkOk { dk with fs := putF dk.fs (fileL lg) (frameB (batchB (lg.last + 1).toNat recs)) } := by
      have := dAppend_ok h.ok (fileL lg) (frameB (batchB (lg.last + 1).toNat recs))
      rw [a2] at this
      exact this
    rw [hP]
    refine ⟨⟨o2, h.lit, h.fuse, h.room, ?_, ?_, h.over, by show b ≤ lg.last + 1; omega, by show lg.last + 1 ≤ b + (k + 1 : Nat); omega, ?_, by have := h.nfew; show lg.firsts.length ≤ k + 1; omega⟩, rfl, rfl, ?_, rfl, ?_, ?_⟩
    · show (putF _ _ _).length ≤ k + 1
      rw [p2.2.2.1, show hasN dk.fs (fileL lg) = true from hm.2.2, if_pos rfl]
      omega
    · show usedF (putF _ _ _) ≤ _
      rw [p2.2.1]
      omega
    · intro n hn
      obtain ⟨g1, g2, g3⟩ := h.seg n hn
      exact ⟨g1, by show n ≤ lg.last + 1; omega, hasN_put hsort _ (.inl g3)⟩
    · rw [if_neg hf]
    · rw [if_neg hf]
      show strip (putF _ _ _) = _
      rw [strip_put]
    · rw [if_neg hf]
/-- what a Sync comes to -/
theorem sync_ok {b : Int} {k : Nat} {dk : DkSt} {lg : LgSt} (h : LgI b k dk lg) :
    LgI b k (lSync dk lg).1 (lSync dk lg).2.1 ∧ (lSync dk lg).2.2 = 0 ∧ (lSync dk lg).2.1 = { lg with acked := lg.last } ∧ strip (lSync dk lg).1.fs = strip dk.fs := by
  unfold lSync
  rw [if_neg (by simp [h.over])]
  unfold lSyncFile
  by_cases hn : lg.firsts = []
  · rw [if_pos hn]
    simp only [ne_eq, not_true_eq_false, if_false]
    exact ⟨⟨h.ok, h.lit, h.fuse, h.room, h.few, h.used, h.over, h.lo, h.hi, h.seg, h.nfew⟩, trivial, trivial, trivial⟩
  · rw [if_neg hn]
    have hm := (h.seg _ (last_mem hn)).2.2
    have hs := sync_lit (n := fileL lg) h.lit h.fuse hm
    have ho := dSync_ok h.ok (fileL lg)
    rw [hs] at ho ⊢
    simp only [ne_eq, not_true_eq_false, if_false]
    obtain ⟨f, hf1, _⟩ := hasN_at hm
    have hu := usedF_modify dk.fs (plc dk.fs (fileL lg)) (fun f => { f with sf := f.bs.length }) f hf1
    simp at hu
    refine ⟨⟨ho, h.lit, h.fuse, h.room, by simp [atF]; exact h.few, by rw [hu]; exact h.used, h.over, h.lo, h.hi, fun n hn2 => ?_, h.nfew⟩, trivial, trivial, strip_sync _ _⟩
    obtain ⟨g1, g2, g3⟩ := h.seg n hn2
    exact ⟨g1, g2, by rw [hasN_sync h.ok.sorted]; exact g3⟩
end Go.Proofs.YthehpafkaefohaaDoor
namespace Go.Proofs.YthehpafkaefohaaDoor
theorem dDeed_err (st : DkSt) (fs' : List DF) : (dDeed st fs').2 = 0 ∨ (dDeed st fs').2 = 15 := by
  unfold dDeed
  split
  · exact .inr rfl
  · exact .inl rfl
theorem append_err (st : DkSt) (n : ByteArray) (b : List UInt8) : (dAppend st n b).2 = 0 ∨ (dAppend st n b).2 = 5 ∨ (dAppend st n b).2 = 15 ∨ (dAppend st n b).2 = 16 := by
  unfold dAppend
  split
  · simp
  split
  · simp
  split
  · simp
  · rcases dDeed_err st (putF st.fs n b) with h | h <;> rw [h] <;> simp
theorem sync_err (st : DkSt) (n : ByteArray) : (dSync st n).2 = 0 ∨ (dSync st n).2 = 15 ∨ (dSync st n).2 = 16 := by
  unfold dSync
  split
  · simp
  split
  · simp
  · rcases dDeed_err st (atF st.fs (plc st.fs n) fun f => { f with sf := f.bs.length }) with h | h <;> rw [h] <;> simp
theorem syncFile_ok {dk : DkSt} (h : DkOk dk) (lg : LgSt) : DkOk (lSyncFile dk lg).1 := by
  unfold lSyncFile
  split
  · exact h
  · exact dSync_ok h _
/-- how a step of a log ends: over just if there is an error; the number, the batches of old -/
structure Ends (lg lg' : LgSt) (e : Int) : Prop where
  over : e = 0 ↔ lg'.over = false
  size : lg'.size = lg.size
  lo : lg.last ≤ lg'.last
  hi : lg'.last ≤ lg.last + 1
  range : e = 0 ∨ e = 5 ∨ e = 15 ∨ e = 16
theorem next_end {dk : DkSt} {lg : LgSt} (h : DkOk dk) (ho : lg.over = false) (n : Int) : DkOk (lNext dk lg n).1 ∧ Ends lg (lNext dk lg n).2.1 (lNext dk lg n).2.2 ∧ (lNext dk lg n).2.1.last = lg.last := by
  have h1 := syncFile_ok h lg
  have h2 := dAppend_ok h1 (nameL n) (headOr n)
  have e1 : (lSyncFile dk lg).2 = 0 ∨ (lSyncFile dk lg).2 = 15 ∨ (lSyncFile dk lg).2 = 16 := by
    unfold lSyncFile
    split
    · exact .inl rfl
    · exact sync_err _ _
  have e2 := append_err (lSyncFile dk lg).1 (nameL n) (headOr n)
  unfold lNext
  simp only
  by_cases c1 : (lSyncFile dk lg).2 ≠ 0
  · rw [if_pos c1]
    exact ⟨h1, ⟨⟨fun e => absurd e c1, fun e => by cases e⟩, rfl, Int.le_refl _, by simp; omega, by rcases e1 with e | e | e <;> simp [e]⟩, rfl⟩
  · rw [if_neg c1]
    by_cases c2 : (dAppend (lSyncFile dk lg).1 (nameL n) (headOr n)).2 ≠ 0
    · rw [if_pos c2]
      exact ⟨h2, ⟨⟨fun e => absurd e c2, fun e => by cases e⟩, rfl, Int.le_refl _, by simp; omega, e2⟩, rfl⟩
    · rw [if_neg c2]
      exact ⟨h2, ⟨⟨fun _ => ho, fun _ => rfl⟩, rfl, Int.le_refl _, by simp; omega, .inl rfl⟩, rfl⟩
theorem put_end {dk : DkSt} {lg : LgSt} (h : DkOk dk) (ho : lg.over = false) (body : List UInt8) : DkOk (lPut dk lg (lg.last + 1) body).1 ∧ Ends lg (lPut dk lg (lg.last + 1) body).2.1 (lPut dk lg (lg.last + 1) body).2.2.2 := by
  have h2 := dAppend_ok h (fileL lg) (frameB body)
  have e2 := append_err dk (fileL lg) (frameB body)
  unfold lPut
  simp only
  by_cases c2 : (dAppend dk (fileL lg) (frameB body)).2 ≠ 0
  · rw [if_pos c2]
    exact ⟨h2, ⟨⟨fun e => absurd e c2, fun e => by cases e⟩, rfl, Int.le_refl _, by simp; omega, e2⟩⟩
  · rw [if_neg c2]
    exact ⟨h2, ⟨⟨fun _ => ho, fun _ => rfl⟩, rfl, by simp; omega, Int.le_refl _, .inl rfl⟩⟩
theorem write_end {dk : DkSt} {lg : LgSt} (h : DkOk dk) (ho : lg.over = false) {recs : List (List UInt8)} (hb : batchE (lg.last + 1) recs = 0) : DkOk (lWrite dk lg recs).1 ∧ Ends lg (lWrite dk lg recs).2.1 (lWrite dk lg recs).2.2.2 := by
  unfold lWrite
  rw [if_neg (by simp [ho]), if_neg (by simp [hb])]
  split
  · obtain ⟨a1, a2, a3⟩ := next_end h ho (lg.last + 1)
    simp only
    by_cases c : (lNext dk lg (lg.last + 1)).2.2 ≠ 0
    · rw [if_pos c]
      exact ⟨a1, a2⟩
    · rw [if_neg c]
      have ho2 : (lNext dk lg (lg.last + 1)).2.1.over = false := a2.over.1 (Classical.not_not.1 c)
      have b := put_end a1 ho2 (batchB (lg.last + 1).toNat recs)
      rw [a3] at b
      refine ⟨b.1, ⟨b.2.over, b.2.size.trans a2.size, by have := b.2.lo; omega, by have := b.2.hi; omega, b.2.range⟩⟩
  · exact put_end h ho _
theorem sync_end {dk : DkSt} {lg : LgSt} (h : DkOk dk) (ho : lg.over = false) : DkOk (lSync dk lg).1 ∧ Ends lg (lSync dk lg).2.1 (lSync dk lg).2.2 ∧ (lSync dk lg).2.1.last = lg.last := by
  have h1 := syncFile_ok h lg
  have e1 : (lSyncFile dk lg).2 = 0 ∨ (lSyncFile dk lg).2 = 15 ∨ (lSyncFile dk lg).2 = 16 := by
    unfold lSyncFile
    split
    · exact .inl rfl
    · exact sync_err _ _
  unfold lSync
  rw [if_neg (by simp [ho])]
  simp only
  by_cases c : (lSyncFile dk lg).2 ≠ 0
  · rw [if_pos c]
    exact ⟨h1, ⟨⟨fun e => absurd e c, fun e => by cases e⟩, rfl, Int.le_refl _, by simp; omega, by rcases e1 with e | e | e <;> simp [e]⟩, rfl⟩
  · rw [if_neg c]
    exact ⟨h1, ⟨⟨fun _ => ho, fun _ => rfl⟩, rfl, Int.le_refl _, by simp; omega, .inl rfl⟩, rfl⟩
/-- the same files but for what is safe: the same goes on -/
theorem full_strip {dk dk' : DkSt} {lg lg' : LgSt} (h : strip dk.fs = strip dk'.fs) (h1 : lg.firsts = lg'.firsts) (h2 : lg.size = lg'.size) : fullL dk lg = fullL dk' lg' := by
  unfold fullL sizeF fileL
  rw [h1, h2, ← strip_look dk.fs, ← strip_look dk'.fs, h]
theorem look_strip {dk dk' : DkSt} (h : strip dk.fs = strip dk'.fs) (n : ByteArray) : (lookF dk.fs n).bs = (lookF dk'.fs n).bs ∧ hasN dk.fs n = hasN dk'.fs n := by
  rw [← strip_look dk.fs, ← strip_look dk'.fs, h, ← strip_hasN dk.fs, ← strip_hasN dk'.fs, h]
  exact ⟨rfl, rfl⟩
end Go.Proofs.YthehpafkaefohaaDoor
namespace Go.Proofs.YthehpafkaefohaaDoor
def aD0 : DkSt := ⟨[], 1000, -1, false⟩
def aL0 : LgSt := ⟨64, [], 0, 0, false⟩
def aR1 : List (List UInt8) := [[97], []]
def aR2 : List (List UInt8) := [[48, 49, 50, 51, 52, 53, 54, 55, 56, 57, 48, 49, 50, 51, 52, 53, 54, 55, 56, 57, 48, 49, 50, 51, 52, 53, 54, 55, 56, 57, 48, 49, 50, 51, 52, 53, 54, 55, 56, 57, 48, 49, 50, 51, 52, 53]]
def aR3 : List (List UInt8) := [[99]]
def aW1 := lWrite aD0 aL0 aR1
def aS1 := lSync aW1.1 aW1.2.1
def aW2 := lWrite aS1.1 aS1.2.1 aR2
def aW3 := lWrite aW2.1 aW2.2.1 aR3
def w1N : ByteArray := ⟨#[119, 49]⟩
def w3N : ByteArray := ⟨#[119, 51]⟩
theorem aw1 : aW1.2.2 = (1, 0) ∧ aW1.2.1.acked = 0 ∧ aW1.2.1.last = 1 ∧ (lookF aW1.1.fs w1N).bs.length = 19 ∧ aW1.2.1.over = false := by decide +kernel
theorem as1 : aS1.2.2 = 0 ∧ aS1.2.1.acked = 1 ∧ (lookF aS1.1.fs w1N).sf = 19 ∧ aS1.2.1.over = false := by decide +kernel
theorem aw2 : aW2.2.2 = (2, 0) ∧ aW2.2.1.over = false := by decide +kernel
theorem aw3 : aW3.2.2 = (3, 0) ∧ aW3.2.1.over = false ∧ aW3.2.1.firsts = [1, 3] ∧ aW3.2.1.acked = 2 ∧ aW3.2.1.last = 3 := by decide +kernel
theorem abytes : batchB 1 aR1 = [1, 2, 1, 97, 0] ∧ batchE 1 aR1 = 0 := by decide +kernel
theorem aname : nameL 7 = ⟨#[119, 55]⟩ ∧ nameL 1 = w1N ∧ nameL 3 = w3N := by decide +kernel
end Go.Proofs.YthehpafkaefohaaDoor
namespace Go.Proofs.YthehpafkaefohaaDoor
theorem aOk0 : DkOk aD0 := ⟨List.Pairwise.nil, by simp [aD0], by simp [aD0, usedF], by simp [aD0], by simp [aD0], fun f hf => by simp [aD0] at hf⟩
theorem aE1 : batchE (aL0.last + 1) aR1 = 0 := by decide +kernel
theorem aE2 : batchE (aS1.2.1.last + 1) aR2 = 0 := by decide +kernel
theorem aE3 : batchE (aW2.2.1.last + 1) aR3 = 0 := by decide +kernel
theorem aOk1 : DkOk aW1.1 := (write_end aOk0 rfl aE1).1
theorem aOkS : DkOk aS1.1 := (sync_end aOk1 aw1.2.2.2.2).1
theorem aOk2 : DkOk aW2.1 := (write_end aOkS as1.2.2.2 aE2).1
theorem aOk3 : DkOk aW3.1 := (write_end aOk2 aw2.2 aE3).1
theorem aFit1 : (usedF aD0.fs : Int) + 30 + (frameB (batchB (aL0.last + 1).toNat aR1)).length ≤ aD0.room := by decide +kernel
theorem aFit2 : (usedF aS1.1.fs : Int) + 30 + (frameB (batchB (aS1.2.1.last + 1).toNat aR2)).length ≤ aS1.1.room := by decide +kernel
theorem aFit3 : (usedF aW2.1.fs : Int) + 30 + (frameB (batchB (aW2.2.1.last + 1).toNat aR3)).length ≤ aW2.1.room := by decide +kernel
theorem aFu1 : aW1.1.fuse = -1 := by decide +kernel
theorem aFuS : aS1.1.fuse = -1 := by decide +kernel
theorem aFu2 : aW2.1.fuse = -1 := by decide +kernel
theorem aFu3 : aW3.1.fuse = -1 := by decide +kernel
theorem aLs : aS1.2.1.last = 1 ∧ aS1.2.1.firsts = [1] := by decide +kernel
theorem aL2 : aW2.2.1.last = 2 ∧ aW2.2.1.firsts = [1] := by decide +kernel
theorem aL3 : lFiles aW3.2.1 = [w1N, w3N] := by unfold lFiles; rw [aw3.2.2.1]; simp only [List.map_cons, List.map_nil]; rw [aname.2.1, aname.2.2]
theorem aE4 : batchE (aW3.2.1.last + 1) [] = 2 := by decide +kernel
theorem aW4 : lWrite aW3.1 aW3.2.1 [] = (aW3.1, aW3.2.1, 0, 2) := by
  unfold lWrite
  rw [if_neg (by rw [aw3.2.1]; decide), if_pos (by rw [aE4]; decide), aE4]
end Go.Proofs.YthehpafkaefohaaDoor

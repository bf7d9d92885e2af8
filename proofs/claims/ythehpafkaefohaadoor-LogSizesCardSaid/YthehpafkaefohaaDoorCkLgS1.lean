/- Two disks and their logs, side by side. Conditions: none. -/
import Derived.Test.YthehpafkaefohaaDoorCkM28
import Derived.Test.YthehpafkaefohaaDoorCkM26
import Derived.Test.YthehpafkaefohaaDoorCkLgSz
import Derived.Test.YthehpafkaefohaaDoorCkM19
namespace Go.Proofs.YthehpafkaefohaaDoor
open Go.RowKit
/-- a disk and its log stay where other blocks turn -/
theorem LB.keepC {w w' : World} {d l : Nat} {dk : DkSt} {lg : LgSt} {S U : List Nat} (h : LB w d l dk lg S) (hc : ChgS U w w') (hx : ∀ x ∈ U, x ∉ S) (hu : ∀ x ∈ U, ∀ cs T fr, w.heap[x]? = some (.cells cs T fr) → T ≠ 5) : LB w' d l dk lg S := by
  obtain ⟨v, u, a1, a2, rfl⟩ := h
  refine ⟨v, u, a1.keep hc (fun x h1 h3 => hx x h1 (List.mem_append_left _ h3)) hu, a2.keep hc (fun x h1 => ?_), rfl⟩
  have := hx x h1
  simp at this
  exact ⟨this.2.1, fun e => this.2.2 e.symm⟩
/-- a cell of a block of another type is set -/
theorem AX.setOut {w w1 : World} {d l : Nat} {dk : DkSt} {lg : LgSt} {S : List Nat} (h : AX w w1 d l dk lg S) {b o : Nat} {z : Value} {cs : Array Value} {T : TypeId} (hb : w1.heap[b]? = some (.cells cs T)) (hge : w.heap.size ≤ b) (hT : T ≠ 52 ∧ T ≠ 58 ∧ T ≠ 56 ∧ T ≠ 3) (hu : T ≠ 5) : AX w (w1.setCell ⟨b, o, none⟩ z) d l dk lg S := by
  have hc : ChgS [b] w1 (w1.setCell ⟨b, o, none⟩ z) := (ChgS.refl _ w1).set (.inl (by simp)) o z
  refine ⟨h.gk, h.lb.keepC hc (fun x hx => ?_) (fun x hx cs' T' fr hh => ?_), below_set h.be hge o z, h.ge⟩
  · have : x = b := by simpa using hx
    rw [this]; exact h.lb.out hb hT
  · have : x = b := by simpa using hx
    subst this
    rw [hb] at hh
    injection hh with hh
    injection hh with _ hh
    rw [← hh]; exact hu
/-- a new disk and a new log of it -/
theorem AX.open {w w0 w1 w2 : World} {st : DkSt} {lg : LgSt} {l : Nat} {S : List Nat} (hg : GOK w) (h0 : Below w.heap.size w w0) (hb1 : Below w0.heap.size w0 w1) (hlb : LB w2 w0.heap.size l st lg S) (hsub : ∀ x ∈ S, x ∈ dkS w0.heap.size (.slice none 0 0) ∨ w1.heap.size ≤ x) (hc : ChgS (dkS w0.heap.size (.slice none 0 0)) w1 w2) : AX w w2 w0.heap.size l st lg S ∧ (∀ x ∈ S, w0.heap.size ≤ x) ∧ Below w0.heap.size w0 w2 := by
  have hd : ∀ x ∈ dkS w0.heap.size (.slice none 0 0), w0.heap.size ≤ x := fun x hx => by
    have : x = w0.heap.size := by simpa [dkS, Value.ownBlock] using hx
    omega
  have hb2 : Below w0.heap.size w0 w2 := hb1.trans (hc.below hd hb1.size)
  have hge : ∀ x ∈ S, w0.heap.size ≤ x := fun x hx => by
    rcases hsub x hx with h | h
    · exact hd x h
    · exact Nat.le_trans hb1.size h
  exact ⟨⟨hg, hlb, h0.trans (hb2.mono h0.size), fun x hx => Nat.le_trans h0.size (hge x hx)⟩, hge, hb2⟩
structure AY (w w1 : World) (d0 l0 : Nat) (k0 : DkSt) (g0 : LgSt) (S0 : List Nat) (d1 l1 : Nat) (k1 : DkSt) (g1 : LgSt) (S1 : List Nat) : Prop where
  a : AX w w1 d0 l0 k0 g0 S0
  b : AX w w1 d1 l1 k1 g1 S1
  dj : ∀ x ∈ S0, x ∉ S1
theorem AY.swap {w w1 : World} {d0 l0 : Nat} {k0 : DkSt} {g0 : LgSt} {S0 : List Nat} {d1 l1 : Nat} {k1 : DkSt} {g1 : LgSt} {S1 : List Nat} (h : AY w w1 d0 l0 k0 g0 S0 d1 l1 k1 g1 S1) : AY w w1 d1 l1 k1 g1 S1 d0 l0 k0 g0 S0 := ⟨h.b, h.a, fun x hx hm => h.dj x hm hx⟩
theorem AY.below {w w1 w2 : World} {d0 l0 : Nat} {k0 : DkSt} {g0 : LgSt} {S0 : List Nat} {d1 l1 : Nat} {k1 : DkSt} {g1 : LgSt} {S1 : List Nat} (h : AY w w1 d0 l0 k0 g0 S0 d1 l1 k1 g1 S1) (hb : Below w1.heap.size w1 w2) : AY w w2 d0 l0 k0 g0 S0 d1 l1 k1 g1 S1 := ⟨h.a.below hb, h.b.below hb, h.dj⟩
theorem AY.step {w w1 w2 : World} {d0 l0 : Nat} {k0 : DkSt} {g0 : LgSt} {S0 : List Nat} {d1 l1 : Nat} {k1 : DkSt} {g1 : LgSt} {S1 : List Nat} {k' : DkSt} {g' : LgSt} (h : AY w w1 d0 l0 k0 g0 S0 d1 l1 k1 g1 S1) (hs : LStep d0 l0 S0 k' g' w1 w2) : ∃ S', AY w w2 d0 l0 k' g' S' d1 l1 k1 g1 S1 := by
  obtain ⟨S', h1, h2⟩ := hs
  have hbe : Below w.heap.size w w2 := h.a.be.trans (h2.chg.below h.a.ge h.a.be.size)
  refine ⟨S', ⟨h.a.gk, h1, hbe, fun x hx => ?_⟩, ⟨h.b.gk, h.b.lb.keepC h2.chg h.dj (fun x hx cs T fr hh => ?_), hbe, h.b.ge⟩, fun x hx hm => ?_⟩
  · rcases h2.sub x hx with h3 | h3
    · exact h.a.ge x h3
    · exact Nat.le_trans h.a.be.size h3
  · obtain ⟨cs', T', h3, h4⟩ := h.a.lb.types x hx
    rw [h3] at hh
    injection hh with hh
    injection hh with _ hh
    rw [← hh]; exact h4
  · rcases h2.sub x hx with h3 | h3
    · exact h.dj x h3 hm
    · have := h.b.lb.lt x hm
      omega
theorem AY.step1 {w w1 w2 : World} {d0 l0 : Nat} {k0 : DkSt} {g0 : LgSt} {S0 : List Nat} {d1 l1 : Nat} {k1 : DkSt} {g1 : LgSt} {S1 : List Nat} {k' : DkSt} {g' : LgSt} (h : AY w w1 d0 l0 k0 g0 S0 d1 l1 k1 g1 S1) (hs : LStep d1 l1 S1 k' g' w1 w2) : ∃ S', AY w w2 d0 l0 k0 g0 S0 d1 l1 k' g' S' := by
  obtain ⟨S', h1⟩ := h.swap.step hs
  exact ⟨S', h1.swap⟩
/-- a block of another type stays where a log's step is done -/
theorem AX.blkO {w w1 w2 : World} {d l : Nat} {dk dk' : DkSt} {lg lg' : LgSt} {S : List Nat} (h : AX w w1 d l dk lg S) (hs : LStep d l S dk' lg' w1 w2) {b : Nat} {cs : Array Value} {T : TypeId} (hb : w1.heap[b]? = some (.cells cs T)) (hT : T ≠ 52 ∧ T ≠ 58 ∧ T ≠ 56 ∧ T ≠ 3) : w2.heap[b]? = some (.cells cs T) := by
  obtain ⟨S', _, h2⟩ := hs
  exact h2.chg.blk hb (h.lb.out hb hT)
theorem lFiles_last {lg : LgSt} (h : lg.firsts ≠ []) : (lFiles lg)[lg.firsts.length - 1]? = some (fileL lg) := by
  have hpos : 0 < lg.firsts.length := List.length_pos_iff.2 h
  unfold lFiles fileL lastN
  rw [List.getElem?_map, List.getLastD_eq_getLast?, ← List.getLast?_eq_getElem?]
  cases hq : lg.firsts.getLast? with
  | none => rw [List.getLast?_eq_none_iff] at hq; exact absurd hq h
  | some x => rfl
end Go.Proofs.YthehpafkaefohaaDoor

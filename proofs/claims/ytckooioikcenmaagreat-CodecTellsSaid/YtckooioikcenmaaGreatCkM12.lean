/- A pen that reads: lists, element by element; the world of a round. Conditions: sizes a machine can have. -/
import Derived.Test.YtckooioikcenmaaGreatCkM11
import Derived.Test.YtckooioikcenmaaGreatCkM4
import Derived.Test.YtckooioikcenmaaGreatCkL8
import Derived.Test.YtckooioikcenmaaGreatCkL7
import Derived.Test.YtckooioikcenmaaGreatCkL1
import Derived.Test.YtckooioikcenmaaGreatCkL2
import Derived.Test.YtckooioikcenmaaGreatCkL3
import Derived.Test.YtckooioikcenmaaGreatCkL4
import Derived.Test.YtckooioikcenmaaGreatCkL5
import Derived.Test.YtckooioikcenmaaGreatCkL6
import Derived.StillTailTactics
import Derived.Deep.DeepCutAuto
namespace Go.Proofs.YtckooioikcenmaaGreat
open Go.RowKit
/-- n elements, read one by one, until the pen fails -/
def pIt {α : Type} (c : Cd α) (z : α) : Nat → Pn → List α → List α × Pn
  | 0, s, acc => (acc, s)
  | n + 1, s, acc => if s.bad = true then (acc, s) else pIt c z n (pC c s z).2 (acc ++ [(pC c s z).1])
theorem pIt_iter {α : Type} (c : Cd α) (z : α) : ∀ (n : Nat) (s : Pn) (acc : List α), s.rd = true → pIt c z n s acc = ((rdIter (c.rd s.bs) n ⟨s.pos, s.bad⟩ acc).1, { s with pos := (rdIter (c.rd s.bs) n ⟨s.pos, s.bad⟩ acc).2.pos, bad := (rdIter (c.rd s.bs) n ⟨s.pos, s.bad⟩ acc).2.bad })
  | 0, s, acc, _ => rfl
  | n + 1, s, acc, h => by
    unfold pIt rdIter
    by_cases hb : s.bad = true
    · rw [if_pos hb, if_pos hb]
    · rw [if_neg hb, if_neg hb, pIt_iter c z n _ _ (by rw [pC_rd]; exact h), pC_read h]
theorem pL_read {α : Type} (c : Cd α) (z : α) {st : Pn} (h : st.rd = true) : pC (cL c) st [] = pIt c z (pM st 0).1 (pM st 0).2 [] := by
  have h2 : (pM st 0).2.rd = true := by
    unfold pM
    rw [if_pos h]
    split <;> exact h
  rw [pIt_iter c z _ _ _ h2, pC_read h]
  obtain ⟨bs, pos, rd, bad, lg⟩ := st
  obtain rfl : rd = true := h
  show ((rdL c.rd bs ⟨pos, bad⟩).1, (⟨bs, (rdL c.rd bs ⟨pos, bad⟩).2.pos, true, (rdL c.rd bs ⟨pos, bad⟩).2.bad, lg⟩ : Pn)) = _
  clear h2
  have hM : pM ⟨bs, pos, true, bad, lg⟩ 0 = if bad = true ∨ (getU bs pos).2.2 ≠ 0 ∨ bs.length < (getU bs pos).1 then (0, ⟨bs, pos, true, true, lg⟩) else ((getU bs pos).1, ⟨bs, (getU bs pos).2.1, true, bad, lg⟩) := rfl
  rw [hM]
  unfold rdL
  cases bad with
  | true =>
    rw [if_pos rfl, if_pos (.inl rfl)]
    rfl
  | false =>
    rw [if_neg (by simp)]
    by_cases h3 : (getU bs pos).2.2 ≠ 0 ∨ bs.length < (getU bs pos).1
    · rw [if_pos h3, if_pos (.inr h3)]
      rfl
    · rw [if_neg h3, if_neg (fun h => h.elim (by simp) h3)]
theorem pM_read {st : Pn} {n : Nat} (h : st.rd = true) : (pM st n).2.rd = true := by
  unfold pM
  rw [if_pos h]
  split <;> exact h
theorem pM_bs {st : Pn} {n : Nat} (h : st.rd = true) : (pM st n).2.bs = st.bs := by
  unfold pM
  rw [if_pos h]
  split <;> rfl
theorem pC_bs {α : Type} {c : Cd α} {st : Pn} {x : α} (h : st.rd = true) : (pC c st x).2.bs = st.bs := by rw [pC_read h]
theorem pM_le {st : Pn} {n : Nat} (h : st.rd = true) : (pM st n).1 ≤ st.bs.length := by
  unfold pM
  rw [if_pos h]
  split
  · exact Nat.zero_le _
  · rename_i h2
    simp only
    omega
/-- a pen at p that reads -/
structure PR (base p : Nat) (w : World) (st : Pn) : Prop where
  pst : ∃ v, PSt base p w v st
  rd : st.rd = true
  sm : st.bs.length ≤ 1000000000
theorem PR.lt {base p : Nat} {w : World} {st : Pn} (h : PR base p w st) : p < w.heap.size := by
  obtain ⟨v, hv⟩ := h.pst
  exact hv.lt
theorem PR.hr {base p : Nat} {w : World} {st : Pn} (h : PR base p w st) : base ≤ p := by
  obtain ⟨v, hv⟩ := h.pst
  exact hv.hr
theorem PR.ty {base p : Nat} {w : World} {st : Pn} (h : PR base p w st) : ∃ cs, w.heap[p]? = some (.cells cs 77) := by
  obtain ⟨v, hv⟩ := h.pst
  exact ⟨_, hv.pn⟩
/-- a step that leaves the pen and what lies below base -/
theorem PR.move {base p : Nat} {w w' : World} {st : Pn} (h : PR base p w st) (hs : w.heap.size ≤ w'.heap.size) (hp : w'.heap[p]? = w.heap[p]?) (hb : ∀ k, k < base → w'.heap[k]? = w.heap[k]?) : PR base p w' st := by
  obtain ⟨v, hv⟩ := h.pst
  exact ⟨⟨v, hp.trans hv.pn, hv.ok.step hs (fun k hk _ => hb k ((hv.np k hk).2 h.rd)), hv.np, hv.len0, hv.pos, hv.hr⟩, h.rd, h.sm⟩
theorem PR.below {base p : Nat} {w w' : World} {st : Pn} (h : PR base p w st) (hb : Below w.heap.size w w') : PR base p w' st :=
  h.move hb.size (hb.block p h.lt) (fun k hk => hb.block k (by have := h.lt; have := h.hr; omega))
theorem PR.alloc {base p : Nat} {w : World} {st : Pn} (h : PR base p w st) (o : Obj) : PR base p (w.alloc o) st := h.below ((Below.refl _ _).alloc (Nat.le_refl _) o)
theorem PR.drewN {base p : Nat} {w : World} {st : Pn} (h : PR base p w st) (n : Nat) : PR base p (w.drewN n) st := h.move (Nat.le_refl _) rfl (fun _ _ => rfl)
/-- a step that turns one block only, no pen and not below base -/
theorem PR.grown {base p : Nat} {w w' : World} {st : Pn} {row : Option Nat} (h : PR base p w st) (hg : w.grownBy w' row) (hp : row ≠ some p) (hb : ∀ k, row = some k → base ≤ k) : PR base p w' st :=
  h.move hg.size (hg.block p h.lt (fun e => hp e.symm)) (fun k hk => hg.block k (by have := h.lt; have := h.hr; omega) (fun e => by have := hb k e.symm; omega))
theorem PR.cell3 {base p : Nat} {w : World} {st : Pn} (h : PR base p w st) : w.cell? ⟨p, 3, none⟩ = some (.bool st.bad) := by
  obtain ⟨v, hv⟩ := h.pst
  rw [blk_cell hv.pn]; rfl
theorem PR.cell2 {base p : Nat} {w : World} {st : Pn} (h : PR base p w st) : w.cell? ⟨p, 2, none⟩ = some (.bool true) := by
  obtain ⟨v, hv⟩ := h.pst
  rw [blk_cell hv.pn, ← h.rd]; rfl
/-- a pen that has gone on from world wA, having turned p and q only -/
structure RS (base p q : Nat) (wA : World) (st : Pn) (w : World) : Prop where
  pr : PR base p w st
  chg : Chg p q wA w
def RdPost (base p q d : Nat) (wA : World) (st' : Pn) (T : TypeId) (cs : Array Value) (w : World) (e : Ending) (w' : World) : Prop :=
  e = .returned (.tuple #[]) ∧ RS base p q wA st' w' ∧ w'.heap[d]? = some (.cells cs T) ∧ Chg p d w w'
theorem Chg.into {p q d : Nat} {wA w w' : World} (h : Chg p q wA w) (k : Chg p d w w') (hd : d = q ∨ wA.heap.size ≤ d) : Chg p q wA w' :=
  ⟨k.os.trans h.os, k.tape.trans h.tape, k.output.trans h.output, Nat.le_trans h.size k.size, fun i hi h1 h2 => (k.block i (Nat.lt_of_lt_of_le hi h.size) h1 (fun e => by subst e; rcases hd with hd | hd; exact h2 hd; omega)).trans (h.block i hi h1 h2)⟩
theorem RS.into {base p q d : Nat} {wA w w' : World} {st st' : Pn} (h : RS base p q wA st w) (hp : PR base p w' st') (k : Chg p d w w') (hd : d = q ∨ wA.heap.size ≤ d) : RS base p q wA st' w' := ⟨hp, h.chg.into k hd⟩
section
variable {base p q d o : Nat} {wA w : World} {st s' : Pn} {T : TypeId} {cs cs' : Array Value}
theorem rdNum {y : Int} (hs : RS base p q wA st w) (hd : w.heap[d]? = some (.cells cs T)) (hq : pC cI st 0 = (y, s')) (hx : cs[o]? = some (.int .i64 0)) (hc : cs.setIfInBounds o (.int .i64 y) = cs') (hdq : d = q ∨ wA.heap.size ≤ d) (hne : d ≠ p) (hbd : base ≤ d) :
    Calls Tryz.prog 53 #[.pointer (some ⟨p, 0, none⟩), .pointer (some ⟨d, o, none⟩)] w (RdPost base p q d wA s' T cs' w) := by
  obtain ⟨v, hv⟩ := hs.pr.pst
  have hvd : ∀ k, Value.readBlock v = some k → k ≠ d := fun k hk => by have := (hv.np k hk).2 hs.pr.rd; omega
  have hf : Fits cI st 0 := by
    have h1 := hs.pr.sm
    have h2 : (cI.enc 0).length ≤ 10 := by decide +kernel
    unfold Fits
    omega
  refine (penNum_any base p d o v st 0 T cs w hv hd hx ⟨by decide, by decide⟩ (fun _ => rfl) hf hne hbd hvd).mono ?_
  rintro e w' ⟨rfl, v', h⟩
  have hr := pC_rd cI st 0
  have hbs := pC_bs (c := cI) (x := 0) hs.pr.rd
  rw [hq] at h hr hbs
  rw [hc] at h
  exact ⟨rfl, hs.into ⟨⟨v', h.pst⟩, hr.trans hs.pr.rd, by rw [hbs]; exact hs.pr.sm⟩ h.chg hdq, h.blk, h.chg⟩
theorem rdWhole {y : Int} (hs : RS base p q wA st w) (hd : w.heap[d]? = some (.cells cs T)) (hq : pC cI st 0 = (y, s')) (hx : cs[o]? = some (.int .i64 0)) (hc : cs.setIfInBounds o (.int .i64 y) = cs') (hdq : d = q ∨ wA.heap.size ≤ d) (hne : d ≠ p) (hbd : base ≤ d) :
    Calls Tryz.prog 54 #[.pointer (some ⟨p, 0, none⟩), .pointer (some ⟨d, o, none⟩)] w (RdPost base p q d wA s' T cs' w) := by
  obtain ⟨v, hv⟩ := hs.pr.pst
  have hvd : ∀ k, Value.readBlock v = some k → k ≠ d := fun k hk => by have := (hv.np k hk).2 hs.pr.rd; omega
  have hf : Fits cI st 0 := by
    have h1 := hs.pr.sm
    have h2 : (cI.enc 0).length ≤ 10 := by decide +kernel
    unfold Fits
    omega
  refine (penWhole_any base p d o v st 0 T cs w hv hd hx ⟨by decide, by decide⟩ (fun _ => rfl) hf hne hbd hvd).mono ?_
  rintro e w' ⟨rfl, v', h⟩
  have hr := pC_rd cI st 0
  have hbs := pC_bs (c := cI) (x := 0) hs.pr.rd
  rw [hq] at h hr hbs
  rw [hc] at h
  exact ⟨rfl, hs.into ⟨⟨v', h.pst⟩, hr.trans hs.pr.rd, by rw [hbs]; exact hs.pr.sm⟩ h.chg hdq, h.blk, h.chg⟩
theorem rdSmall {y : Int} (hs : RS base p q wA st w) (hd : w.heap[d]? = some (.cells cs T)) (hq : pC cB st 0 = (y, s')) (hx : cs[o]? = some (.int .u8 0)) (hc : cs.setIfInBounds o (.int .u8 y) = cs') (hdq : d = q ∨ wA.heap.size ≤ d) (hne : d ≠ p) (hbd : base ≤ d) :
    Calls Tryz.prog 51 #[.pointer (some ⟨p, 0, none⟩), .pointer (some ⟨d, o, none⟩)] w (RdPost base p q d wA s' T cs' w) := by
  obtain ⟨v, hv⟩ := hs.pr.pst
  have hvd : ∀ k, Value.readBlock v = some k → k ≠ d := fun k hk => by have := (hv.np k hk).2 hs.pr.rd; omega
  have hf : Fits cB st 0 := by
    have h1 := hs.pr.sm
    have h2 : (cB.enc 0).length ≤ 10 := by decide +kernel
    unfold Fits
    omega
  refine (penSmall_any base p d o v st 0 T cs w hv hd hx ⟨by decide, by decide⟩ (fun _ => rfl) hf hne hbd hvd).mono ?_
  rintro e w' ⟨rfl, v', h⟩
  have hr := pC_rd cB st 0
  have hbs := pC_bs (c := cB) (x := 0) hs.pr.rd
  rw [hq] at h hr hbs
  rw [hc] at h
  exact ⟨rfl, hs.into ⟨⟨v', h.pst⟩, hr.trans hs.pr.rd, by rw [hbs]; exact hs.pr.sm⟩ h.chg hdq, h.blk, h.chg⟩
theorem rdFlag {y : Bool} (hs : RS base p q wA st w) (hd : w.heap[d]? = some (.cells cs T)) (hq : pC cF st false = (y, s')) (hx : cs[o]? = some (.bool false)) (hc : cs.setIfInBounds o (.bool y) = cs') (hdq : d = q ∨ wA.heap.size ≤ d) (hne : d ≠ p) (hbd : base ≤ d) :
    Calls Tryz.prog 71 #[.pointer (some ⟨p, 0, none⟩), .pointer (some ⟨d, o, none⟩)] w (RdPost base p q d wA s' T cs' w) := by
  obtain ⟨v, hv⟩ := hs.pr.pst
  have hvd : ∀ k, Value.readBlock v = some k → k ≠ d := fun k hk => by have := (hv.np k hk).2 hs.pr.rd; omega
  have hf : Fits cF st false := by
    have h1 := hs.pr.sm
    have h2 : (cF.enc false).length ≤ 10 := by decide +kernel
    unfold Fits
    omega
  refine (penFlag_any base p d o v st false T cs w hv hd hx (fun _ => rfl) hf hne hbd hvd).mono ?_
  rintro e w' ⟨rfl, v', h⟩
  have hr := pC_rd cF st false
  have hbs := pC_bs (c := cF) (x := false) hs.pr.rd
  rw [hq] at h hr hbs
  rw [hc] at h
  exact ⟨rfl, hs.into ⟨⟨v', h.pst⟩, hr.trans hs.pr.rd, by rw [hbs]; exact hs.pr.sm⟩ h.chg hdq, h.blk, h.chg⟩
theorem rdText {y : ByteArray} (hs : RS base p q wA st w) (hd : w.heap[d]? = some (.cells cs T)) (hq : pC cS st ⟨#[]⟩ = (y, s')) (hx : cs[o]? = some (.string ⟨#[]⟩)) (hc : cs.setIfInBounds o (.string y) = cs') (hdq : d = q ∨ wA.heap.size ≤ d) (hne : d ≠ p) (hbd : base ≤ d) :
    Calls Tryz.prog 52 #[.pointer (some ⟨p, 0, none⟩), .pointer (some ⟨d, o, none⟩)] w (RdPost base p q d wA s' T cs' w) := by
  obtain ⟨v, hv⟩ := hs.pr.pst
  have hvd : ∀ k, Value.readBlock v = some k → k ≠ d := fun k hk => by have := (hv.np k hk).2 hs.pr.rd; omega
  have hf : Fits cS st ⟨#[]⟩ := by
    have h1 := hs.pr.sm
    have h2 : (cS.enc ⟨#[]⟩).length ≤ 10 := by decide +kernel
    unfold Fits
    omega
  refine (penText_any base p d o v st ⟨#[]⟩ T cs w hv hd hx (by decide) (fun _ => rfl) hf hne hvd).mono ?_
  rintro e w' ⟨rfl, v', h⟩
  have hr := pC_rd cS st ⟨#[]⟩
  have hbs := pC_bs (c := cS) (x := ⟨#[]⟩) hs.pr.rd
  rw [hq] at h hr hbs
  rw [hc] at h
  exact ⟨rfl, hs.into ⟨⟨v', h.pst⟩, hr.trans hs.pr.rd, by rw [hbs]; exact hs.pr.sm⟩ h.chg hdq, h.blk, h.chg⟩
theorem rdMany (hs : RS base p q wA st w) (hd : w.heap[d]? = some (.cells cs T)) (hdq : d = q ∨ wA.heap.size ≤ d) (hne : d ≠ p) (hbd : base ≤ d) :
    Calls Tryz.prog 68 #[.pointer (some ⟨p, 0, none⟩), .int .i64 0] w fun e w' => e = .returned (.int .i64 (pM st 0).1) ∧ RS base p q wA (pM st 0).2 w' ∧ w'.heap[d]? = some (.cells cs T) ∧ Chg p d w w' := by
  obtain ⟨v, hv⟩ := hs.pr.pst
  have hvd : ∀ k, Value.readBlock v = some k → k ≠ d := fun k hk => by have := (hv.np k hk).2 hs.pr.rd; omega
  refine (penMany_any base p d v st 0 T cs w hv hd (by omega) (fun _ => rfl) (by have := hs.pr.sm; omega) hne hvd).mono ?_
  rintro e w' ⟨rfl, v', h⟩
  exact ⟨rfl, hs.into ⟨⟨v', h.pst⟩, pM_read hs.pr.rd, by rw [pM_bs hs.pr.rd]; exact hs.pr.sm⟩ h.chg hdq, h.blk, h.chg⟩
end
end Go.Proofs.YtckooioikcenmaaGreat
namespace Go.Proofs.YtckooioikcenmaaGreat
open Go.RowKit
theorem setCells_grown (g : Nat) : ∀ (vs : List Value) (o : Nat) (w : World), w.grownBy (w.setCells g o vs) (some g)
  | [], _, w => World.grownBy.refl w _
  | v :: vs, o, w => (grow_set w g o v).trans (setCells_grown g vs (o + 1) _)
theorem setCells_blk {g : Nat} {T : TypeId} : ∀ (vs : List Value) (o : Nat) (w : World) (cur : Array Value), w.heap[g]? = some (.cells cur T) → o + vs.length ≤ cur.size →
    ∃ cur' : Array Value, (w.setCells g o vs).heap[g]? = some (.cells cur' T) ∧ cur'.size = cur.size ∧ ∀ i, cur'[i]? = if o ≤ i ∧ i < o + vs.length then vs[i - o]? else cur[i]?
  | [], o, w, cur, h, _ => ⟨cur, h, rfl, fun i => by rw [if_neg (by simp only [List.length_nil]; omega)]⟩
  | v :: vs, o, w, cur, h, hl => by
    simp only [List.length_cons] at hl
    obtain ⟨cur', h1, h2, h3⟩ := setCells_blk vs (o + 1) (w.setCell ⟨g, o, none⟩ v) (cur.setIfInBounds o v) (blk_set h o v) (by simp only [Array.size_setIfInBounds]; omega)
    refine ⟨cur', h1, by rw [h2]; simp, fun i => ?_⟩
    rw [h3, Array.getElem?_setIfInBounds]
    simp only [List.length_cons]
    by_cases e : o = i
    · subst e
      rw [if_neg (by omega), if_pos rfl, if_pos (by omega), if_pos (by omega)]
      simp
    · by_cases e2 : o + 1 ≤ i ∧ i < o + 1 + vs.length
      · rw [if_pos e2, if_pos (by omega), show i - o = (i - (o + 1)) + 1 by omega]
        simp
      · rw [if_neg e2, if_neg e, if_neg (by omega)]
theorem fresh_cells (w : World) (Z ua : Array Value) (T : TypeId) (hz : Z.size = ua.size) : ((w.alloc (.cells Z T)).setCells w.heap.size 0 ua.toList).heap[w.heap.size]? = some (.cells ua T) := by
  obtain ⟨cur, h1, h2, h3⟩ := setCells_blk (T := T) ua.toList 0 (w.alloc (.cells Z T)) Z (alloc_at w _) (by simp [hz])
  rw [h1]
  have : cur = ua := by
    apply Array.ext_getElem?
    intro i
    rw [h3]
    split
    · simp
    · rename_i hi
      rw [Array.getElem?_eq_none (by simp at hi; omega), Array.getElem?_eq_none (by simp at hi; omega)]
  rw [this]
/-- a list that the call has made, and one element more, of bare cells -/
structure LOwnZ {α : Type} (T : TypeId) (m : Mv α) (base : Nat) (w : World) (g cap : Nat) (xs : List α) (us : List Value) : Prop where
  ul : us.length = m.n
  row : ∃ cells, w.ownsRow base T m.n (.slice (some ⟨g, 0, none⟩) (xs.length + 1) cap) (xs.length + 1) (cells ++ us) ∧ cells.length = xs.length * m.n ∧ ∀ (j : Nat) (x : α), xs[j]? = some x → m.own base w ((cells.drop (j * m.n)).take m.n) x
/-- 'append(s, x)' of one element, of bare cells, that lies in a block of its own -/
theorem wpList_pushZ {α : Type} {T t : TypeId} {m : Mv α} {ops : Array Oper} {rest : List Oper} {o : Oper} {a : Act} {w : World} {Q : Exit → Act → World → Prop} (hgd : o.guard = none) (s x : Operand)
    (ho : o.op = .call { callee := .builtin .append, args := #[s, x], argTypes := #[t, t] }) {bytes : Nat} {z : Value} (hE : Elem T t m.n bytes z) (hm : m.Lawful) (hT : T ∉ m.ts)
    (base : Nat) (v : Value) (xs : List α) (us : List Value) (b : Nat) (hs : a.eval s = v) (hown : LOwn T m base w v xs) (hx : a.eval x = .slice (some ⟨b, 0, none⟩) 1 1) {U : TypeId} (hc : w.heap[b]? = some (.cells us.toArray U)) (hul : us.length = m.n) (hus : ∀ u ∈ us, u.oneCell' = true)
    (hl : xs.length + 1 ≤ 100000000000) (hby : bytes ≤ 1000) (hb : base ≤ w.heap.size)
    (h : ∀ g cap w', LOwnZ T m base w' g cap xs us → w.grownBy w' v.ownBlock → (v.ownBlock = some g ∨ w.heap.size ≤ g) → wpList Tryz.prog ops Q rest (a.put o.dst (.slice (some ⟨g, 0, none⟩) (xs.length + 1) cap)) w') : wpList Tryz.prog ops Q (o :: rest) a w := by
  obtain ⟨i0, hi, hz0, hz1, hz2⟩ := info_parts hE.info
  obtain ⟨cells, ho1, he⟩ := hown
  refine wpList_append_own_at _ hgd s x t ho base T i0 z m.n bytes hE.ut hi hz0 hz1 hz2 hE.zs hm.pos v xs.length _ hs ho1 ⟨b, 0, none⟩ 1 1 us hx (by omega) ?_ hus ?_ ?_ hb ?_
  · intro j u hj
    rw [addr_add, blk_cell hc]
    simpa using hj
  · simp only [maxLen]; omega
  · have : (xs.length + 1) * bytes ≤ 100000000000 * 1000 := Nat.mul_le_mul hl hby
    omega
  · intro v' w' h1 h2 _ h3
    have h4 := h1
    rcases h1.2 with ⟨_, h5⟩ | ⟨g, cap, cur, rfl, _⟩
    · omega
    · refine h g cap w' ⟨hul, cells, h4, ho1.1, fun j x hj => hm.okeep (he j x hj) (Stay.grown h2 fun k cs T' fr e hh hm' => ?_)⟩ h2 ?_
      · rcases ho1.2 with ⟨rfl, _⟩ | ⟨g, cap, cur, rfl, hb, hh2, _⟩
        · cases e
        · injection e with e
          subst e
          rw [hh] at hh2
          injection hh2 with hh2
          injection hh2 with _ hh2
          rw [hh2] at hm'
          exact hT hm'
      · rcases h3 with h3 | h3
        · exact .inl h3.symm
        · have : g = w.heap.size := by simpa [Value.ownBlock] using h3
          exact .inr (by omega)
section
variable {α : Type} {T : TypeId} {m : Mv α} {base g cap : Nat} {w : World} {xs : List α} {us : List Value}
theorem LOwnZ.keep {w' : World} (h : LOwnZ T m base w g cap xs us) (hm : m.Lawful) (hs : Stay (T :: m.ts) w w') : LOwnZ T m base w' g cap xs us := by
  obtain ⟨hul, cells, ho, hc, he⟩ := h
  exact ⟨hul, cells, own_stay ho hs (by simp), hc, fun j x hj => hm.okeep (he j x hj) (hs.sub fun t ht => by simp [ht])⟩
theorem LOwnZ.blk (h : LOwnZ T m base w g cap xs us) : base ≤ g ∧ ∃ cur : Array Value, w.heap[g]? = some (.cells cur T) ∧ (xs.length + 1) * m.n ≤ cur.size ∧ ∀ (i : Nat) (u : Value), us[i]? = some u → cur[xs.length * m.n + i]? = some u := by
  obtain ⟨hul, cells, ho, hc, he⟩ := h
  rcases ho.2 with ⟨h9, _⟩ | ⟨g', cap', cur, h1, hb, hh, h3, h4, h5, h6⟩
  · cases h9
  · injection h1 with h1 _ h7
    injection h1 with h1
    injection h1 with h1
    subst h1; subst h7
    refine ⟨hb, cur, hh, by rw [h5]; exact Nat.mul_le_mul_right _ h3, fun i u hi => ?_⟩
    have hlt : i < us.length := (List.getElem?_eq_some_iff.1 hi).1
    have h7 : (cells ++ us)[xs.length * m.n + i]? = some u := by
      rw [List.getElem?_append_right (by omega), ← hi]
      congr 1
      omega
    rw [← h6, List.getElem?_take] at h7
    split at h7
    · simpa using h7
    · cases h7
theorem LOwnZ.range (h : LOwnZ T m base w g cap xs us) : w.rangeAt g (xs.length * m.n) us := fun j u hj => by
  obtain ⟨_, cur, hh, _, h3⟩ := h.blk
  rw [blk_cell hh]
  exact h3 j u hj
theorem LOwnZ.there (h : LOwnZ T m base w g cap xs us) {n : Nat} (hn : n = m.n) : w.there g (xs.length * m.n) n := fun j hj => by
  obtain ⟨_, cur, hh, h2, h3⟩ := h.blk
  have : j < us.length := by rw [h.ul]; omega
  refine ⟨?_, blk_free hh _⟩
  rw [blk_cell hh, h3 j _ (List.getElem?_eq_getElem this)]
  rfl
/-- the last element is written -/
theorem LOwnZ.fill {us' : List Value} {y : α} (h : LOwnZ T m base w g cap xs us) (hm : m.Lawful) (hT : T ∉ m.ts) (hy : m.own base w us' y) : LOwn T m base (w.setCells g (xs.length * m.n) us') (.slice (some ⟨g, 0, none⟩) (xs.length + 1) cap) (xs ++ [y]) := by
  have hy0 := hm.olen hy
  have hst : Stay m.ts w (w.setCells g (xs.length * m.n) us') := Stay.grown (setCells_grown g us' _ w) fun k cs T' fr e hh hm' => by
    obtain ⟨_, cur, hh2, _⟩ := h.blk
    injection e with e
    subst e
    rw [hh] at hh2
    injection hh2 with hh2
    injection hh2 with _ hh2
    rw [hh2] at hm'
    exact hT hm'
  obtain ⟨hul, cells, ho, hc, he⟩ := h
  rcases ho.2 with ⟨h9, _⟩ | ⟨g', cap', cur, h1, hb, hh, h3, h4, h5, h6⟩
  · cases h9
  · injection h1 with h1 _ h7
    injection h1 with h1
    injection h1 with h1
    subst h1; subst h7
    have hsz : (xs.length + 1) * m.n ≤ cur.size := by rw [h5]; exact Nat.mul_le_mul_right _ h3
    have e1 : (xs.length + 1) * m.n = xs.length * m.n + m.n := by rw [Nat.add_mul, Nat.one_mul]
    obtain ⟨cur', k1, k2, k3⟩ := setCells_blk us' (xs.length * m.n) w cur hh (by rw [hy0]; omega)
    have ht : cur'.toList.take ((xs.length + 1) * m.n) = cells ++ us' := by
      apply List.ext_getElem?
      intro i
      rw [List.getElem?_take]
      have k4 := k3 i
      have k5 : (cur.toList.take ((xs.length + 1) * m.n))[i]? = (cells ++ us)[i]? := by rw [h6]
      rw [List.getElem?_take] at k5
      by_cases hi : i < (xs.length + 1) * m.n
      · rw [if_pos hi] at k5 ⊢
        rw [Array.getElem?_toList] at k5 ⊢
        rw [k4]
        by_cases hi2 : xs.length * m.n ≤ i
        · rw [if_pos ⟨hi2, by omega⟩, List.getElem?_append_right (by omega)]
          congr 1
          omega
        · rw [if_neg (by omega), k5, List.getElem?_append_left (by omega), List.getElem?_append_left (by omega)]
      · rw [if_neg hi]
        symm
        apply List.getElem?_eq_none
        rw [List.length_append, hc, hy0]
        omega
    have ho' : (w.setCells g (xs.length * m.n) us').ownsRow base T m.n (.slice (some ⟨g, 0, none⟩) (xs.length + 1) cap) (xs.length + 1) (cells ++ us') :=
      ⟨by rw [List.length_append, hc, hy0, e1], .inr ⟨g, cap, cur', rfl, hb, k1, h3, h4, by rw [k2]; exact h5, ht⟩⟩
    refine ⟨cells ++ us', by rw [List.length_append]; exact ho', fun j x hj => ?_⟩
    by_cases hlt : j < xs.length
    · rw [List.getElem?_append_left hlt] at hj
      have h8 : j * m.n + m.n ≤ cells.length := by
        rw [hc]
        have : (j + 1) * m.n ≤ xs.length * m.n := Nat.mul_le_mul_right _ hlt
        rw [Nat.add_mul, Nat.one_mul] at this
        exact this
      rw [List.drop_append_of_le_length (by omega), List.take_append_of_le_length (by rw [List.length_drop]; omega)]
      exact hm.okeep (he j x hj) hst
    · rw [List.getElem?_append_right (by omega)] at hj
      have hj0 : j = xs.length := by
        have := (List.getElem?_eq_some_iff.1 hj).1
        simp at this; omega
      subst hj0
      simp at hj
      subst hj
      have e9 : (List.take m.n (List.drop (xs.length * m.n) (cells ++ us'))) = us' := by rw [← hc, List.drop_left, ← hy0, List.take_length]
      rw [e9]
      exact hm.okeep hy hst
end
end Go.Proofs.YtckooioikcenmaaGreat
namespace Go.Proofs.YtckooioikcenmaaGreat
open Go.RowKit
theorem pIt_stop {α : Type} {c : Cd α} {z : α} {n : Nat} {s : Pn} {acc : List α} (h : n = 0 ∨ s.bad = true) : pIt c z n s acc = (acc, s) := by
  cases n with
  | zero => rfl
  | succ n =>
    unfold pIt
    rcases h with h | h
    · omega
    · rw [if_pos h]
theorem pIt_go {α : Type} {c : Cd α} {z : α} {n k : Nat} {s : Pn} {acc : List α} (hk : k < n) (hb : s.bad = false) : pIt c z (n - k) s acc = pIt c z (n - (k + 1)) (pC c s z).2 (acc ++ [(pC c s z).1]) := by
  obtain ⟨j, hj⟩ : ∃ j, n - k = j + 1 := ⟨n - k - 1, by omega⟩
  rw [hj, show n - (k + 1) = j by omega]
  conv => lhs; unfold pIt
  rw [if_neg (by simp [hb])]
/-- a list's reading: acc has been read, R is what comes of all -/
structure RL {α : Type} (c : Cd α) (z : α) (m : Mv α) (Te : TypeId) (base p d : Nat) (Td : TypeId) (csf : Value → Array Value) (wS w1 : World) (n : Nat) (R : List α × Pn) (acc : List α) (s : Pn) (v : Value) (wl : World) : Prop where
  pr : PR base p wl s
  c1 : Chg p d wS w1
  chg : Chg p d w1 wl
  blk : wl.heap[d]? = some (.cells (csf v) Td)
  own : LOwn Te m base wl v acc
  low : ∀ g, v.ownBlock = some g → w1.heap.size ≤ g
  pos : p < w1.heap.size ∧ d < w1.heap.size ∧ base ≤ p
  rest : pIt c z (n - acc.length) s acc = R
/-- one element more has been put behind it, of bare cells -/
structure RZ {α : Type} (c : Cd α) (z : α) (m : Mv α) (Te : TypeId) (base p d : Nat) (Td : TypeId) (csf : Value → Array Value) (wS w1 : World) (n : Nat) (R : List α × Pn) (acc : List α) (s : Pn) (g cap : Nat) (us : List Value) (wl : World) : Prop where
  pr : PR base p wl s
  c1 : Chg p d wS w1
  chg : Chg p d w1 wl
  blk : wl.heap[d]? = some (.cells (csf (.slice (some ⟨g, 0, none⟩) (acc.length + 1) cap)) Td)
  own : LOwnZ Te m base wl g cap acc us
  low : w1.heap.size ≤ g
  pos : p < w1.heap.size ∧ d < w1.heap.size ∧ base ≤ p
  rest : pIt c z (n - acc.length) s acc = R
section
variable {α : Type} {c : Cd α} {z : α} {m : Mv α} {Te : TypeId} {base p d : Nat} {Td : TypeId} {csf : Value → Array Value} {wS w1 : World} {n : Nat} {R : List α × Pn} {acc : List α} {s : Pn} {v : Value} {wl : World}
theorem RL.rs (h : RL c z m Te base p d Td csf wS w1 n R acc s v wl) : RS base p d wS s wl := ⟨h.pr, h.c1.trans h.chg⟩
theorem RL.start (hs : RS base p d wS s wl) (hd : wl.heap[d]? = some (.cells (csf (.slice none 0 0)) Td)) (hR : pIt c z n s [] = R) : RL c z m Te base p d Td csf wS wl n R [] s (.slice none 0 0) wl :=
  ⟨hs.pr, hs.chg, Chg.refl _ _ _, hd, LOwn.nil _ _, fun g h => by simp [Value.ownBlock] at h, ⟨hs.pr.lt, blk_lt hd, hs.pr.hr⟩, hR⟩
theorem RL.end (h : RL c z m Te base p d Td csf wS w1 n R acc s v wl) (hs : ¬ (acc.length < n ∧ s.bad = false)) : R = (acc, s) := by
  rw [← h.rest]
  refine pIt_stop ?_
  by_cases h1 : acc.length < n
  · right
    cases hb : s.bad with
    | true => rfl
    | false => exact absurd ⟨h1, hb⟩ hs
  · left; omega
theorem RL.len (h : RL c z m Te base p d Td csf wS w1 n R acc s v wl) : ∃ A k, v = .slice A acc.length k := h.own.form
/-- behind the append, ahead of the store -/
theorem RL.pushed (h : RL c z m Te base p d Td csf wS w1 n R acc s v wl) {w3 : World} {o : Obj} (hG : (wl.alloc o).grownBy w3 v.ownBlock) : PR base p w3 s ∧ w3.heap[d]? = some (.cells (csf v) Td) ∧ Chg p d w1 w3 := by
  have hb := (Below.refl wl.heap.size wl).alloc (Nat.le_refl _) o
  have h1 := h.pr.alloc o
  have hne : ∀ k, k < w1.heap.size → some k ≠ v.ownBlock := fun k hk e => by have := h.low k e.symm; omega
  obtain ⟨p1, p2, p3⟩ := h.pos
  refine ⟨h1.grown hG (fun e => hne p p1 e.symm) (fun k hk => by have := h.low k hk; omega), ?_, ?_⟩
  · rw [hG.block d (by have := h.chg.size; simp; omega) (hne d p2)]
    exact blk_below hb h.blk
  · have hc := h.chg.alloc o
    exact ⟨hG.os.trans hc.os, hG.tape.trans hc.tape, hG.output.trans hc.output, Nat.le_trans hc.size hG.size, fun k hk e1 e2 => (hG.block k (Nat.lt_of_lt_of_le hk hc.size) (hne k hk)).trans (hc.block k hk e1 e2)⟩
theorem Chg.stayK {r K : Nat} {w w' : World} {ts : List TypeId} {cs : Array Value} {T : TypeId} (h : Chg r K w w') (hr : w.heap[r]? = some (.cells cs T)) (hT : T ∉ ts) (hK : w.heap.size ≤ K) : Stay ts w w' := fun k es V fr hV hh => by
  refine (h.block k (blk_lt hh) ?_ (by have := blk_lt hh; omega)).trans hh
  rintro rfl
  rw [hr] at hh
  injection hh with hh
  injection hh with _ hh
  exact hT (hh ▸ hV)
/-- behind the store of the longer list -/
theorem RL.stored (h : RL c z m Te base p d Td csf wS w1 n R acc s v wl) (hm : m.Lawful) {w3 : World} {o : Obj} {g cap off : Nat} {us : List Value} (hG : (wl.alloc o).grownBy w3 v.ownBlock) (hZ : LOwnZ Te m base w3 g cap acc us) (hat : v.ownBlock = some g ∨ (wl.alloc o).heap.size ≤ g)
    (hT : Td ∉ Te :: m.ts) (hset : (csf v).setIfInBounds off (.slice (some ⟨g, 0, none⟩) (acc.length + 1) cap) = csf (.slice (some ⟨g, 0, none⟩) (acc.length + 1) cap)) (hne : d ≠ p) (hbd : base ≤ d) :
    RZ c z m Te base p d Td csf wS w1 n R acc s g cap us (w3.setCell ⟨d, off, none⟩ (.slice (some ⟨g, 0, none⟩) (acc.length + 1) cap)) := by
  obtain ⟨a1, a2, a3⟩ := h.pushed hG
  have hg := grow_set w3 d off (.slice (some ⟨g, 0, none⟩) (acc.length + 1) cap)
  refine ⟨a1.grown hg (fun e => hne (by injection e)) (fun k hk => by injection hk with hk; omega), h.c1, a3.setK off _, ?_, ?_, ?_, h.pos, h.rest⟩
  · rw [blk_set a2, hset]
  · refine hZ.keep hm (Stay.grown hg fun k cs T fr e hh hT' => ?_)
    injection e with e
    subst e
    rw [a2] at hh
    injection hh with hh
    injection hh with _ hh
    exact hT (hh ▸ hT')
  · rcases hat with hat | hat
    · exact h.low g hat
    · have := h.chg.size
      simp at hat
      omega
theorem RZ.new {g cap : Nat} {us : List Value} (h : RZ c z m Te base p d Td csf wS w1 n R acc s g cap us wl) (o : Obj) : RS base p wl.heap.size (wl.alloc o) s (wl.alloc o) := ⟨h.pr.alloc o, Chg.refl _ _ _⟩
theorem RZ.newb {g cap : Nat} {us : List Value} {w5 : World} (h : RZ c z m Te base p d Td csf wS w1 n R acc s g cap us wl) (hb : Below wl.heap.size wl w5) : RS base p wl.heap.size w5 s w5 := ⟨h.pr.below hb, Chg.refl _ _ _⟩
/-- when the element has been read -/
theorem RZ.back {g cap : Nat} {us : List Value} {w5 w6 : World} {s' : Pn} (h : RZ c z m Te base p d Td csf wS w1 n R acc s g cap us wl) (hm : m.Lawful) (hb : Below wl.heap.size wl w5) (h6 : RS base p wl.heap.size w5 s' w6) (hT : 77 ∉ Te :: m.ts) (hne : d ≠ p) :
    w6.heap[d]? = some (.cells (csf (.slice (some ⟨g, 0, none⟩) (acc.length + 1) cap)) Td) ∧ LOwnZ Te m base w6 g cap acc us ∧ Chg p d w1 w6 := by
  have hk : Chg p wl.heap.size wl w6 := (Chg.of_below hb).trans h6.chg
  have hd := blk_lt h.blk
  obtain ⟨cs, hp⟩ := h.pr.ty
  refine ⟨hk.blk h.blk hne (by omega), h.own.keep hm (hk.stayK hp hT (Nat.le_refl _)), ?_⟩
  exact ⟨hk.os.trans h.chg.os, hk.tape.trans h.chg.tape, hk.output.trans h.chg.output, Nat.le_trans h.chg.size hk.size, fun k hk1 e1 e2 => (hk.block k (Nat.lt_of_lt_of_le hk1 h.chg.size) e1 (by have := h.chg.size; omega)).trans (h.chg.block k hk1 e1 e2)⟩
/-- the round is over -/
theorem RZ.next {g cap q : Nat} {us ys : List Value} {y : α} {w5 w6 : World} {s' : Pn} (h : RZ c z m Te base p d Td csf wS w1 n R acc s g cap us wl) (hm : m.Lawful) (hb : Below wl.heap.size wl w5) (h6 : RS base p wl.heap.size w5 s' w6) (hT : 77 ∉ Te :: m.ts) (hTe : Te ∉ m.ts) (hne : d ≠ p)
    (hy : m.own base w6 ys y) (hq : pC c s z = (y, s')) (hr : acc.length < n) (hbad : s.bad = false) : RL c z m Te base p d Td csf wS w1 n R (acc ++ [y]) s' (.slice (some ⟨g, 0, none⟩) (acc.length + 1) cap) ((w6.drewN q).setCells g (acc.length * m.n) ys) := by
  obtain ⟨a1, a2, a3⟩ := h.back hm hb h6 hT hne
  have hgb := a2.blk
  have e1 : LOwnZ Te m base (w6.drewN q) g cap acc us := a2.keep hm (fun _ _ _ _ _ hh => hh)
  have e2 : m.own base (w6.drewN q) ys y := hm.okeep hy (fun _ _ _ _ _ hh => hh)
  have hgr : (w6.drewN q).grownBy ((w6.drewN q).setCells g (acc.length * m.n) ys) (some g) := setCells_grown g ys _ _
  obtain ⟨p1, p2, p3⟩ := h.pos
  have hlow := h.low
  refine ⟨(h6.pr.drewN q).grown hgr (fun e => by injection e with e; omega) (fun k hk => by injection hk with hk; omega), h.c1, ?_, ?_, e1.fill hm hTe e2, fun k hk => ?_, h.pos, ?_⟩
  · have a4 := a3.drewN q
    exact ⟨hgr.os.trans a4.os, hgr.tape.trans a4.tape, hgr.output.trans a4.output, Nat.le_trans a4.size hgr.size, fun k hk f1 f2 => (hgr.block k (Nat.lt_of_lt_of_le hk a4.size) (fun e => by injection e with e; omega)).trans (a4.block k hk f1 f2)⟩
  · rw [hgr.block d (blk_lt a1) (fun e => by injection e with e; omega)]
    exact a1
  · simp [Value.ownBlock] at hk
    omega
  · rw [← h.rest, pIt_go hr hbad, hq]
    simp
end
theorem wpStill_load_mid {ops : Array Oper} {w : World} {Q : Act → Prop} {rest : List Oper} {op : Oper} {a : Act} (hgd : op.guard = none) (ty : TypeId) (x : Operand) (ho : op.op = .load ty x)
    (b o : Nat) (hx : a.eval x = .pointer (some ⟨b, o, none⟩)) (cs : List Value) (d : TypeDesc) (hc : w.rangeAt b o cs)
    (hu : Tryz.prog.underlying ty = some d) (hd : d.isRow = true) (hi : (Tryz.prog.info? ty).map (·.size) = some cs.length)
    (h : wpStill Tryz.prog ops w Q rest (a.put op.dst (.agg cs.toArray))) : wpStill Tryz.prog ops w Q (op :: rest) a := by
  unfold wpStill
  have : Region.wanted op (yielded ops a.tmps) = true := by simp [Region.wanted, hgd]
  rw [if_pos this]
  unfold Oper.still execOp
  simp only [ho, hx, Instr.loadAt, Instr.sureAddr, Sem.run_bind, Sem.run_pure, Result.andThen_ok, run_loadVar_mid w b o ty cs d hc hu hd hi]
  exact ⟨rfl, h⟩
end Go.Proofs.YtckooioikcenmaaGreat
namespace Go.Proofs.YtckooioikcenmaaGreat
open Go.RowKit
theorem setCells_size (w : World) (g o : Nat) (vs : List Value) : (w.setCells g o vs).heap.size = w.heap.size := by
  induction vs generalizing w o with
  | nil => rfl
  | cons v vs ih =>
    show ((w.setCell ⟨g, o, none⟩ v).setCells g (o + 1) vs).heap.size = _
    rw [ih]
    simp [World.setCell]
theorem range_of {w : World} {b : Nat} {vs : List Value} {T : TypeId} (h : w.heap[b]? = some (.cells vs.toArray T)) : (w.drewN 1).rangeAt b 0 vs := fun j v hj => by
  have h2 : (w.drewN 1).heap[b]? = some (.cells vs.toArray T) := h
  rw [blk_cell h2]
  simpa using hj
theorem LOwn.go {α : Type} {T : TypeId} {m : Mv α} {base p d : Nat} {w w' : World} {v : Value} {xs : List α} {st : Pn} {cs : Array Value} {Td : TypeId} (h : LOwn T m base w v xs) (hm : m.Lawful) (hp : PR base p w st) (hd : w.heap[d]? = some (.cells cs Td)) (hc : Chg p d w w') (h1 : 77 ∉ T :: m.ts) (h2 : Td ∉ T :: m.ts) : LOwn T m base w' v xs := by
  obtain ⟨ds, hp⟩ := hp.ty
  exact h.keep hm (hc.stay hp hd h1 h2)
theorem RS.alloc {base p q : Nat} {wA w : World} {st : Pn} (h : RS base p q wA st w) (o : Obj) : RS base p q wA st (w.alloc o) := ⟨h.pr.alloc o, h.chg.alloc o⟩
theorem RS.setQ {base p q : Nat} {wA w : World} {st : Pn} (h : RS base p q wA st w) (hne : q ≠ p) (hb : base ≤ q) (o : Nat) (u : Value) : RS base p q wA st (w.setCell ⟨q, o, none⟩ u) :=
  ⟨h.pr.grown (grow_set w q o u) (fun e => hne (by injection e)) (fun k hk => by injection hk with hk; omega), h.chg.setK o u⟩
theorem RZ.one {α : Type} {c : Cd α} {z : α} {m : Mv α} {Te : TypeId} {base p d : Nat} {Td : TypeId} {csf : Value → Array Value} {wS w1 : World} {n : Nat} {R : List α × Pn} {acc ac2 : List α} {s : Pn} {v u : Value} {w : World} {g : Nat} (hn : m.n = 1) (h : RL c z m Te base p d Td csf wS w1 n R ac2 s v (w.setCells g (acc.length * m.n) [u])) : RL c z m Te base p d Td csf wS w1 n R ac2 s v (w.setCell ⟨g, acc.length, none⟩ u) := by
  rw [hn, Nat.mul_one] at h
  exact h
theorem LOwnZ.one {α : Type} {T : TypeId} {m : Mv α} {base : Nat} {w : World} {g cap : Nat} {xs : List α} {us : List Value} {u : Value} (h : LOwnZ T m base w g cap xs us) (hn : m.n = 1) (hu : us[0]? = some u) : w.cell? ⟨g, xs.length, none⟩ = some u ∧ w.frozen? ⟨g, xs.length, none⟩ = false := by
  have h1 := h.range 0 u hu
  have h2 := (h.there rfl 0 (by rw [hn]; exact Nat.one_pos)).2
  rw [hn, Nat.mul_one] at h1 h2
  exact ⟨h1, h2⟩
theorem rdTask {base p q d : Nat} {wA w : World} {st s' : Pn} {x0 x1 x2 x3 x4 x5 x6 x7 x8 x9 : Int} {n0 : Value} (hs : RS base p q wA st w)
    (hd : w.heap[d]? = some (.cells #[n0, .int .i64 0, .int .i64 0, .int .u8 0, .int .i64 0, .int .i64 0, .int .i64 0, .int .i64 0, .int .i64 0, .int .i64 0, .int .i64 0] 138)) (hq : pC cTask st (0, (0, (0, (0, (0, (0, (0, (0, (0, 0))))))))) = ((x0, x1, x2, x3, x4, x5, x6, x7, x8, x9), s')) (hdq : d = q ∨ wA.heap.size ≤ d) (hne : d ≠ p) (hbd : base ≤ d) :
    Calls Tryz.prog 105 #[.pointer (some ⟨p, 0, none⟩), .pointer (some ⟨d, 1, none⟩)] w (RdPost base p q d wA s' 138 #[n0, .int .i64 x0, .int .i64 x1, .int .u8 x2, .int .i64 x3, .int .i64 x4, .int .i64 x5, .int .i64 x6, .int .i64 x7, .int .i64 x8, .int .i64 x9] w) := by
  obtain ⟨v, hv⟩ := hs.pr.pst
  have hvd : ∀ k, Value.readBlock v = some k → k ≠ d := fun k hk => by have := (hv.np k hk).2 hs.pr.rd; omega
  have hf : Fits cTask st (0, 0, 0, 0, 0, 0, 0, 0, 0, 0) := by
    have h1 := hs.pr.sm
    have h2 : (cTask.enc (0, 0, 0, 0, 0, 0, 0, 0, 0, 0)).length ≤ 100 := by decide +kernel
    unfold Fits
    omega
  have i0 : I64 0 := ⟨by decide, by decide⟩
  refine (penTask_any base p d v st 0 0 0 0 0 0 0 0 0 0 n0 w hv hd i0 i0 (by decide) i0 i0 i0 i0 i0 i0 i0 (fun _ => ⟨rfl, rfl, rfl, rfl, rfl, rfl, rfl, rfl, rfl, rfl⟩) hf hne hbd hvd).mono ?_
  rintro e w' ⟨rfl, v', h⟩
  have hr := pC_rd cTask st (0, 0, 0, 0, 0, 0, 0, 0, 0, 0)
  have hbs := pC_bs (c := cTask) (x := (0, 0, 0, 0, 0, 0, 0, 0, 0, 0)) hs.pr.rd
  rw [hq] at h hr hbs
  exact ⟨rfl, hs.into ⟨⟨v', h.pst⟩, hr.trans hs.pr.rd, by rw [hbs]; exact hs.pr.sm⟩ h.chg hdq, h.blk, h.chg⟩
end Go.Proofs.YtckooioikcenmaaGreat

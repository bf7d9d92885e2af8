/- A pen, that writes or reads: what each kind of data comes to. No program in sight. Conditions: none. -/
import Derived.Test.YtckooioikcenmaaGreatCkM1
import Derived.Test.YtckooioikcenmaaGreatCkM10
import Derived.Test.YtckooioikcenmaaGreatCkM3
namespace Go.Proofs.YtckooioikcenmaaGreat
open Go.RowKit
/-- a pen: its bytes, where it stands, whether it reads, has failed, has met a long text -/
structure Pn where
  bs : List UInt8
  pos : Int
  rd : Bool
  bad : Bool
  lg : Bool
/-- what a pen makes of data, and what becomes of the pen -/
def pC {α : Type} (c : Cd α) (st : Pn) (x : α) : α × Pn :=
  if st.rd = true then ((c.rd st.bs ⟨st.pos, st.bad⟩).1, { st with pos := (c.rd st.bs ⟨st.pos, st.bad⟩).2.pos, bad := (c.rd st.bs ⟨st.pos, st.bad⟩).2.bad })
  else (x, { st with bs := st.bs ++ c.enc x, lg := st.lg || !c.okt x })
theorem pC_read {α : Type} {c : Cd α} {st : Pn} {x : α} (h : st.rd = true) : pC c st x = ((c.rd st.bs ⟨st.pos, st.bad⟩).1, { st with pos := (c.rd st.bs ⟨st.pos, st.bad⟩).2.pos, bad := (c.rd st.bs ⟨st.pos, st.bad⟩).2.bad }) := by unfold pC; rw [if_pos h]
theorem pC_write {α : Type} {c : Cd α} {st : Pn} {x : α} (h : st.rd = false) : pC c st x = (x, { st with bs := st.bs ++ c.enc x, lg := st.lg || !c.okt x }) := by unfold pC; rw [if_neg (by simp [h])]
theorem pC_rd {α : Type} (c : Cd α) (st : Pn) (x : α) : (pC c st x).2.rd = st.rd := by
  unfold pC
  split <;> rfl
theorem pC_seq {α β : Type} (a : Cd α) (b : Cd β) (st : Pn) (x : α) (y : β) : pC (cSeq a b) st (x, y) = (((pC a st x).1, (pC b (pC a st x).2 y).1), (pC b (pC a st x).2 y).2) := by
  cases h : st.rd with
  | true =>
    have h2 : (pC a st x).2.rd = true := by rw [pC_rd, h]
    rw [pC_read h, pC_read h2, pC_read h]
    rfl
  | false =>
    have h2 : (pC a st x).2.rd = false := by rw [pC_rd, h]
    rw [pC_write h, pC_write h2, pC_write h]
    simp only [cSeq, List.append_assoc, Bool.not_and, Bool.or_assoc]
/-- there is room for what is written -/
def Fits {α : Type} (c : Cd α) (st : Pn) (x : α) : Prop := st.bs.length + (c.enc x).length ≤ 10000000000000
theorem Fits.left {α β : Type} {a : Cd α} {b : Cd β} {st : Pn} {x : α} {y : β} (h : Fits (cSeq a b) st (x, y)) : Fits a st x := by
  unfold Fits at h ⊢
  simp only [cSeq, List.length_append] at h
  omega
theorem Fits.right {α β : Type} {a : Cd α} {b : Cd β} {st : Pn} {x : α} {y : β} (h : Fits (cSeq a b) st (x, y)) : Fits b (pC a st x).2 y := by
  unfold Fits at h ⊢
  simp only [cSeq, List.length_append] at h
  unfold pC
  split
  · show st.bs.length + _ ≤ _; omega
  · simp only [List.length_append]; omega
/-- the pen stands where one may -/
def PnOk (st : Pn) : Prop := st.pos ≤ 140737488355328
theorem pC_ok {α : Type} {c : Cd α} (hc : c.Lawful) {st : Pn} {x : α} (hl : st.bs.length ≤ 140737488355328) (h : PnOk st) : PnOk (pC c st x).2 := by
  unfold pC
  split
  · exact hc.pos (s := ⟨st.pos, st.bad⟩) hl h
  · exact h
/-- how many there are -/
def pM (st : Pn) (n : Nat) : Nat × Pn :=
  if st.rd = true then
    if st.bad = true ∨ (getU st.bs st.pos).2.2 ≠ 0 ∨ st.bs.length < (getU st.bs st.pos).1 then (0, { st with bad := true })
    else ((getU st.bs st.pos).1, { st with pos := (getU st.bs st.pos).2.1 })
  else (n, { st with bs := st.bs ++ uv n })
end Go.Proofs.YtckooioikcenmaaGreat
namespace Go.Proofs.YtckooioikcenmaaGreat
open Go.RowKit
/-- a pen at p -/
structure PSt (base p : Nat) (w : World) (v : Value) (st : Pn) : Prop where
  pn : w.heap[p]? = some (.cells #[v, .int .i64 st.pos, .bool st.rd, .bool st.bad, .bool st.lg] 77)
  ok : RdB w v st.bs
  np : ∀ k, Value.readBlock v = some k → k ≠ p ∧ (st.rd = true → k < base)
  len0 : st.bs.length ≤ 20000000000000
  pos : PnOk st
  hr : base ≤ p
theorem PSt.lt {base p : Nat} {w : World} {v : Value} {st : Pn} (h : PSt base p w v st) : p < w.heap.size := blk_lt h.pn
/-- the bytes' block is the old one, or a new one -/
def NewV (w : World) (v v' : Value) : Prop := ∀ k, Value.readBlock v' = some k → Value.readBlock v = some k ∨ w.heap.size ≤ k
theorem NewV.refl (w : World) (v : Value) : NewV w v v := fun _ h => .inl h
theorem NewV.trans {w w' : World} {a b c : Value} (h : NewV w a b) (k : NewV w' b c) (hs : w.heap.size ≤ w'.heap.size) : NewV w a c := fun i hi => by
  rcases k i hi with h2 | h2
  · exact h i h2
  · exact .inr (by omega)
/-- what is left when a method has dealt with block d -/
structure CellSt (base p d : Nat) (v v' : Value) (st' : Pn) (T : TypeId) (cs : Array Value) (w w' : World) : Prop where
  pst : PSt base p w' v' st'
  blk : w'.heap[d]? = some (.cells cs T)
  chg : Chg p d w w'
  nv : NewV w v v'
  vd : ∀ k, Value.readBlock v' = some k → k ≠ d
def CellPost (base p d : Nat) (v : Value) (st' : Pn) (T : TypeId) (cs : Array Value) (w : World) (e : Ending) (w' : World) : Prop :=
  e = .returned (.tuple #[]) ∧ ∃ v', CellSt base p d v v' st' T cs w w'
theorem CellSt.trans {base p d : Nat} {v v1 v2 : Value} {s1 s2 : Pn} {T : TypeId} {c1 c2 : Array Value} {w w1 w2 : World} (h : CellSt base p d v v1 s1 T c1 w w1) (k : CellSt base p d v1 v2 s2 T c2 w1 w2) : CellSt base p d v v2 s2 T c2 w w2 :=
  ⟨k.pst, k.blk, h.chg.trans k.chg, h.nv.trans k.nv h.chg.size, k.vd⟩
theorem PSt.setD {base p d : Nat} {w : World} {v : Value} {st : Pn} (h : PSt base p w v st) (hne : d ≠ p) (hv : ∀ k, Value.readBlock v = some k → k ≠ d) (o : Nat) (u : Value) : PSt base p (w.setCell ⟨d, o, none⟩ u) v st :=
  ⟨blk_set_ne h.pn u (Ne.symm hne), h.ok.step (by simp [World.setCell]) (fun k hk _ => Below.heap_setCell _ _ _ _ (hv k hk)), h.np, h.len0, h.pos, h.hr⟩
theorem CellSt.set {base p d : Nat} {v v' : Value} {st : Pn} {T : TypeId} {cs : Array Value} {w w' : World} (h : CellSt base p d v v' st T cs w w') (hne : d ≠ p) (o : Nat) (u : Value) : CellSt base p d v v' st T (cs.setIfInBounds o u) w (w'.setCell ⟨d, o, none⟩ u) :=
  ⟨h.pst.setD hne h.vd o u, blk_set h.blk o u, h.chg.setK o u, h.nv, h.vd⟩
theorem CellSt.setBad {base p d : Nat} {v v' : Value} {st : Pn} {T : TypeId} {cs : Array Value} {w w' : World} (h : CellSt base p d v v' st T cs w w') (hne : d ≠ p) : CellSt base p d v v' { st with bad := true } T cs w (w'.setCell ⟨p, 3, none⟩ (.bool true)) :=
  ⟨⟨blk_set h.pst.pn 3 _, h.pst.ok.step (by simp [World.setCell]) (fun k hk _ => Below.heap_setCell _ _ _ _ (h.pst.np k hk).1), h.pst.np, h.pst.len0, h.pst.pos, h.pst.hr⟩, blk_set_ne h.blk _ hne, h.chg.setR 3 _, h.nv, h.vd⟩
/-- a method that has dealt with a block of its own -/
theorem CellSt.here {base p d g : Nat} {v v' : Value} {st : Pn} {T T' : TypeId} {cs ds : Array Value} {w w1 w2 : World} (h : CellSt base p g v v' st T' ds w1 w2) (hb : Below w.heap.size w w1) (hg : w.heap.size ≤ g) (hd : w.heap[d]? = some (.cells cs T)) (hvd : ∀ k, Value.readBlock v = some k → k ≠ d) (hne : d ≠ p) : CellSt base p d v v' st T cs w w2 :=
  ⟨h.pst, h.chg.blk (blk_below hb hd) hne (by have := blk_lt hd; omega), ⟨h.chg.os.trans hb.os, h.chg.tape.trans hb.tape, h.chg.output.trans hb.output, Nat.le_trans hb.size h.chg.size, fun k hk h1 _ => (h.chg.block k (Nat.lt_of_lt_of_le hk hb.size) h1 (by omega)).trans (hb.block k hk)⟩,
    fun k hk => (h.nv k hk).imp id (fun h9 => Nat.le_trans hb.size h9), fun k hk => by
      rcases h.nv k hk with h9 | h9
      · exact hvd k h9
      · have := blk_lt hd; have := hb.size; omega⟩
theorem PSt.below {base p : Nat} {w w' : World} {v : Value} {st : Pn} (h : PSt base p w v st) (hb : Below w.heap.size w w') : PSt base p w' v st :=
  ⟨blk_below hb h.pn, h.ok.below hb, h.np, h.len0, h.pos, h.hr⟩
/-- at the start -/
theorem PSt.cell {base p d : Nat} {w : World} {v : Value} {st : Pn} {T : TypeId} {cs : Array Value} (h : PSt base p w v st) (hd : w.heap[d]? = some (.cells cs T)) (hvd : ∀ k, Value.readBlock v = some k → k ≠ d) : CellSt base p d v v st T cs w w := ⟨h, hd, Chg.refl _ _ _, NewV.refl _ _, hvd⟩
theorem RdB.blkLt {w : World} {v : Value} {ys : List UInt8} (h : RdB w v ys) : ∀ k, Value.readBlock v = some k → k < w.heap.size := by
  rcases h with ⟨rfl, _⟩ | ⟨b, o, c, rfl, _, _, h3, _⟩
  · intro k hk; cases hk
  · intro k hk
    have : b = k := by simpa [Value.readBlock] using hk
    omega
theorem Bytes.readBlock {base : Nat} {w : World} {v : Value} {xs : List UInt8} (h : Bytes base w v xs) : ∀ k, Value.readBlock v = some k → base ≤ k := by
  rcases h.2 with ⟨rfl, _⟩ | ⟨g, cap, cur, rfl, hb, _⟩
  · intro k hk; cases hk
  · intro k hk
    have : g = k := by simpa [Value.readBlock] using hk
    omega
theorem below_drewN_start {w w' : World} {q B : Nat} (h : Below B (w.drewN q) w') : Below B w w' := ⟨h.os, h.tape, h.output, h.size, h.block⟩
/-- behind the store of what a call has made -/
theorem PSt.wrote {base p d : Nat} {w w1 : World} {v v' : Value} {bs xs : List UInt8} {pos : Int} {bad lg : Bool} {T : TypeId} {cs : Array Value} (h : PSt base p w v ⟨bs, pos, false, bad, lg⟩) (hd : w.heap[d]? = some (.cells cs T)) (hne : d ≠ p) (hb : Below w.heap.size w w1) (ho : Bytes w.heap.size w1 v' xs) (hl : xs.length ≤ 20000000000000) :
    CellPost base p d v ⟨xs, pos, false, bad, lg⟩ T cs w (.returned (.tuple #[])) (w1.setCell ⟨p, 0, none⟩ v') := by
  have h1 := blk_below hb h.pn
  have hlt := h.lt
  have hn : some p ≠ v'.ownBlock := far_T (by decide) h1 ho
  refine ⟨rfl, v', ⟨blk_set h1 0 _, (ho.set (a := ⟨p, 0, none⟩) hn _).reads, fun k hk => ⟨?_, fun h9 => by cases h9⟩, hl, h.pos, h.hr⟩, ?_, (Chg.of_below hb).setR 0 _, fun k hk => .inr (ho.readBlock k hk), fun k hk => by have := ho.readBlock k hk; have := blk_lt hd; omega⟩
  · have := ho.readBlock k hk
    omega
  · rw [← blk_below hb hd]
    exact Below.heap_setCell _ _ _ _ hne
set_option maxRecDepth 20000 in
set_option maxHeartbeats 1000000 in
theorem penNum_write (base p d o : Nat) (v : Value) (bs : List UInt8) (pos x : Int) (bad lg : Bool) (T : TypeId) (cs : Array Value) (w : World) (hs : PSt base p w v ⟨bs, pos, false, bad, lg⟩) (hd : w.heap[d]? = some (.cells cs T)) (hx : cs[o]? = some (.int .i64 x)) (hI : I64 x) (hl : bs.length ≤ 10000000000000) (hne : d ≠ p) :
    Calls Tryz.prog 53 #[.pointer (some ⟨p, 0, none⟩), .pointer (some ⟨d, o, none⟩)] w (CellPost base p d v ⟨bs ++ iv x, pos, false, bad, lg⟩ T cs w) := by
  have c0 : w.cell? ⟨p, 0, none⟩ = some v := by rw [blk_cell hs.pn]; rfl
  have c2 : w.cell? ⟨p, 2, none⟩ = some (.bool false) := by rw [blk_cell hs.pn]; rfl
  have fz := blk_free hs.pn 0
  have cx : w.cell? ⟨d, o, none⟩ = some (.int .i64 x) := by rw [blk_cell hd]; exact hx
  have HC := Lib.hid (fun q => rfInt_any v bs x (w.drewN q) hI.1 hI.2 (hs.ok.drewN q) (by omega))
  have HS := Lib.hid hs
  have HD := Lib.hid hd
  obtain ⟨A, c, rfl, _, _⟩ := hs.ok.form
  clear hs hd
  go_enter Tryz.func53, Tryz.ntmps53
  go_wp2
  go_region_with ((go_at_call 91; refine (HC.out _).mono ?_; rintro e w1 ⟨v1, rfl, hown, hb⟩; obtain ⟨A1, n1, c1, rfl⟩ := hown.form; have HO1 := Lib.hid hown; have HB1 := Lib.hid (below_drewN_start hb); have HP1 := Lib.hid (blk_below HB1.out HS.out.pn); have HD1 := Lib.hid (blk_below HB1.out HD.out); have t0 := blk_cell HP1.out 0; have t1 := blk_cell HD1.out o; have t2 := blk_free HP1.out 0; rw [hx] at t1; simp at t0; clear hown hb))
  all_goals (
    have HF := Lib.hid (HS.out.wrote HD.out hne HB1.out HO1.out (by rw [List.length_append]; have := iv_len hI; omega))
    go_wp2
    exact bodyPost_ret (v := .tuple #[]) (by simp [results]) rfl HF.out)
/-- behind the stores of a method that reads -/
theorem PSt.was {base p d o : Nat} {w : World} {v u : Value} {bs : List UInt8} {pos pos' : Int} {bad lg : Bool} {T : TypeId} {cs : Array Value} (q : Nat) (h : PSt base p w v ⟨bs, pos, true, bad, lg⟩) (hd : w.heap[d]? = some (.cells cs T)) (hne : d ≠ p) (hbd : base ≤ d) (hp : pos' ≤ 140737488355328) (hvd : ∀ k, Value.readBlock v = some k → k ≠ d) :
    CellPost base p d v ⟨bs, pos', true, bad, lg⟩ T (cs.setIfInBounds o u) w (.returned (.tuple #[])) (((w.drewN q).setCell ⟨d, o, none⟩ u).setCell ⟨p, 1, none⟩ (.int .i64 pos')) := by
  have h0 : (w.drewN q).heap[p]? = some (.cells #[v, .int .i64 pos, .bool true, .bool bad, .bool lg] 77) := h.pn
  have hd0 : (w.drewN q).heap[d]? = some (.cells cs T) := hd
  have h1 := blk_set_ne (a := ⟨d, o, none⟩) h0 u (Ne.symm hne)
  have h2 := blk_set hd0 o u
  have hc : Chg p d w (((w.drewN q).setCell ⟨d, o, none⟩ u).setCell ⟨p, 1, none⟩ (.int .i64 pos')) := (((Chg.refl p d w).drewN q).setK o u).setR 1 _
  refine ⟨rfl, v, ⟨blk_set h1 1 _, ?_, h.np, h.len0, hp, h.hr⟩, blk_set_ne h2 _ hne, hc, NewV.refl _ _, hvd⟩
  exact h.ok.step hc.size (fun k hk hlt => hc.block k hlt (h.np k hk).1 (by have := (h.np k hk).2 rfl; omega))
theorem PSt.failed {base p d : Nat} {w : World} {v : Value} {bs : List UInt8} {pos : Int} {bad lg : Bool} {T : TypeId} {cs : Array Value} (q : Nat) (h : PSt base p w v ⟨bs, pos, true, bad, lg⟩) (hd : w.heap[d]? = some (.cells cs T)) (hne : d ≠ p) (hvd : ∀ k, Value.readBlock v = some k → k ≠ d) :
    CellPost base p d v ⟨bs, pos, true, true, lg⟩ T cs w (.returned (.tuple #[])) ((w.drewN q).setCell ⟨p, 3, none⟩ (.bool true)) := by
  have h0 : (w.drewN q).heap[p]? = some (.cells #[v, .int .i64 pos, .bool true, .bool bad, .bool lg] 77) := h.pn
  have hd0 : (w.drewN q).heap[d]? = some (.cells cs T) := hd
  have hc : Chg p d w ((w.drewN q).setCell ⟨p, 3, none⟩ (.bool true)) := ((Chg.refl p d w).drewN q).setR 3 _
  refine ⟨rfl, v, ⟨blk_set h0 3 _, ?_, h.np, h.len0, h.pos, h.hr⟩, blk_set_ne hd0 _ hne, hc, NewV.refl _ _, hvd⟩
  exact (h.ok.drewN q).step (by simp [World.setCell]) (fun k hk hlt => Below.heap_setCell _ _ _ _ (h.np k hk).1)
theorem set_same {cs : Array Value} {o : Nat} {u : Value} (h : cs[o]? = some u) : cs.setIfInBounds o u = cs := by
  apply Array.ext_getElem?
  intro i
  rw [Array.getElem?_setIfInBounds]
  split
  · rename_i e
    subst e
    rw [if_pos (Array.getElem?_eq_some_iff.1 h).1, h]
  · rfl
set_option maxRecDepth 20000 in
set_option maxHeartbeats 1000000 in
theorem penNum_read (base p d o : Nat) (v : Value) (bs : List UInt8) (pos : Int) (bad lg : Bool) (T : TypeId) (cs : Array Value) (w : World) (hs : PSt base p w v ⟨bs, pos, true, bad, lg⟩) (hd : w.heap[d]? = some (.cells cs T)) (hx : cs[o]? = some (.int .i64 0)) (hne : d ≠ p) (hbd : base ≤ d) (hvd : ∀ k, Value.readBlock v = some k → k ≠ d) :
    Calls Tryz.prog 53 #[.pointer (some ⟨p, 0, none⟩), .pointer (some ⟨d, o, none⟩)] w (CellPost base p d v ⟨bs, (rdI bs ⟨pos, bad⟩).2.pos, true, (rdI bs ⟨pos, bad⟩).2.bad, lg⟩ T (cs.setIfInBounds o (.int .i64 (rdI bs ⟨pos, bad⟩).1)) w) := by
  have HVD := Lib.hid hvd
  clear hvd
  have hlen0 : bs.length ≤ 20000000000000 := hs.len0
  have HPOS := Lib.hid (rdI_pos (ys := bs) (s := ⟨pos, bad⟩) (by omega) hs.pos)
  have hp : pos ≤ 140737488355328 := hs.pos
  have c0 : w.cell? ⟨p, 0, none⟩ = some v := by rw [blk_cell hs.pn]; rfl
  have c1 : w.cell? ⟨p, 1, none⟩ = some (.int .i64 pos) := by rw [blk_cell hs.pn]; rfl
  have c2 : w.cell? ⟨p, 2, none⟩ = some (.bool true) := by rw [blk_cell hs.pn]; rfl
  have c3 : w.cell? ⟨p, 3, none⟩ = some (.bool bad) := by rw [blk_cell hs.pn]; rfl
  have f1 := blk_free hs.pn 1
  have f3 := blk_free hs.pn 3
  have cx : w.cell? ⟨d, o, none⟩ = some (.int .i64 0) := by rw [blk_cell hd]; exact hx
  have fx := blk_free hd o
  have hG : Hid (∀ q, Calls Tryz.prog 92 #[v, .int .i64 pos] (w.drewN q) fun e w' => e = .returned (.tuple #[.int .i64 (getI bs pos).1, .int .i64 (getI bs pos).2.1, .int .i64 (getI bs pos).2.2]) ∧ ∃ m', w' = w.drewN m') :=
    fun q => (rfGetInt_any v bs pos (w.drewN q) (hs.ok.drewN q) (by omega) (by omega)).mono fun e w' h => by
      obtain ⟨h1, h2⟩ := h
      exact ⟨h1, q, h2.symm⟩
  have HS := Lib.hid hs
  have HD := Lib.hid hd
  obtain ⟨A, c, rfl, _, _⟩ := hs.ok.form
  clear hs hd
  have hnp : p ≠ d := Ne.symm hne
  cases bad with
  | true =>
    have hdd := Lib.hid (show rdI bs ⟨pos, true⟩ = (0, ⟨pos, true⟩) by simp [rdI])
    generalize (getI bs pos).1 = n at *
    generalize (getI bs pos).2.1 = m at *
    generalize (getI bs pos).2.2 = e at *
    go_enter Tryz.func53, Tryz.ntmps53
    go_wp2
    go_quiet ((go_at_call 92; exact hG.out _))
    go_wp2
    refine bodyPost_ret (v := .tuple #[]) (by simp [results]) rfl ?_
    rw [hdd.out, set_same hx]
    exact HS.out.failed _ HD.out hne HVD.out
  | false =>
    have hdd := Lib.hid (show rdI bs ⟨pos, false⟩ = if (getI bs pos).2.2 ≠ 0 then ((0 : Int), (⟨pos, true⟩ : Rd)) else ((getI bs pos).1, ⟨(getI bs pos).2.1, false⟩) by simp [rdI])
    generalize (getI bs pos).1 = n at *
    generalize (getI bs pos).2.1 = m at *
    generalize (getI bs pos).2.2 = e at *
    by_cases he : e ≠ 0
    · have HDD := Lib.hid (hdd.out.trans (if_pos he))
      clear hdd
      go_enter Tryz.func53, Tryz.ntmps53
      go_wp2
      go_quiet ((go_at_call 92; exact hG.out _))
      go_wp2
      refine bodyPost_ret (v := .tuple #[]) (by simp [results]) rfl ?_
      rw [HDD.out, set_same hx]
      exact HS.out.failed _ HD.out hne HVD.out
    · obtain rfl : e = 0 := Classical.not_not.1 he
      have HDD := Lib.hid (hdd.out.trans (if_neg (by simp)))
      clear hdd
      go_enter Tryz.func53, Tryz.ntmps53
      go_wp2
      go_quiet ((go_at_call 92; exact hG.out _))
      go_wp2
      refine bodyPost_ret (v := .tuple #[]) (by simp [results]) rfl ?_
      have hpo := HPOS.out
      rw [HDD.out] at hpo ⊢
      exact HS.out.was _ HD.out hne hbd hpo HVD.out
/-- num, either way -/
theorem penNum_any (base p d o : Nat) (v : Value) (st : Pn) (x : Int) (T : TypeId) (cs : Array Value) (w : World) (hs : PSt base p w v st) (hd : w.heap[d]? = some (.cells cs T)) (hx : cs[o]? = some (.int .i64 x)) (hI : I64 x) (hz : st.rd = true → x = 0) (hl : Fits cI st x) (hne : d ≠ p) (hbd : base ≤ d) (hvd : ∀ k, Value.readBlock v = some k → k ≠ d) :
    Calls Tryz.prog 53 #[.pointer (some ⟨p, 0, none⟩), .pointer (some ⟨d, o, none⟩)] w (CellPost base p d v (pC cI st x).2 T (cs.setIfInBounds o (.int .i64 (pC cI st x).1)) w) := by
  obtain ⟨bs, pos, rd, bad, lg⟩ := st
  cases rd with
  | true =>
    obtain rfl : x = 0 := hz rfl
    rw [pC_read rfl]
    exact penNum_read base p d o v bs pos bad lg T cs w hs hd hx hne hbd hvd
  | false =>
    rw [pC_write rfl]
    have hl2 : bs.length + (iv x).length ≤ 10000000000000 := hl
    have hlg : (lg || !cI.okt x) = lg := by simp [cI]
    rw [show ({ ({ bs := bs, pos := pos, rd := false, bad := bad, lg := lg } : Pn) with bs := bs ++ cI.enc x, lg := lg || !cI.okt x } : Pn) = ⟨bs ++ iv x, pos, false, bad, lg⟩ by rw [hlg]; rfl, set_same hx]
    exact penNum_write base p d o v bs pos x bad lg T cs w hs hd hx hI (by omega) hne
end Go.Proofs.YtckooioikcenmaaGreat
namespace Go.Proofs.YtckooioikcenmaaGreat
open Go.RowKit
theorem own_new {w : World} {st : Pn} {base p : Nat} {v : Value} (h : PSt base p w v st) (o : Obj) : PSt base p (w.alloc o) v st := h.below ((Below.refl _ _).alloc (Nat.le_refl _) o)
theorem pC_cI_rng {st : Pn} {x : Int} (hl : st.bs.length ≤ 20000000000000) (hI : I64 x) : I64 (pC cI st x).1 := by
  unfold pC
  split
  · show I64 (rdI st.bs ⟨st.pos, st.bad⟩).1
    unfold rdI getI
    split
    · unfold I64; omega
    · split
      · unfold I64; simp
      · exact zig_range (getU_range st.bs st.pos (by omega)).1
  · exact hI
set_option maxRecDepth 20000 in
set_option maxHeartbeats 1000000 in
theorem penWhole_any (base p d o : Nat) (v : Value) (st : Pn) (x : Int) (T : TypeId) (cs : Array Value) (w : World) (hs : PSt base p w v st) (hd : w.heap[d]? = some (.cells cs T)) (hx : cs[o]? = some (.int .i64 x)) (hI : I64 x) (hz : st.rd = true → x = 0) (hl : Fits cI st x) (hne : d ≠ p) (hbd : base ≤ d) (hvd : ∀ k, Value.readBlock v = some k → k ≠ d) :
    Calls Tryz.prog 54 #[.pointer (some ⟨p, 0, none⟩), .pointer (some ⟨d, o, none⟩)] w (CellPost base p d v (pC cI st x).2 T (cs.setIfInBounds o (.int .i64 (pC cI st x).1)) w) := by
  have cx : w.cell? ⟨d, o, none⟩ = some (.int .i64 x) := by rw [blk_cell hd]; exact hx
  have hdl := blk_lt hd
  have hrng := pC_cI_rng (x := x) hs.len0 hI
  have HC := Lib.hid (penNum_any base p w.heap.size 0 v st x 2 #[.int .i64 x] (w.alloc (.cells #[.int .i64 x] 2)) (own_new hs _) (alloc_at w _) rfl hI hz hl (by have := hs.lt; omega) (by omega) (fun k hk => by have := hs.ok.blkLt k hk; omega))
  have HS := Lib.hid hs
  have HD := Lib.hid hd
  have HV := Lib.hid hvd
  generalize (pC cI st x).1 = y at *
  generalize (pC cI st x).2 = st2 at *
  clear hs hd hvd hz hl
  unfold I64 at hI hrng
  go_enter Tryz.func54, Tryz.ntmps54
  go_wp2_with fail
  refine HC.out.mono ?_
  rintro e w2 ⟨rfl, v2, hc⟩
  have h1 := blk_cell hc.blk 0
  have h2 := hc.here ((Below.refl _ _).alloc (Nat.le_refl _) _) (Nat.le_refl _) HD.out HV.out hne
  have h3 := blk_free h2.blk o
  have h4 := Lib.hid (h2.set hne o (.int .i64 y))
  have h5 : w2.cell? ⟨d, o, none⟩ = some (.int .i64 x) := by rw [blk_cell h2.blk]; exact hx
  simp at h1
  clear hc h2
  go_wp2
  exact bodyPost_ret (v := .tuple #[]) (by simp [results]) rfl ⟨rfl, v2, h4.out⟩
theorem pC_cB {st : Pn} {x : Int} (h0 : 0 ≤ x ∧ x ≤ 255) : pC cB st x = if (pC cI st x).1 < 0 ∨ 255 < (pC cI st x).1 then (0, { (pC cI st x).2 with bad := true }) else pC cI st x := by
  cases h : st.rd with
  | true =>
    rw [pC_read h, pC_read h]
    show ((rdB st.bs ⟨st.pos, st.bad⟩).1, _) = if (rdI st.bs ⟨st.pos, st.bad⟩).1 < 0 ∨ 255 < (rdI st.bs ⟨st.pos, st.bad⟩).1 then _ else _
    by_cases hc : (rdI st.bs ⟨st.pos, st.bad⟩).1 < 0 ∨ 255 < (rdI st.bs ⟨st.pos, st.bad⟩).1
    · rw [if_pos hc]
      have e : cB.rd st.bs ⟨st.pos, st.bad⟩ = (0, ⟨(rdI st.bs ⟨st.pos, st.bad⟩).2.pos, true⟩) := if_pos hc
      have e2 : rdB st.bs ⟨st.pos, st.bad⟩ = (0, ⟨(rdI st.bs ⟨st.pos, st.bad⟩).2.pos, true⟩) := if_pos hc
      rw [e, e2]
      rfl
    · rw [if_neg hc]
      have e : cB.rd st.bs ⟨st.pos, st.bad⟩ = rdI st.bs ⟨st.pos, st.bad⟩ := if_neg hc
      have e2 : rdB st.bs ⟨st.pos, st.bad⟩ = rdI st.bs ⟨st.pos, st.bad⟩ := if_neg hc
      rw [e, e2]
      rfl
  | false =>
    rw [pC_write h, pC_write h, if_neg (by show ¬ (x < 0 ∨ 255 < x); omega)]
    rfl
theorem pC_cF (st : Pn) (b : Bool) : pC cF st b = (decide ((pC cI st (boolI b)).1 = 1), if (pC cI st (boolI b)).1 ≠ 0 ∧ (pC cI st (boolI b)).1 ≠ 1 then { (pC cI st (boolI b)).2 with bad := true } else (pC cI st (boolI b)).2) := by
  cases h : st.rd with
  | true =>
    rw [pC_read h, pC_read h]
    show (decide ((rdI st.bs ⟨st.pos, st.bad⟩).1 = 1), ({ st with pos := (rdI st.bs ⟨st.pos, st.bad⟩).2.pos, bad := (rdI st.bs ⟨st.pos, st.bad⟩).2.bad || (decide ((rdI st.bs ⟨st.pos, st.bad⟩).1 ≠ 0) && decide ((rdI st.bs ⟨st.pos, st.bad⟩).1 ≠ 1)) } : Pn)) = (decide ((rdI st.bs ⟨st.pos, st.bad⟩).1 = 1), if (rdI st.bs ⟨st.pos, st.bad⟩).1 ≠ 0 ∧ (rdI st.bs ⟨st.pos, st.bad⟩).1 ≠ 1 then _ else _)
    refine Prod.ext rfl ?_
    by_cases h0 : (rdI st.bs ⟨st.pos, st.bad⟩).1 ≠ 0 <;> by_cases h1 : (rdI st.bs ⟨st.pos, st.bad⟩).1 ≠ 1
    · rw [if_pos ⟨h0, h1⟩, decide_eq_true h0, decide_eq_true h1]; simp; first | rfl | exact ⟨rfl, rfl⟩
    · rw [if_neg (by simp [h1]), decide_eq_false h1]; simp; first | rfl | exact ⟨rfl, rfl⟩
    · rw [if_neg (by simp [h0]), decide_eq_false h0]; simp; first | rfl | exact ⟨rfl, rfl⟩
    · rw [if_neg (by simp [h0]), decide_eq_false h0]; simp; first | rfl | exact ⟨rfl, rfl⟩
  | false =>
    rw [pC_write h, pC_write h]
    refine Prod.ext ?_ ?_
    · show b = decide (boolI b = 1)
      cases b <;> rfl
    · show _ = if boolI b ≠ 0 ∧ boolI b ≠ 1 then _ else _
      rw [if_neg (by cases b <;> simp [boolI])]
      rfl
set_option maxRecDepth 20000 in
set_option maxHeartbeats 1000000 in
theorem penSmall_any (base p d o : Nat) (v : Value) (st : Pn) (x : Int) (T : TypeId) (cs : Array Value) (w : World) (hs : PSt base p w v st) (hd : w.heap[d]? = some (.cells cs T)) (hx : cs[o]? = some (.int .u8 x)) (hI : 0 ≤ x ∧ x ≤ 255) (hz : st.rd = true → x = 0) (hl : Fits cB st x) (hne : d ≠ p) (hbd : base ≤ d) (hvd : ∀ k, Value.readBlock v = some k → k ≠ d) :
    Calls Tryz.prog 51 #[.pointer (some ⟨p, 0, none⟩), .pointer (some ⟨d, o, none⟩)] w (CellPost base p d v (pC cB st x).2 T (cs.setIfInBounds o (.int .u8 (pC cB st x).1)) w) := by
  have cx : w.cell? ⟨d, o, none⟩ = some (.int .u8 x) := by rw [blk_cell hd]; exact hx
  have hdl := blk_lt hd
  have hI2 : I64 x := by unfold I64; omega
  have hrng := pC_cI_rng (x := x) hs.len0 hI2
  have hpl := hs.lt
  have HC := Lib.hid (penNum_any base p w.heap.size 0 v st x 2 #[.int .i64 x] (w.alloc (.cells #[.int .i64 x] 2)) (own_new hs _) (alloc_at w _) rfl hI2 hz hl (by omega) (by omega) (fun k hk => by have := hs.ok.blkLt k hk; omega))
  have HS := Lib.hid hs
  have HD := Lib.hid hd
  have HV := Lib.hid hvd
  have HE := Lib.hid (pC_cB (st := st) hI)
  have HW : Hid (st.rd = false → (pC cI st x).1 = x) := fun h => by rw [pC_write h]
  have HZ := Lib.hid hz
  obtain ⟨y, hy⟩ : ∃ y, (pC cI st x).1 = y := ⟨_, rfl⟩
  obtain ⟨st2, hst⟩ : ∃ s, (pC cI st x).2 = s := ⟨_, rfl⟩
  have hp : pC cI st x = (y, st2) := Prod.ext hy hst
  rw [hp] at HE HW HC hrng
  simp only at HE HW HC hrng
  clear hs hd hvd hz hl hy hst hp
  unfold I64 at hrng
  by_cases hc : y < 0 ∨ 255 < y
  · have HE2 := Lib.hid (HE.out.trans (if_pos hc))
    have hx0 : Hid (x = 0) := by
      cases h : st.rd with
      | true => exact HZ.out h
      | false => have := HW.out h; subst this; omega
    by_cases hc0 : y < 0
    · clear hc HE HW HZ
      go_enter Tryz.func51, Tryz.ntmps51
      go_wp2_with fail
      refine HC.out.mono ?_
      rintro e w2 ⟨rfl, v2, hc⟩
      have h1 := blk_cell hc.blk 0
      have h2 := hc.here ((Below.refl _ _).alloc (Nat.le_refl _) _) (Nat.le_refl _) HD.out HV.out hne
      have h6 := blk_free h2.pst.pn 3
      have h7 := blk_cell h2.pst.pn 3
      have h4 := Lib.hid (h2.setBad hne)
      simp at h1 h7
      clear hc h2
      go_wp2
      refine bodyPost_ret (v := .tuple #[]) (by simp [results]) rfl ⟨rfl, v2, ?_⟩
      rw [HE2.out, set_same (by rw [hx, hx0.out])]
      exact h4.out
    · have hc1 : 255 < y := by omega
      clear hc HE HW HZ
      go_enter Tryz.func51, Tryz.ntmps51
      go_wp2_with fail
      refine HC.out.mono ?_
      rintro e w2 ⟨rfl, v2, hc⟩
      have h1 := blk_cell hc.blk 0
      have h2 := hc.here ((Below.refl _ _).alloc (Nat.le_refl _) _) (Nat.le_refl _) HD.out HV.out hne
      have h6 := blk_free h2.pst.pn 3
      have h7 := blk_cell h2.pst.pn 3
      have h4 := Lib.hid (h2.setBad hne)
      simp at h1 h7
      clear hc h2
      go_wp2
      refine bodyPost_ret (v := .tuple #[]) (by simp [results]) rfl ⟨rfl, v2, ?_⟩
      rw [HE2.out, set_same (by rw [hx, hx0.out])]
      exact h4.out
  · have HE2 := Lib.hid (HE.out.trans (if_neg hc))
    have hc1 : ¬ y < 0 := by omega
    have hc2 : ¬ 255 < y := by omega
    clear hc HE HW HZ
    go_enter Tryz.func51, Tryz.ntmps51
    go_wp2_with fail
    refine HC.out.mono ?_
    rintro e w2 ⟨rfl, v2, hc⟩
    have h1 := blk_cell hc.blk 0
    have h2 := hc.here ((Below.refl _ _).alloc (Nat.le_refl _) _) (Nat.le_refl _) HD.out HV.out hne
    have h3 := blk_free h2.blk o
    have h4 := Lib.hid (h2.set hne o (.int .u8 y))
    have h5 : w2.cell? ⟨d, o, none⟩ = some (.int .u8 x) := by rw [blk_cell h2.blk]; exact hx
    simp at h1
    clear hc h2
    go_wp2
    refine bodyPost_ret (v := .tuple #[]) (by simp [results]) rfl ⟨rfl, v2, ?_⟩
    rw [HE2.out]
    exact h4.out
set_option maxRecDepth 20000 in
set_option maxHeartbeats 1000000 in
theorem penFlag_any (base p d o : Nat) (v : Value) (st : Pn) (x : Bool) (T : TypeId) (cs : Array Value) (w : World) (hs : PSt base p w v st) (hd : w.heap[d]? = some (.cells cs T)) (hx : cs[o]? = some (.bool x)) (hz : st.rd = true → x = false) (hl : Fits cF st x) (hne : d ≠ p) (hbd : base ≤ d) (hvd : ∀ k, Value.readBlock v = some k → k ≠ d) :
    Calls Tryz.prog 71 #[.pointer (some ⟨p, 0, none⟩), .pointer (some ⟨d, o, none⟩)] w (CellPost base p d v (pC cF st x).2 T (cs.setIfInBounds o (.bool (pC cF st x).1)) w) := by
  have cx : w.cell? ⟨d, o, none⟩ = some (.bool x) := by rw [blk_cell hd]; exact hx
  have hdl := blk_lt hd
  have hpl := hs.lt
  have HC := Lib.hid (penNum_any base p w.heap.size 0 v st (boolI x) 2 #[.int .i64 (boolI x)] (w.alloc (.cells #[.int .i64 (boolI x)] 2)) (own_new hs _) (alloc_at w _) rfl (boolI_range x) (fun h => by rw [hz h]; rfl) hl (by omega) (by have := hs.hr; omega) (fun k hk => by have := hs.ok.blkLt k hk; omega))
  have HD := Lib.hid hd
  have HV := Lib.hid hvd
  have HE := Lib.hid (pC_cF st x)
  obtain ⟨y, hy⟩ : ∃ y, (pC cI st (boolI x)).1 = y := ⟨_, rfl⟩
  obtain ⟨st2, hst⟩ : ∃ s, (pC cI st (boolI x)).2 = s := ⟨_, rfl⟩
  have hp : pC cI st (boolI x) = (y, st2) := Prod.ext hy hst
  rw [hp] at HE HC
  simp only at HE HC
  clear hs hd hvd hz hl hy hst hp
  cases x with
  | true =>
    rw [show boolI true = 1 from rfl] at HC
    go_enter Tryz.func71, Tryz.ntmps71
    go_wp2_with fail
    refine HC.out.mono ?_
    rintro e w2 ⟨rfl, v2, hc⟩
    have h1 := blk_cell hc.blk 0
    have h2 := hc.here ((Below.refl _ _).alloc (Nat.le_refl _) _) (Nat.le_refl _) HD.out HV.out hne
    have h3 := blk_free h2.blk o
    have h5 : w2.cell? ⟨d, o, none⟩ = some (.bool true) := by rw [blk_cell h2.blk]; exact hx
    have h6 := blk_free h2.pst.pn 3
    have h7 := blk_cell h2.pst.pn 3
    simp at h1 h7
    have H2 := Lib.hid h2
    clear hc h2
    by_cases hc0 : y = 0
    · subst hc0
      rw [if_neg (by simp)] at HE
      have H4 := Lib.hid (H2.out.set hne o (.bool false))
      go_wp2
      refine bodyPost_ret (v := .tuple #[]) (by simp [results]) rfl ⟨rfl, v2, ?_⟩
      rw [HE.out]
      exact H4.out
    · by_cases hc1 : y = 1
      · subst hc1
        rw [if_neg (by simp)] at HE
        have H4 := Lib.hid (H2.out.set hne o (.bool true))
        go_wp2
        refine bodyPost_ret (v := .tuple #[]) (by simp [results]) rfl ⟨rfl, v2, ?_⟩
        rw [HE.out]
        exact H4.out
      · rw [if_pos ⟨hc0, hc1⟩, decide_eq_false hc1] at HE
        have H3 := Lib.hid (H2.out.setBad hne)
        have h8 := blk_free H3.out.blk o
        have h9 : (w2.setCell ⟨p, 3, none⟩ (.bool true)).cell? ⟨d, o, none⟩ = some (.bool true) := by rw [blk_cell H3.out.blk]; exact hx
        have h10 := blk_cell H3.out.pst.pn 3
        have H4 := Lib.hid (H3.out.set hne o (.bool false))
        simp at h10
        have hb0 : (y != 0) = true := by simp [hc0]
        have hb2 : (y != 1) = true := by simp [hc1]
        have hb1 : (y == 1) = false := by simp [hc1]
        go_wp2
        refine bodyPost_ret (v := .tuple #[]) (by simp [results]) rfl ⟨rfl, v2, ?_⟩
        rw [HE.out]
        exact H4.out
  | false =>
    rw [show boolI false = 0 from rfl] at HC
    go_enter Tryz.func71, Tryz.ntmps71
    go_wp2_with fail
    refine HC.out.mono ?_
    rintro e w2 ⟨rfl, v2, hc⟩
    have h1 := blk_cell hc.blk 0
    have h2 := hc.here ((Below.refl _ _).alloc (Nat.le_refl _) _) (Nat.le_refl _) HD.out HV.out hne
    have h3 := blk_free h2.blk o
    have h5 : w2.cell? ⟨d, o, none⟩ = some (.bool false) := by rw [blk_cell h2.blk]; exact hx
    have h6 := blk_free h2.pst.pn 3
    have h7 := blk_cell h2.pst.pn 3
    simp at h1 h7
    have H2 := Lib.hid h2
    clear hc h2
    by_cases hc0 : y = 0
    · subst hc0
      rw [if_neg (by simp)] at HE
      have H4 := Lib.hid (H2.out.set hne o (.bool false))
      go_wp2
      refine bodyPost_ret (v := .tuple #[]) (by simp [results]) rfl ⟨rfl, v2, ?_⟩
      rw [HE.out]
      exact H4.out
    · by_cases hc1 : y = 1
      · subst hc1
        rw [if_neg (by simp)] at HE
        have H4 := Lib.hid (H2.out.set hne o (.bool true))
        go_wp2
        refine bodyPost_ret (v := .tuple #[]) (by simp [results]) rfl ⟨rfl, v2, ?_⟩
        rw [HE.out]
        exact H4.out
      · rw [if_pos ⟨hc0, hc1⟩, decide_eq_false hc1] at HE
        have H3 := Lib.hid (H2.out.setBad hne)
        have h8 := blk_free H3.out.blk o
        have h9 : (w2.setCell ⟨p, 3, none⟩ (.bool true)).cell? ⟨d, o, none⟩ = some (.bool false) := by rw [blk_cell H3.out.blk]; exact hx
        have h10 := blk_cell H3.out.pst.pn 3
        have H4 := Lib.hid (H3.out.set hne o (.bool false))
        simp at h10
        have hb0 : (y != 0) = true := by simp [hc0]
        have hb2 : (y != 1) = true := by simp [hc1]
        have hb1 : (y == 1) = false := by simp [hc1]
        go_wp2
        refine bodyPost_ret (v := .tuple #[]) (by simp [results]) rfl ⟨rfl, v2, ?_⟩
        rw [HE.out]
        exact H4.out
end Go.Proofs.YtckooioikcenmaaGreat
namespace Go.Proofs.YtckooioikcenmaaGreat
open Go.RowKit
theorem PSt.setLg {base p d : Nat} {w : World} {v : Value} {st : Pn} {T : TypeId} {cs : Array Value} (h : PSt base p w v st) (hd : w.heap[d]? = some (.cells cs T)) (hne : d ≠ p) (hvd : ∀ k, Value.readBlock v = some k → k ≠ d) (lg' : Bool) : CellSt base p d v v { st with lg := lg' } T cs w (w.setCell ⟨p, 4, none⟩ (.bool lg')) :=
  ⟨⟨blk_set h.pn 4 _, h.ok.step (by simp [World.setCell]) (fun k hk _ => Below.heap_setCell _ _ _ _ (h.np k hk).1), h.np, h.len0, h.pos, h.hr⟩, blk_set_ne hd _ hne, (Chg.refl _ _ _).setR 4 _, NewV.refl _ _, hvd⟩
set_option maxRecDepth 20000 in
set_option maxHeartbeats 1000000 in
theorem penText_write (base p d o : Nat) (v : Value) (bs : List UInt8) (pos : Int) (s : ByteArray) (bad lg : Bool) (T : TypeId) (cs : Array Value) (w : World) (hs : PSt base p w v ⟨bs, pos, false, bad, lg⟩) (hd : w.heap[d]? = some (.cells cs T)) (hx : cs[o]? = some (.string s)) (hsm : s.size ≤ 30000) (hl : bs.length ≤ 10000000000000) (hne : d ≠ p) (hvd : ∀ k, Value.readBlock v = some k → k ≠ d) :
    Calls Tryz.prog 52 #[.pointer (some ⟨p, 0, none⟩), .pointer (some ⟨d, o, none⟩)] w (CellPost base p d v ⟨bs ++ blobB s.data.toList, pos, false, bad, lg || decide (100 < s.size)⟩ T cs w) := by
  have c2 : w.cell? ⟨p, 2, none⟩ = some (.bool false) := by rw [blk_cell hs.pn]; rfl
  have c4 : w.cell? ⟨p, 4, none⟩ = some (.bool lg) := by rw [blk_cell hs.pn]; rfl
  have f4 := blk_free hs.pn 4
  have cx : w.cell? ⟨d, o, none⟩ = some (.string s) := by rw [blk_cell hd]; exact hx
  have hlen : s.data.toList.length = s.size := rfl
  have hS0 := hs.setLg hd hne hvd (lg || decide (100 < s.size))
  obtain ⟨w0, hw0⟩ : ∃ w0, w0 = w.setCell ⟨p, 4, none⟩ (.bool (lg || decide (100 < s.size))) := ⟨_, rfl⟩
  rw [← hw0] at hS0
  have c0 : w0.cell? ⟨p, 0, none⟩ = some v := by rw [blk_cell hS0.pst.pn]; rfl
  have cx0 : w0.cell? ⟨d, o, none⟩ = some (.string s) := by rw [blk_cell hS0.blk]; exact hx
  have fz := blk_free hS0.pst.pn 0
  have HC := Lib.hid (fun q => rfBlob_any v _ bs s.data.toList (Lib.bytesWorld (w0.drewN q) 5 s) ((hS0.pst.ok.drewN q).below (conv_below _ _ _ (Nat.le_refl _))) (conv_read (w0.drewN q) s hsm) (by omega))
  have HS := Lib.hid hS0
  obtain ⟨A, c, rfl, _, _⟩ := hs.ok.form
  have hcv := conv_run
  have c0a : (Lib.bytesWorld w0.drew 5 s).cell? ⟨p, 0, none⟩ = some (.slice A bs.length c) := by rw [blk_cell (blk_below (conv_below _ w0.drew s (Nat.le_refl _)) hS0.pst.pn)]; rfl
  have HL := Lib.hid (show (bs ++ blobB s.data.toList).length ≤ 20000000000000 by
    have := uv_len10 (show s.data.toList.length < 18446744073709551616 by omega)
    unfold blobB
    rw [List.length_append, List.length_append]
    omega)
  clear hs hd hvd hS0
  by_cases h100 : 100 < s.size
  · have hd2 : decide ((100 : Int) < (s.size : Int)) = true := decide_eq_true (by omega)
    rw [decide_eq_true h100] at hw0
    cases lg with
    | true =>
      simp only [Bool.or_true] at hw0
      go_enter Tryz.func52, Tryz.ntmps52
      go_wp2
      rw [← hw0]
      clear hw0
      go_region_with ((go_at_call 89; refine (HC.out _).mono ?_; rintro e w1 ⟨v1, rfl, hown, hb⟩; obtain ⟨A1, n1, c1, rfl⟩ := hown.form; have HB1 := Lib.hid ((below_drewN_start (conv_below _ _ _ (Nat.le_refl _))).trans (hb.mono (by rw [Lib.bytesWorld_size]; exact Nat.le_succ _))); have HO1 := Lib.hid (own_base (base' := w0.heap.size) hown (by rw [Lib.bytesWorld_size]; exact Nat.le_succ _)); have HP1 := Lib.hid (blk_below HB1.out HS.out.pst.pn); have HD1 := Lib.hid (blk_below HB1.out HS.out.blk); have t0 := blk_cell HP1.out 0; have t1 := blk_cell HD1.out o; have t2 := blk_free HP1.out 0; rw [hx] at t1; simp at t0; clear hown hb))
      all_goals (
        have HF := HS.out.pst.wrote HS.out.blk hne HB1.out HO1.out (by rw [List.append_assoc]; exact HL.out)
        rw [List.append_assoc] at HF
        have HF2 := Lib.hid HF
        clear HF
        go_wp2
        refine bodyPost_ret (v := .tuple #[]) (by simp [results]) rfl ?_
        obtain ⟨_, v3, h3⟩ := HF2.out
        exact ⟨rfl, v3, HS.out.trans h3⟩)
    | false =>
      simp only [Bool.or_true] at hw0
      go_enter Tryz.func52, Tryz.ntmps52
      go_wp2
      rw [← hw0]
      clear hw0
      go_region_with ((go_at_call 89; refine (HC.out _).mono ?_; rintro e w1 ⟨v1, rfl, hown, hb⟩; obtain ⟨A1, n1, c1, rfl⟩ := hown.form; have HB1 := Lib.hid ((below_drewN_start (conv_below _ _ _ (Nat.le_refl _))).trans (hb.mono (by rw [Lib.bytesWorld_size]; exact Nat.le_succ _))); have HO1 := Lib.hid (own_base (base' := w0.heap.size) hown (by rw [Lib.bytesWorld_size]; exact Nat.le_succ _)); have HP1 := Lib.hid (blk_below HB1.out HS.out.pst.pn); have HD1 := Lib.hid (blk_below HB1.out HS.out.blk); have t0 := blk_cell HP1.out 0; have t1 := blk_cell HD1.out o; have t2 := blk_free HP1.out 0; rw [hx] at t1; simp at t0; clear hown hb))
      all_goals (
        have HF := HS.out.pst.wrote HS.out.blk hne HB1.out HO1.out (by rw [List.append_assoc]; exact HL.out)
        rw [List.append_assoc] at HF
        have HF2 := Lib.hid HF
        clear HF
        go_wp2
        refine bodyPost_ret (v := .tuple #[]) (by simp [results]) rfl ?_
        obtain ⟨_, v3, h3⟩ := HF2.out
        exact ⟨rfl, v3, HS.out.trans h3⟩)
  · have hd2 : decide ((100 : Int) < (s.size : Int)) = false := decide_eq_false (by omega)
    rw [decide_eq_false h100] at hw0
    cases lg with
    | true =>
      simp only [Bool.or_false] at hw0
      go_enter Tryz.func52, Tryz.ntmps52
      go_wp2
      rw [← hw0]
      clear hw0
      go_region_with ((go_at_call 89; refine (HC.out _).mono ?_; rintro e w1 ⟨v1, rfl, hown, hb⟩; obtain ⟨A1, n1, c1, rfl⟩ := hown.form; have HB1 := Lib.hid ((below_drewN_start (conv_below _ _ _ (Nat.le_refl _))).trans (hb.mono (by rw [Lib.bytesWorld_size]; exact Nat.le_succ _))); have HO1 := Lib.hid (own_base (base' := w0.heap.size) hown (by rw [Lib.bytesWorld_size]; exact Nat.le_succ _)); have HP1 := Lib.hid (blk_below HB1.out HS.out.pst.pn); have HD1 := Lib.hid (blk_below HB1.out HS.out.blk); have t0 := blk_cell HP1.out 0; have t1 := blk_cell HD1.out o; have t2 := blk_free HP1.out 0; rw [hx] at t1; simp at t0; clear hown hb))
      all_goals (
        have HF := HS.out.pst.wrote HS.out.blk hne HB1.out HO1.out (by rw [List.append_assoc]; exact HL.out)
        rw [List.append_assoc] at HF
        have HF2 := Lib.hid HF
        clear HF
        go_wp2
        refine bodyPost_ret (v := .tuple #[]) (by simp [results]) rfl ?_
        obtain ⟨_, v3, h3⟩ := HF2.out
        exact ⟨rfl, v3, HS.out.trans h3⟩)
    | false =>
      simp only [Bool.or_false] at hw0
      go_enter Tryz.func52, Tryz.ntmps52
      go_wp2
      rw [← hw0]
      clear hw0
      go_region_with ((go_at_call 89; refine (HC.out _).mono ?_; rintro e w1 ⟨v1, rfl, hown, hb⟩; obtain ⟨A1, n1, c1, rfl⟩ := hown.form; have HB1 := Lib.hid ((below_drewN_start (conv_below _ _ _ (Nat.le_refl _))).trans (hb.mono (by rw [Lib.bytesWorld_size]; exact Nat.le_succ _))); have HO1 := Lib.hid (own_base (base' := w0.heap.size) hown (by rw [Lib.bytesWorld_size]; exact Nat.le_succ _)); have HP1 := Lib.hid (blk_below HB1.out HS.out.pst.pn); have HD1 := Lib.hid (blk_below HB1.out HS.out.blk); have t0 := blk_cell HP1.out 0; have t1 := blk_cell HD1.out o; have t2 := blk_free HP1.out 0; rw [hx] at t1; simp at t0; clear hown hb))
      all_goals (
        have HF := HS.out.pst.wrote HS.out.blk hne HB1.out HO1.out (by rw [List.append_assoc]; exact HL.out)
        rw [List.append_assoc] at HF
        have HF2 := Lib.hid HF
        clear HF
        go_wp2
        refine bodyPost_ret (v := .tuple #[]) (by simp [results]) rfl ?_
        obtain ⟨_, v3, h3⟩ := HF2.out
        exact ⟨rfl, v3, HS.out.trans h3⟩)
theorem CellSt.setPos {base p d : Nat} {v v' : Value} {st : Pn} {T : TypeId} {cs : Array Value} {w w' : World} (h : CellSt base p d v v' st T cs w w') (hne : d ≠ p) (pos' : Int) (hp : pos' ≤ 140737488355328) : CellSt base p d v v' { st with pos := pos' } T cs w (w'.setCell ⟨p, 1, none⟩ (.int .i64 pos')) :=
  ⟨⟨blk_set h.pst.pn 1 _, h.pst.ok.step (by simp [World.setCell]) (fun k hk _ => Below.heap_setCell _ _ _ _ (h.pst.np k hk).1), h.pst.np, h.pst.len0, hp, h.pst.hr⟩, blk_set_ne h.blk _ hne, h.chg.setR 1 _, h.nv, h.vd⟩
theorem CellSt.below {base p d : Nat} {v v' : Value} {st : Pn} {T : TypeId} {cs : Array Value} {w w' w2 : World} (h : CellSt base p d v v' st T cs w w') (hb : Below w'.heap.size w' w2) : CellSt base p d v v' st T cs w w2 :=
  ⟨h.pst.below hb, blk_below hb h.blk, h.chg.trans (Chg.of_below hb), h.nv, h.vd⟩
set_option maxRecDepth 20000 in
set_option maxHeartbeats 1000000 in
theorem penText_read (base p d o : Nat) (v : Value) (bs : List UInt8) (pos : Int) (bad lg : Bool) (T : TypeId) (cs : Array Value) (w : World) (hs : PSt base p w v ⟨bs, pos, true, bad, lg⟩) (hd : w.heap[d]? = some (.cells cs T)) (hx : cs[o]? = some (.string ⟨#[]⟩)) (hne : d ≠ p) (hvd : ∀ k, Value.readBlock v = some k → k ≠ d) :
    Calls Tryz.prog 52 #[.pointer (some ⟨p, 0, none⟩), .pointer (some ⟨d, o, none⟩)] w (CellPost base p d v ⟨bs, (rdS bs ⟨pos, bad⟩).2.pos, true, (rdS bs ⟨pos, bad⟩).2.bad, lg⟩ T (cs.setIfInBounds o (.string (rdS bs ⟨pos, bad⟩).1)) w) := by
  have hlen0 : bs.length ≤ 20000000000000 := hs.len0
  have HPOS := Lib.hid (rdS_pos (ys := bs) (s := ⟨pos, bad⟩) (by omega) hs.pos)
  have hp : pos ≤ 140737488355328 := hs.pos
  have c0 : w.cell? ⟨p, 0, none⟩ = some v := by rw [blk_cell hs.pn]; rfl
  have c1 : w.cell? ⟨p, 1, none⟩ = some (.int .i64 pos) := by rw [blk_cell hs.pn]; rfl
  have c2 : w.cell? ⟨p, 2, none⟩ = some (.bool true) := by rw [blk_cell hs.pn]; rfl
  have hG := Lib.hid (fun q => rfGetBlob_any v bs pos 100 (w.drewN q) (hs.ok.drewN q) (by omega) (by omega) (by omega) (by omega))
  have hrd : Hid (rdS bs ⟨pos, bad⟩ = if bad = true then (⟨#[]⟩, ⟨pos, bad⟩) else if (getB bs pos 100).2.2 ≠ 0 then (⟨#[]⟩, ⟨pos, true⟩) else (⟨(getB bs pos 100).1.toArray⟩, ⟨(getB bs pos 100).2.1, false⟩)) := rfl
  unfold GetBPost at hG
  have HS := Lib.hid (hs.cell hd hvd)
  obtain ⟨A, c, rfl, _, _⟩ := hs.ok.form
  generalize (getB bs pos 100).1 = xs at *
  generalize (getB bs pos 100).2.1 = m at *
  generalize (getB bs pos 100).2.2 = e9 at *
  clear hs hd hvd
  have hnp : p ≠ d := Ne.symm hne
  cases bad with
  | true =>
    have HD := Lib.hid (hrd.out.trans (if_pos rfl))
    clear hrd
    go_enter Tryz.func52, Tryz.ntmps52
    go_wp2
    go_region_held3 (fun w' => w'.cell? ⟨p, 0, none⟩ = some (.slice A bs.length c) ∧ w'.cell? ⟨p, 1, none⟩ = some (.int .i64 pos)) (go_keep) ((go_at_call 90; refine (hG.out 1).mono ?_; rintro e w2 ⟨v', rfl, hown, hbl⟩; have HC2 := Lib.hid (HS.out.below (below_drewN_start hbl)); have t0 := blk_cell HC2.out.pst.pn 0; have t1 := blk_cell HC2.out.pst.pn 1; have t3 := blk_cell HC2.out.pst.pn 3; have t4 := blk_free HC2.out.pst.pn 3; have t5 := blk_free HC2.out.pst.pn 1; simp at t0 t1 t3; have hcv := rd_text hown.reads; have q1 : w2.cell? ⟨d, o, none⟩ = some (.string ⟨#[]⟩) := (by rw [blk_cell HC2.out.blk]; exact hx); have q2 := blk_free HC2.out.blk o; obtain ⟨A2, n2, c2', e2⟩ := hown.form; subst e2; clear hown hbl))
    all_goals (
      have HF := Lib.hid (HC2.out.setBad hne)
      go_wp2
      refine bodyPost_ret (v := .tuple #[]) (by simp [results]) rfl ⟨rfl, .slice A bs.length c, ?_⟩
      rw [HD.out, set_same hx]
      exact HF.out)
  | false =>
    by_cases he : e9 ≠ 0
    · have HD := Lib.hid (hrd.out.trans ((if_neg (by simp)).trans (if_pos he)))
      clear hrd
      go_enter Tryz.func52, Tryz.ntmps52
      go_wp2
      go_region_held3 (fun w' => w'.cell? ⟨p, 0, none⟩ = some (.slice A bs.length c) ∧ w'.cell? ⟨p, 1, none⟩ = some (.int .i64 pos)) (go_keep) ((go_at_call 90; refine (hG.out 1).mono ?_; rintro e w2 ⟨v', rfl, hown, hbl⟩; have HC2 := Lib.hid (HS.out.below (below_drewN_start hbl)); have t0 := blk_cell HC2.out.pst.pn 0; have t1 := blk_cell HC2.out.pst.pn 1; have t3 := blk_cell HC2.out.pst.pn 3; have t4 := blk_free HC2.out.pst.pn 3; have t5 := blk_free HC2.out.pst.pn 1; simp at t0 t1 t3; have hcv := rd_text hown.reads; have q1 : w2.cell? ⟨d, o, none⟩ = some (.string ⟨#[]⟩) := (by rw [blk_cell HC2.out.blk]; exact hx); have q2 := blk_free HC2.out.blk o; obtain ⟨A2, n2, c2', e2⟩ := hown.form; subst e2; clear hown hbl))
      all_goals (
        have HF := Lib.hid (HC2.out.setBad hne)
        go_wp2
        refine bodyPost_ret (v := .tuple #[]) (by simp [results]) rfl ⟨rfl, .slice A bs.length c, ?_⟩
        rw [HD.out, set_same hx]
        exact HF.out)
    · obtain rfl : e9 = 0 := Classical.not_not.1 he
      have HD := Lib.hid (hrd.out.trans ((if_neg (by simp)).trans (if_neg (by simp))))
      clear hrd
      go_enter Tryz.func52, Tryz.ntmps52
      go_wp2
      go_region_held3 (fun w' => w'.cell? ⟨p, 0, none⟩ = some (.slice A bs.length c) ∧ w'.cell? ⟨p, 1, none⟩ = some (.int .i64 pos)) (go_keep) ((go_at_call 90; refine (hG.out 1).mono ?_; rintro e w2 ⟨v', rfl, hown, hbl⟩; have HC2 := Lib.hid (HS.out.below (below_drewN_start hbl)); have t0 := blk_cell HC2.out.pst.pn 0; have t1 := blk_cell HC2.out.pst.pn 1; have t3 := blk_cell HC2.out.pst.pn 3; have t4 := blk_free HC2.out.pst.pn 3; have t5 := blk_free HC2.out.pst.pn 1; simp at t0 t1 t3; have hcv := rd_text hown.reads; have q1 : w2.cell? ⟨d, o, none⟩ = some (.string ⟨#[]⟩) := (by rw [blk_cell HC2.out.blk]; exact hx); have q2 := blk_free HC2.out.blk o; obtain ⟨A2, n2, c2', e2⟩ := hown.form; subst e2; clear hown hbl))
      all_goals (
        have HF := Lib.hid ((HC2.out.set hne o (.string ⟨xs.toArray⟩)).setPos hne m (by have := HPOS.out; rw [HD.out] at this; exact this))
        go_wp2
        refine bodyPost_ret (v := .tuple #[]) (by simp [results]) rfl ⟨rfl, .slice A bs.length c, ?_⟩
        rw [HD.out]
        exact HF.out)
/-- text, either way -/
theorem penText_any (base p d o : Nat) (v : Value) (st : Pn) (x : ByteArray) (T : TypeId) (cs : Array Value) (w : World) (hs : PSt base p w v st) (hd : w.heap[d]? = some (.cells cs T)) (hx : cs[o]? = some (.string x)) (hsm : x.size ≤ 30000) (hz : st.rd = true → x = ⟨#[]⟩) (hl : Fits cS st x) (hne : d ≠ p) (hvd : ∀ k, Value.readBlock v = some k → k ≠ d) :
    Calls Tryz.prog 52 #[.pointer (some ⟨p, 0, none⟩), .pointer (some ⟨d, o, none⟩)] w (CellPost base p d v (pC cS st x).2 T (cs.setIfInBounds o (.string (pC cS st x).1)) w) := by
  obtain ⟨bs, pos, rd, bad, lg⟩ := st
  cases rd with
  | true =>
    obtain rfl : x = ⟨#[]⟩ := hz rfl
    rw [pC_read rfl]
    exact penText_read base p d o v bs pos bad lg T cs w hs hd hx hne hvd
  | false =>
    rw [pC_write rfl]
    have hl2 : bs.length + (blobB x.data.toList).length ≤ 10000000000000 := hl
    have hlg : (lg || !cS.okt x) = (lg || decide (100 < x.size)) := by
      show (lg || !decide (x.size ≤ 100)) = _
      congr 1
      by_cases h : x.size ≤ 100
      · simp [h]
      · simp [h]; omega
    rw [show ({ ({ bs := bs, pos := pos, rd := false, bad := bad, lg := lg } : Pn) with bs := bs ++ cS.enc x, lg := lg || !cS.okt x } : Pn) = ⟨bs ++ blobB x.data.toList, pos, false, bad, lg || decide (100 < x.size)⟩ by rw [hlg]; rfl, set_same hx]
    exact penText_write base p d o v bs pos x bad lg T cs w hs hd hx hsm (by omega) hne hvd
end Go.Proofs.YtckooioikcenmaaGreat
namespace Go.Proofs.YtckooioikcenmaaGreat
open Go.RowKit
def ManyPost (base p d : Nat) (v : Value) (n : Nat) (st' : Pn) (T : TypeId) (cs : Array Value) (w : World) (e : Ending) (w' : World) : Prop :=
  e = .returned (.int .i64 n) ∧ ∃ v', CellSt base p d v v' st' T cs w w'
theorem pM_lt {st : Pn} {n : Nat} (hl : st.bs.length ≤ 20000000000000) (hn : n ≤ 20000000000000) : (pM st n).1 ≤ 20000000000000 := by
  unfold pM
  split
  · split
    · simp
    · rename_i h
      simp only
      omega
  · exact hn
set_option maxRecDepth 20000 in
set_option maxHeartbeats 1000000 in
theorem penMany_write (base p d : Nat) (v : Value) (bs : List UInt8) (pos : Int) (n : Nat) (bad lg : Bool) (T : TypeId) (cs : Array Value) (w : World) (hs : PSt base p w v ⟨bs, pos, false, bad, lg⟩) (hd : w.heap[d]? = some (.cells cs T)) (hn : n ≤ 20000000000000) (hl : bs.length ≤ 10000000000000) (hne : d ≠ p) :
    Calls Tryz.prog 68 #[.pointer (some ⟨p, 0, none⟩), .int .i64 n] w (ManyPost base p d v n ⟨bs ++ uv n, pos, false, bad, lg⟩ T cs w) := by
  have c0 : w.cell? ⟨p, 0, none⟩ = some v := by rw [blk_cell hs.pn]; rfl
  have c2 : w.cell? ⟨p, 2, none⟩ = some (.bool false) := by rw [blk_cell hs.pn]; rfl
  have HC := Lib.hid (rfUint_any v bs n w (by omega) hs.ok (by omega))
  have HS := Lib.hid hs
  have HD := Lib.hid hd
  obtain ⟨A, c, rfl, _, _⟩ := hs.ok.form
  clear hs hd
  go_enter Tryz.func68, Tryz.ntmps68
  go_wp2_with fail
  refine HC.out.mono ?_
  rintro e w1 ⟨v1, rfl, hown, hb⟩
  obtain ⟨A1, n1, c1, rfl⟩ := hown.form
  have HF := Lib.hid (HS.out.wrote HD.out hne hb hown (by rw [List.length_append]; have := uv_len10 (show n < 18446744073709551616 by omega); omega))
  have h1 := blk_below hb HS.out.pn
  have t0 := blk_cell h1 0
  have t2 := blk_free h1 0
  simp at t0
  clear hown hb h1
  go_wp2
  refine bodyPost_ret (v := .int .i64 n) (by simp [results]) rfl ?_
  obtain ⟨_, v3, h3⟩ := HF.out
  exact ⟨rfl, v3, h3⟩
set_option maxRecDepth 20000 in
set_option maxHeartbeats 1000000 in
theorem penMany_read (base p d : Nat) (v : Value) (bs : List UInt8) (pos n : Int) (bad lg : Bool) (T : TypeId) (cs : Array Value) (w : World) (hs : PSt base p w v ⟨bs, pos, true, bad, lg⟩) (hd : w.heap[d]? = some (.cells cs T)) (hne : d ≠ p) (hvd : ∀ k, Value.readBlock v = some k → k ≠ d) :
    Calls Tryz.prog 68 #[.pointer (some ⟨p, 0, none⟩), .int .i64 n] w (ManyPost base p d v (pM ⟨bs, pos, true, bad, lg⟩ 0).1 (pM ⟨bs, pos, true, bad, lg⟩ 0).2 T cs w) := by
  have hlen0 : bs.length ≤ 20000000000000 := hs.len0
  have hp : pos ≤ 140737488355328 := hs.pos
  have hrg := getU_range bs pos (by omega)
  have c0 : w.cell? ⟨p, 0, none⟩ = some v := by rw [blk_cell hs.pn]; rfl
  have c1 : w.cell? ⟨p, 1, none⟩ = some (.int .i64 pos) := by rw [blk_cell hs.pn]; rfl
  have c2 : w.cell? ⟨p, 2, none⟩ = some (.bool true) := by rw [blk_cell hs.pn]; rfl
  have c3 : w.cell? ⟨p, 3, none⟩ = some (.bool bad) := by rw [blk_cell hs.pn]; rfl
  have f1 := blk_free hs.pn 1
  have f3 := blk_free hs.pn 3
  have hG : Hid (∀ q, Calls Tryz.prog 103 #[v, .int .i64 pos] (w.drewN q) fun e w' => e = .returned (.tuple #[.int .u64 (getU bs pos).1, .int .i64 (getU bs pos).2.1, .int .i64 (getU bs pos).2.2]) ∧ ∃ m', w' = w.drewN m') :=
    fun q => (rfGetUint_any v bs pos (w.drewN q) (hs.ok.drewN q) (by omega)).mono fun e w' h => by
      obtain ⟨h1, h2⟩ := h
      exact ⟨h1, q, h2.symm⟩
  have HM : Hid (pM ⟨bs, pos, true, bad, lg⟩ 0 = if bad = true ∨ (getU bs pos).2.2 ≠ 0 ∨ bs.length < (getU bs pos).1 then (0, ⟨bs, pos, true, true, lg⟩) else ((getU bs pos).1, ⟨bs, (getU bs pos).2.1, true, bad, lg⟩)) := rfl
  have HS := Lib.hid (hs.cell hd hvd)
  have HSD : Hid (∀ q, CellSt base p d v v ⟨bs, pos, true, bad, lg⟩ T cs w (w.drewN q)) := fun q => HS.out.below (below_drewN (Below.refl _ _) q)
  obtain ⟨A, c, rfl, _, _⟩ := hs.ok.form
  generalize (getU bs pos).1 = x at *
  generalize (getU bs pos).2.1 = m at *
  generalize (getU bs pos).2.2 = e9 at *
  clear hs hd hvd
  cases bad with
  | true =>
    have HD := Lib.hid (HM.out.trans (if_pos (.inl rfl)))
    go_enter Tryz.func68, Tryz.ntmps68
    go_wp2
    go_quiet ((go_at_call 103; exact hG.out _))
    go_wp2
    refine bodyPost_ret (v := .int .i64 ((0 : Nat) : Int)) (by simp [results]) rfl ?_
    rw [HD.out]
    exact ⟨rfl, .slice A bs.length c, (HSD.out _).setBad hne⟩
  | false =>
    by_cases he : e9 ≠ 0
    · have HD := Lib.hid (HM.out.trans (if_pos (.inr (.inl he))))
      go_enter Tryz.func68, Tryz.ntmps68
      go_wp2
      go_quiet ((go_at_call 103; exact hG.out _))
      go_wp2
      refine bodyPost_ret (v := .int .i64 ((0 : Nat) : Int)) (by simp [results]) rfl ?_
      rw [HD.out]
      exact ⟨rfl, .slice A bs.length c, (HSD.out _).setBad hne⟩
    · obtain rfl : e9 = 0 := Classical.not_not.1 he
      by_cases hx : bs.length < x
      · have HD := Lib.hid (HM.out.trans (if_pos (.inr (.inr hx))))
        have hx2 : (bs.length : Int) < (x : Int) := by omega
        go_enter Tryz.func68, Tryz.ntmps68
        go_wp2
        go_quiet ((go_at_call 103; exact hG.out _))
        go_wp2
        refine bodyPost_ret (v := .int .i64 ((0 : Nat) : Int)) (by simp [results]) rfl ?_
        rw [HD.out]
        exact ⟨rfl, .slice A bs.length c, (HSD.out _).setBad hne⟩
      · have HD := Lib.hid (HM.out.trans (if_neg (by simp; omega)))
        have hx2 : ¬ (bs.length : Int) < (x : Int) := by omega
        go_enter Tryz.func68, Tryz.ntmps68
        go_wp2
        go_quiet ((go_at_call 103; exact hG.out _))
        go_wp2
        refine bodyPost_ret (v := .int .i64 (x : Int)) (by simp [results]) rfl ?_
        rw [HD.out]
        exact ⟨rfl, .slice A bs.length c, (HSD.out _).setPos hne m (by omega)⟩
/-- many, either way -/
theorem penMany_any (base p d : Nat) (v : Value) (st : Pn) (n : Nat) (T : TypeId) (cs : Array Value) (w : World) (hs : PSt base p w v st) (hd : w.heap[d]? = some (.cells cs T)) (hn : n ≤ 20000000000000) (hz : st.rd = true → n = 0) (hl : st.bs.length ≤ 10000000000000) (hne : d ≠ p) (hvd : ∀ k, Value.readBlock v = some k → k ≠ d) :
    Calls Tryz.prog 68 #[.pointer (some ⟨p, 0, none⟩), .int .i64 n] w (ManyPost base p d v (pM st n).1 (pM st n).2 T cs w) := by
  obtain ⟨bs, pos, rd, bad, lg⟩ := st
  cases rd with
  | true =>
    obtain rfl : n = 0 := hz rfl
    exact penMany_read base p d v bs pos 0 bad lg T cs w hs hd hne hvd
  | false => exact penMany_write base p d v bs pos n bad lg T cs w hs hd hn hl hne
end Go.Proofs.YtckooioikcenmaaGreat
namespace Go.Proofs.YtckooioikcenmaaGreat
open Go.RowKit
/-- the cells of Task -/
def cellsTask (n0 : Value) : DTask → Array Value := fun ⟨x0, x1, x2, x3, x4, x5, x6, x7, x8, x9⟩ => #[n0, .int .i64 x0, .int .i64 x1, .int .u8 x2, .int .i64 x3, .int .i64 x4, .int .i64 x5, .int .i64 x6, .int .i64 x7, .int .i64 x8, .int .i64 x9]
set_option maxRecDepth 20000 in
set_option maxHeartbeats 4000000 in
theorem penTask_any (base p d : Nat) (v : Value) (st : Pn) (x0 : Int) (x1 : Int) (x2 : Int) (x3 : Int) (x4 : Int) (x5 : Int) (x6 : Int) (x7 : Int) (x8 : Int) (x9 : Int) (n0 : Value) (w : World) (hs : PSt base p w v st) (hd : w.heap[d]? = some (.cells #[n0, .int .i64 x0, .int .i64 x1, .int .u8 x2, .int .i64 x3, .int .i64 x4, .int .i64 x5, .int .i64 x6, .int .i64 x7, .int .i64 x8, .int .i64 x9] 138)) (r0 : I64 x0) (r1 : I64 x1) (r2 : 0 ≤ x2 ∧ x2 ≤ 255) (r3 : I64 x3) (r4 : I64 x4) (r5 : I64 x5) (r6 : I64 x6) (r7 : I64 x7) (r8 : I64 x8) (r9 : I64 x9) (hz : st.rd = true → x0 = 0 ∧ x1 = 0 ∧ x2 = 0 ∧ x3 = 0 ∧ x4 = 0 ∧ x5 = 0 ∧ x6 = 0 ∧ x7 = 0 ∧ x8 = 0 ∧ x9 = 0) (hl : Fits cTask st (x0, x1, x2, x3, x4, x5, x6, x7, x8, x9)) (hne : d ≠ p) (hbd : base ≤ d) (hvd : ∀ k, Value.readBlock v = some k → k ≠ d) :
    Calls Tryz.prog 105 #[.pointer (some ⟨p, 0, none⟩), .pointer (some ⟨d, 1, none⟩)] w (CellPost base p d v (pC cTask st (x0, x1, x2, x3, x4, x5, x6, x7, x8, x9)).2 138 (cellsTask n0 (pC cTask st (x0, x1, x2, x3, x4, x5, x6, x7, x8, x9)).1) w) := by
  have hE : ∀ z, pC cTask st (x0, x1, x2, x3, x4, x5, x6, x7, x8, x9) = z → pC cTask st (x0, x1, x2, x3, x4, x5, x6, x7, x8, x9) = z := fun _ h => h
  have hR : st.rd = st.rd := rfl
  have f0 : Fits cI st x0 := hl.left
  have hl1 := hl.right
  have z0 : st.rd = true → x0 = 0 := fun h => (hz h).1
  have g0 : (pC cI st x0).2.rd = st.rd := pC_rd _ _ _
  obtain ⟨y0, e0⟩ : ∃ y, (pC cI st x0).1 = y := ⟨_, rfl⟩
  obtain ⟨s1, k0⟩ : ∃ s, (pC cI st x0).2 = s := ⟨_, rfl⟩
  have q0 : pC cI st x0 = (y0, s1) := Prod.ext e0 k0
  rw [k0] at g0 hl1
  rw [← g0] at hz
  have f1 : Fits cI s1 x1 := hl1.left
  have hl2 := hl1.right
  have z1 : s1.rd = true → x1 = 0 := fun h => (hz h).2.1
  have g1 : (pC cI s1 x1).2.rd = s1.rd := pC_rd _ _ _
  obtain ⟨y1, e1⟩ : ∃ y, (pC cI s1 x1).1 = y := ⟨_, rfl⟩
  obtain ⟨s2, k1⟩ : ∃ s, (pC cI s1 x1).2 = s := ⟨_, rfl⟩
  have q1 : pC cI s1 x1 = (y1, s2) := Prod.ext e1 k1
  rw [k1] at g1 hl2
  rw [← g1] at hz
  have f2 : Fits cB s2 x2 := hl2.left
  have hl3 := hl2.right
  have z2 : s2.rd = true → x2 = 0 := fun h => (hz h).2.2.1
  have g2 : (pC cB s2 x2).2.rd = s2.rd := pC_rd _ _ _
  obtain ⟨y2, e2⟩ : ∃ y, (pC cB s2 x2).1 = y := ⟨_, rfl⟩
  obtain ⟨s3, k2⟩ : ∃ s, (pC cB s2 x2).2 = s := ⟨_, rfl⟩
  have q2 : pC cB s2 x2 = (y2, s3) := Prod.ext e2 k2
  rw [k2] at g2 hl3
  rw [← g2] at hz
  have f3 : Fits cI s3 x3 := hl3.left
  have hl4 := hl3.right
  have z3 : s3.rd = true → x3 = 0 := fun h => (hz h).2.2.2.1
  have g3 : (pC cI s3 x3).2.rd = s3.rd := pC_rd _ _ _
  obtain ⟨y3, e3⟩ : ∃ y, (pC cI s3 x3).1 = y := ⟨_, rfl⟩
  obtain ⟨s4, k3⟩ : ∃ s, (pC cI s3 x3).2 = s := ⟨_, rfl⟩
  have q3 : pC cI s3 x3 = (y3, s4) := Prod.ext e3 k3
  rw [k3] at g3 hl4
  rw [← g3] at hz
  have f4 : Fits cI s4 x4 := hl4.left
  have hl5 := hl4.right
  have z4 : s4.rd = true → x4 = 0 := fun h => (hz h).2.2.2.2.1
  have g4 : (pC cI s4 x4).2.rd = s4.rd := pC_rd _ _ _
  obtain ⟨y4, e4⟩ : ∃ y, (pC cI s4 x4).1 = y := ⟨_, rfl⟩
  obtain ⟨s5, k4⟩ : ∃ s, (pC cI s4 x4).2 = s := ⟨_, rfl⟩
  have q4 : pC cI s4 x4 = (y4, s5) := Prod.ext e4 k4
  rw [k4] at g4 hl5
  rw [← g4] at hz
  have f5 : Fits cI s5 x5 := hl5.left
  have hl6 := hl5.right
  have z5 : s5.rd = true → x5 = 0 := fun h => (hz h).2.2.2.2.2.1
  have g5 : (pC cI s5 x5).2.rd = s5.rd := pC_rd _ _ _
  obtain ⟨y5, e5⟩ : ∃ y, (pC cI s5 x5).1 = y := ⟨_, rfl⟩
  obtain ⟨s6, k5⟩ : ∃ s, (pC cI s5 x5).2 = s := ⟨_, rfl⟩
  have q5 : pC cI s5 x5 = (y5, s6) := Prod.ext e5 k5
  rw [k5] at g5 hl6
  rw [← g5] at hz
  have f6 : Fits cI s6 x6 := hl6.left
  have hl7 := hl6.right
  have z6 : s6.rd = true → x6 = 0 := fun h => (hz h).2.2.2.2.2.2.1
  have g6 : (pC cI s6 x6).2.rd = s6.rd := pC_rd _ _ _
  obtain ⟨y6, e6⟩ : ∃ y, (pC cI s6 x6).1 = y := ⟨_, rfl⟩
  obtain ⟨s7, k6⟩ : ∃ s, (pC cI s6 x6).2 = s := ⟨_, rfl⟩
  have q6 : pC cI s6 x6 = (y6, s7) := Prod.ext e6 k6
  rw [k6] at g6 hl7
  rw [← g6] at hz
  have f7 : Fits cI s7 x7 := hl7.left
  have hl8 := hl7.right
  have z7 : s7.rd = true → x7 = 0 := fun h => (hz h).2.2.2.2.2.2.2.1
  have g7 : (pC cI s7 x7).2.rd = s7.rd := pC_rd _ _ _
  obtain ⟨y7, e7⟩ : ∃ y, (pC cI s7 x7).1 = y := ⟨_, rfl⟩
  obtain ⟨s8, k7⟩ : ∃ s, (pC cI s7 x7).2 = s := ⟨_, rfl⟩
  have q7 : pC cI s7 x7 = (y7, s8) := Prod.ext e7 k7
  rw [k7] at g7 hl8
  rw [← g7] at hz
  have f8 : Fits cI s8 x8 := hl8.left
  have hl9 := hl8.right
  have z8 : s8.rd = true → x8 = 0 := fun h => (hz h).2.2.2.2.2.2.2.2.1
  have g8 : (pC cI s8 x8).2.rd = s8.rd := pC_rd _ _ _
  obtain ⟨y8, e8⟩ : ∃ y, (pC cI s8 x8).1 = y := ⟨_, rfl⟩
  obtain ⟨s9, k8⟩ : ∃ s, (pC cI s8 x8).2 = s := ⟨_, rfl⟩
  have q8 : pC cI s8 x8 = (y8, s9) := Prod.ext e8 k8
  rw [k8] at g8 hl9
  rw [← g8] at hz
  have f9 : Fits cI s9 x9 := hl9
  have z9 : s9.rd = true → x9 = 0 := fun h => (hz h).2.2.2.2.2.2.2.2.2
  have g9 : (pC cI s9 x9).2.rd = s9.rd := pC_rd _ _ _
  obtain ⟨y9, e9⟩ : ∃ y, (pC cI s9 x9).1 = y := ⟨_, rfl⟩
  obtain ⟨s10, k9⟩ : ∃ s, (pC cI s9 x9).2 = s := ⟨_, rfl⟩
  have q9 : pC cI s9 x9 = (y9, s10) := Prod.ext e9 k9
  rw [k9] at g9
  rw [← g9] at hz
  have HE : Hid (pC cTask st (x0, x1, x2, x3, x4, x5, x6, x7, x8, x9) = ((y0, y1, y2, y3, y4, y5, y6, y7, y8, y9), s10)) := by show _ = _; unfold cTask; simp only [pC_seq, q0, q1, q2, q3, q4, q5, q6, q7, q8, q9]
  have F0 := Lib.hid f0
  have Z0 := Lib.hid z0
  have Q0 := Lib.hid q0
  have F1 := Lib.hid f1
  have Z1 := Lib.hid z1
  have Q1 := Lib.hid q1
  have F2 := Lib.hid f2
  have Z2 := Lib.hid z2
  have Q2 := Lib.hid q2
  have F3 := Lib.hid f3
  have Z3 := Lib.hid z3
  have Q3 := Lib.hid q3
  have F4 := Lib.hid f4
  have Z4 := Lib.hid z4
  have Q4 := Lib.hid q4
  have F5 := Lib.hid f5
  have Z5 := Lib.hid z5
  have Q5 := Lib.hid q5
  have F6 := Lib.hid f6
  have Z6 := Lib.hid z6
  have Q6 := Lib.hid q6
  have F7 := Lib.hid f7
  have Z7 := Lib.hid z7
  have Q7 := Lib.hid q7
  have F8 := Lib.hid f8
  have Z8 := Lib.hid z8
  have Q8 := Lib.hid q8
  have F9 := Lib.hid f9
  have Z9 := Lib.hid z9
  have Q9 := Lib.hid q9
  have C0 := Lib.hid (hs.cell hd hvd)
  have hdl := blk_lt hd
  have hpl := hs.lt
  have hbp := hs.hr
  rw [HE.out]
  clear hs hd hvd hl hz hE hR f0 z0 q0 e0 k0 g0 f1 z1 q1 e1 k1 g1 f2 z2 q2 e2 k2 g2 f3 z3 q3 e3 k3 g3 f4 z4 q4 e4 k4 g4 f5 z5 q5 e5 k5 g5 f6 z6 q6 e6 k6 g6 f7 z7 q7 e7 k7 g7 f8 z8 q8 e8 k8 g8 f9 z9 q9 e9 k9 g9 hl1 hl2 hl3 hl4 hl5 hl6 hl7 hl8 hl9
  show Calls _ _ _ _ (CellPost base p d v s10 138 #[n0, .int .i64 y0, .int .i64 y1, .int .u8 y2, .int .i64 y3, .int .i64 y4, .int .i64 y5, .int .i64 y6, .int .i64 y7, .int .i64 y8, .int .i64 y9] w)
  go_enter Tryz.func105, Tryz.ntmps105
  go_wp2_with fail
  refine (penNum_any base p d 1 v st x0 138 #[n0, .int .i64 x0, .int .i64 x1, .int .u8 x2, .int .i64 x3, .int .i64 x4, .int .i64 x5, .int .i64 x6, .int .i64 x7, .int .i64 x8, .int .i64 x9] _ C0.out.pst C0.out.blk rfl r0 Z0.out F0.out hne hbd C0.out.vd).mono ?_
  rintro e w1 ⟨rfl, v1, hc⟩
  rw [Q0.out] at hc
  have C1 : Hid (CellSt base p d v v1 s1 138 #[n0, .int .i64 y0, .int .i64 x1, .int .u8 x2, .int .i64 x3, .int .i64 x4, .int .i64 x5, .int .i64 x6, .int .i64 x7, .int .i64 x8, .int .i64 x9] w w1) := C0.out.trans hc
  clear hc
  go_wp2_with fail
  refine (penWhole_any base p d 2 v1 s1 x1 138 #[n0, .int .i64 y0, .int .i64 x1, .int .u8 x2, .int .i64 x3, .int .i64 x4, .int .i64 x5, .int .i64 x6, .int .i64 x7, .int .i64 x8, .int .i64 x9] _ C1.out.pst C1.out.blk rfl r1 Z1.out F1.out hne hbd C1.out.vd).mono ?_
  rintro e w2 ⟨rfl, v2, hc⟩
  rw [Q1.out] at hc
  have C2 : Hid (CellSt base p d v v2 s2 138 #[n0, .int .i64 y0, .int .i64 y1, .int .u8 x2, .int .i64 x3, .int .i64 x4, .int .i64 x5, .int .i64 x6, .int .i64 x7, .int .i64 x8, .int .i64 x9] w w2) := C1.out.trans hc
  clear hc
  have b2 := blk_cell C2.out.blk 3
  simp at b2
  go_wp2_with fail
  refine (penSmall_any base p w2.heap.size 0 v2 s2 x2 5 #[.int .u8 x2] (w2.alloc (.cells #[.int .u8 x2] 5)) (own_new C2.out.pst _) (alloc_at w2 _) rfl r2 Z2.out F2.out (by have := C2.out.pst.lt; omega) (by have := C2.out.pst.lt; omega) (fun k hk => by have := C2.out.pst.ok.blkLt k hk; omega)).mono ?_
  rintro e w3 ⟨rfl, v3, hc⟩
  rw [Q2.out] at hc
  have hh := hc.here ((Below.refl _ _).alloc (Nat.le_refl _) _) (Nat.le_refl _) C2.out.blk C2.out.vd hne
  have t0 := blk_cell hc.blk 0
  have t1 := blk_cell hh.blk 3
  have t2 := blk_free hh.blk 3
  simp at t0 t1
  have C3 : Hid (CellSt base p d v v3 s3 138 #[n0, .int .i64 y0, .int .i64 y1, .int .u8 y2, .int .i64 x3, .int .i64 x4, .int .i64 x5, .int .i64 x6, .int .i64 x7, .int .i64 x8, .int .i64 x9] w (w3.setCell ⟨d, 3, none⟩ (.int .u8 y2))) := C2.out.trans (hh.set hne 3 (.int .u8 y2))
  clear hc hh
  have wz3 := C3
  go_wp2_with fail
  refine (penNum_any base p d 4 v3 s3 x3 138 #[n0, .int .i64 y0, .int .i64 y1, .int .u8 y2, .int .i64 x3, .int .i64 x4, .int .i64 x5, .int .i64 x6, .int .i64 x7, .int .i64 x8, .int .i64 x9] _ C3.out.pst C3.out.blk rfl r3 Z3.out F3.out hne hbd C3.out.vd).mono ?_
  rintro e w4 ⟨rfl, v4, hc⟩
  rw [Q3.out] at hc
  have C4 : Hid (CellSt base p d v v4 s4 138 #[n0, .int .i64 y0, .int .i64 y1, .int .u8 y2, .int .i64 y3, .int .i64 x4, .int .i64 x5, .int .i64 x6, .int .i64 x7, .int .i64 x8, .int .i64 x9] w w4) := C3.out.trans hc
  clear hc
  go_wp2_with fail
  refine (penNum_any base p d 5 v4 s4 x4 138 #[n0, .int .i64 y0, .int .i64 y1, .int .u8 y2, .int .i64 y3, .int .i64 x4, .int .i64 x5, .int .i64 x6, .int .i64 x7, .int .i64 x8, .int .i64 x9] _ C4.out.pst C4.out.blk rfl r4 Z4.out F4.out hne hbd C4.out.vd).mono ?_
  rintro e w5 ⟨rfl, v5, hc⟩
  rw [Q4.out] at hc
  have C5 : Hid (CellSt base p d v v5 s5 138 #[n0, .int .i64 y0, .int .i64 y1, .int .u8 y2, .int .i64 y3, .int .i64 y4, .int .i64 x5, .int .i64 x6, .int .i64 x7, .int .i64 x8, .int .i64 x9] w w5) := C4.out.trans hc
  clear hc
  go_wp2_with fail
  refine (penWhole_any base p d 6 v5 s5 x5 138 #[n0, .int .i64 y0, .int .i64 y1, .int .u8 y2, .int .i64 y3, .int .i64 y4, .int .i64 x5, .int .i64 x6, .int .i64 x7, .int .i64 x8, .int .i64 x9] _ C5.out.pst C5.out.blk rfl r5 Z5.out F5.out hne hbd C5.out.vd).mono ?_
  rintro e w6 ⟨rfl, v6, hc⟩
  rw [Q5.out] at hc
  have C6 : Hid (CellSt base p d v v6 s6 138 #[n0, .int .i64 y0, .int .i64 y1, .int .u8 y2, .int .i64 y3, .int .i64 y4, .int .i64 y5, .int .i64 x6, .int .i64 x7, .int .i64 x8, .int .i64 x9] w w6) := C5.out.trans hc
  clear hc
  go_wp2_with fail
  refine (penNum_any base p d 7 v6 s6 x6 138 #[n0, .int .i64 y0, .int .i64 y1, .int .u8 y2, .int .i64 y3, .int .i64 y4, .int .i64 y5, .int .i64 x6, .int .i64 x7, .int .i64 x8, .int .i64 x9] _ C6.out.pst C6.out.blk rfl r6 Z6.out F6.out hne hbd C6.out.vd).mono ?_
  rintro e w7 ⟨rfl, v7, hc⟩
  rw [Q6.out] at hc
  have C7 : Hid (CellSt base p d v v7 s7 138 #[n0, .int .i64 y0, .int .i64 y1, .int .u8 y2, .int .i64 y3, .int .i64 y4, .int .i64 y5, .int .i64 y6, .int .i64 x7, .int .i64 x8, .int .i64 x9] w w7) := C6.out.trans hc
  clear hc
  go_wp2_with fail
  refine (penNum_any base p d 8 v7 s7 x7 138 #[n0, .int .i64 y0, .int .i64 y1, .int .u8 y2, .int .i64 y3, .int .i64 y4, .int .i64 y5, .int .i64 y6, .int .i64 x7, .int .i64 x8, .int .i64 x9] _ C7.out.pst C7.out.blk rfl r7 Z7.out F7.out hne hbd C7.out.vd).mono ?_
  rintro e w8 ⟨rfl, v8, hc⟩
  rw [Q7.out] at hc
  have C8 : Hid (CellSt base p d v v8 s8 138 #[n0, .int .i64 y0, .int .i64 y1, .int .u8 y2, .int .i64 y3, .int .i64 y4, .int .i64 y5, .int .i64 y6, .int .i64 y7, .int .i64 x8, .int .i64 x9] w w8) := C7.out.trans hc
  clear hc
  go_wp2_with fail
  refine (penWhole_any base p d 9 v8 s8 x8 138 #[n0, .int .i64 y0, .int .i64 y1, .int .u8 y2, .int .i64 y3, .int .i64 y4, .int .i64 y5, .int .i64 y6, .int .i64 y7, .int .i64 x8, .int .i64 x9] _ C8.out.pst C8.out.blk rfl r8 Z8.out F8.out hne hbd C8.out.vd).mono ?_
  rintro e w9 ⟨rfl, v9, hc⟩
  rw [Q8.out] at hc
  have C9 : Hid (CellSt base p d v v9 s9 138 #[n0, .int .i64 y0, .int .i64 y1, .int .u8 y2, .int .i64 y3, .int .i64 y4, .int .i64 y5, .int .i64 y6, .int .i64 y7, .int .i64 y8, .int .i64 x9] w w9) := C8.out.trans hc
  clear hc
  go_wp2_with fail
  refine (penNum_any base p d 10 v9 s9 x9 138 #[n0, .int .i64 y0, .int .i64 y1, .int .u8 y2, .int .i64 y3, .int .i64 y4, .int .i64 y5, .int .i64 y6, .int .i64 y7, .int .i64 y8, .int .i64 x9] _ C9.out.pst C9.out.blk rfl r9 Z9.out F9.out hne hbd C9.out.vd).mono ?_
  rintro e w10 ⟨rfl, v10, hc⟩
  rw [Q9.out] at hc
  have C10 : Hid (CellSt base p d v v10 s10 138 #[n0, .int .i64 y0, .int .i64 y1, .int .u8 y2, .int .i64 y3, .int .i64 y4, .int .i64 y5, .int .i64 y6, .int .i64 y7, .int .i64 y8, .int .i64 y9] w w10) := C9.out.trans hc
  clear hc
  go_wp2
  exact bodyPost_ret (v := .tuple #[]) (by simp [results]) rfl ⟨rfl, v10, C10.out⟩
end Go.Proofs.YtckooioikcenmaaGreat
namespace Go.Proofs.YtckooioikcenmaaGreat
open Go.RowKit
/-- the cells of Op -/
def cellsOp : DOp → Array Value := fun ⟨x0, x1, x2, x3, x4, x5, x6, x7, x8, x9⟩ => #[.int .u8 x0, .string x1, .string x2, .string x3, .string x4, .int .i64 x5, .int .i64 x6, .int .i64 x7, .int .i64 x8, .int .i64 x9]
set_option maxRecDepth 20000 in
set_option maxHeartbeats 4000000 in
theorem penOp_any (base p d : Nat) (v : Value) (st : Pn) (x0 : Int) (x1 : ByteArray) (x2 : ByteArray) (x3 : ByteArray) (x4 : ByteArray) (x5 : Int) (x6 : Int) (x7 : Int) (x8 : Int) (x9 : Int)  (w : World) (hs : PSt base p w v st) (hd : w.heap[d]? = some (.cells #[.int .u8 x0, .string x1, .string x2, .string x3, .string x4, .int .i64 x5, .int .i64 x6, .int .i64 x7, .int .i64 x8, .int .i64 x9] 24)) (r0 : 0 ≤ x0 ∧ x0 ≤ 255) (r1 : x1.size ≤ 30000) (r2 : x2.size ≤ 30000) (r3 : x3.size ≤ 30000) (r4 : x4.size ≤ 30000) (r5 : I64 x5) (r6 : I64 x6) (r7 : I64 x7) (r8 : I64 x8) (r9 : I64 x9) (hz : st.rd = true → x0 = 0 ∧ x1 = ⟨#[]⟩ ∧ x2 = ⟨#[]⟩ ∧ x3 = ⟨#[]⟩ ∧ x4 = ⟨#[]⟩ ∧ x5 = 0 ∧ x6 = 0 ∧ x7 = 0 ∧ x8 = 0 ∧ x9 = 0) (hl : Fits cOp st (x0, x1, x2, x3, x4, x5, x6, x7, x8, x9)) (hne : d ≠ p) (hbd : base ≤ d) (hvd : ∀ k, Value.readBlock v = some k → k ≠ d) :
    Calls Tryz.prog 22 #[.pointer (some ⟨p, 0, none⟩), .pointer (some ⟨d, 0, none⟩)] w (CellPost base p d v (pC cOp st (x0, x1, x2, x3, x4, x5, x6, x7, x8, x9)).2 24 (cellsOp (pC cOp st (x0, x1, x2, x3, x4, x5, x6, x7, x8, x9)).1) w) := by
  have hE : ∀ z, pC cOp st (x0, x1, x2, x3, x4, x5, x6, x7, x8, x9) = z → pC cOp st (x0, x1, x2, x3, x4, x5, x6, x7, x8, x9) = z := fun _ h => h
  have hR : st.rd = st.rd := rfl
  have f0 : Fits cB st x0 := hl.left
  have hl1 := hl.right
  have z0 : st.rd = true → x0 = 0 := fun h => (hz h).1
  have g0 : (pC cB st x0).2.rd = st.rd := pC_rd _ _ _
  obtain ⟨y0, e0⟩ : ∃ y, (pC cB st x0).1 = y := ⟨_, rfl⟩
  obtain ⟨s1, k0⟩ : ∃ s, (pC cB st x0).2 = s := ⟨_, rfl⟩
  have q0 : pC cB st x0 = (y0, s1) := Prod.ext e0 k0
  rw [k0] at g0 hl1
  rw [← g0] at hz
  have f1 : Fits cS s1 x1 := hl1.left
  have hl2 := hl1.right
  have z1 : s1.rd = true → x1 = ⟨#[]⟩ := fun h => (hz h).2.1
  have g1 : (pC cS s1 x1).2.rd = s1.rd := pC_rd _ _ _
  obtain ⟨y1, e1⟩ : ∃ y, (pC cS s1 x1).1 = y := ⟨_, rfl⟩
  obtain ⟨s2, k1⟩ : ∃ s, (pC cS s1 x1).2 = s := ⟨_, rfl⟩
  have q1 : pC cS s1 x1 = (y1, s2) := Prod.ext e1 k1
  rw [k1] at g1 hl2
  rw [← g1] at hz
  have f2 : Fits cS s2 x2 := hl2.left
  have hl3 := hl2.right
  have z2 : s2.rd = true → x2 = ⟨#[]⟩ := fun h => (hz h).2.2.1
  have g2 : (pC cS s2 x2).2.rd = s2.rd := pC_rd _ _ _
  obtain ⟨y2, e2⟩ : ∃ y, (pC cS s2 x2).1 = y := ⟨_, rfl⟩
  obtain ⟨s3, k2⟩ : ∃ s, (pC cS s2 x2).2 = s := ⟨_, rfl⟩
  have q2 : pC cS s2 x2 = (y2, s3) := Prod.ext e2 k2
  rw [k2] at g2 hl3
  rw [← g2] at hz
  have f3 : Fits cS s3 x3 := hl3.left
  have hl4 := hl3.right
  have z3 : s3.rd = true → x3 = ⟨#[]⟩ := fun h => (hz h).2.2.2.1
  have g3 : (pC cS s3 x3).2.rd = s3.rd := pC_rd _ _ _
  obtain ⟨y3, e3⟩ : ∃ y, (pC cS s3 x3).1 = y := ⟨_, rfl⟩
  obtain ⟨s4, k3⟩ : ∃ s, (pC cS s3 x3).2 = s := ⟨_, rfl⟩
  have q3 : pC cS s3 x3 = (y3, s4) := Prod.ext e3 k3
  rw [k3] at g3 hl4
  rw [← g3] at hz
  have f4 : Fits cS s4 x4 := hl4.left
  have hl5 := hl4.right
  have z4 : s4.rd = true → x4 = ⟨#[]⟩ := fun h => (hz h).2.2.2.2.1
  have g4 : (pC cS s4 x4).2.rd = s4.rd := pC_rd _ _ _
  obtain ⟨y4, e4⟩ : ∃ y, (pC cS s4 x4).1 = y := ⟨_, rfl⟩
  obtain ⟨s5, k4⟩ : ∃ s, (pC cS s4 x4).2 = s := ⟨_, rfl⟩
  have q4 : pC cS s4 x4 = (y4, s5) := Prod.ext e4 k4
  rw [k4] at g4 hl5
  rw [← g4] at hz
  have f5 : Fits cI s5 x5 := hl5.left
  have hl6 := hl5.right
  have z5 : s5.rd = true → x5 = 0 := fun h => (hz h).2.2.2.2.2.1
  have g5 : (pC cI s5 x5).2.rd = s5.rd := pC_rd _ _ _
  obtain ⟨y5, e5⟩ : ∃ y, (pC cI s5 x5).1 = y := ⟨_, rfl⟩
  obtain ⟨s6, k5⟩ : ∃ s, (pC cI s5 x5).2 = s := ⟨_, rfl⟩
  have q5 : pC cI s5 x5 = (y5, s6) := Prod.ext e5 k5
  rw [k5] at g5 hl6
  rw [← g5] at hz
  have f6 : Fits cI s6 x6 := hl6.left
  have hl7 := hl6.right
  have z6 : s6.rd = true → x6 = 0 := fun h => (hz h).2.2.2.2.2.2.1
  have g6 : (pC cI s6 x6).2.rd = s6.rd := pC_rd _ _ _
  obtain ⟨y6, e6⟩ : ∃ y, (pC cI s6 x6).1 = y := ⟨_, rfl⟩
  obtain ⟨s7, k6⟩ : ∃ s, (pC cI s6 x6).2 = s := ⟨_, rfl⟩
  have q6 : pC cI s6 x6 = (y6, s7) := Prod.ext e6 k6
  rw [k6] at g6 hl7
  rw [← g6] at hz
  have f7 : Fits cI s7 x7 := hl7.left
  have hl8 := hl7.right
  have z7 : s7.rd = true → x7 = 0 := fun h => (hz h).2.2.2.2.2.2.2.1
  have g7 : (pC cI s7 x7).2.rd = s7.rd := pC_rd _ _ _
  obtain ⟨y7, e7⟩ : ∃ y, (pC cI s7 x7).1 = y := ⟨_, rfl⟩
  obtain ⟨s8, k7⟩ : ∃ s, (pC cI s7 x7).2 = s := ⟨_, rfl⟩
  have q7 : pC cI s7 x7 = (y7, s8) := Prod.ext e7 k7
  rw [k7] at g7 hl8
  rw [← g7] at hz
  have f8 : Fits cI s8 x8 := hl8.left
  have hl9 := hl8.right
  have z8 : s8.rd = true → x8 = 0 := fun h => (hz h).2.2.2.2.2.2.2.2.1
  have g8 : (pC cI s8 x8).2.rd = s8.rd := pC_rd _ _ _
  obtain ⟨y8, e8⟩ : ∃ y, (pC cI s8 x8).1 = y := ⟨_, rfl⟩
  obtain ⟨s9, k8⟩ : ∃ s, (pC cI s8 x8).2 = s := ⟨_, rfl⟩
  have q8 : pC cI s8 x8 = (y8, s9) := Prod.ext e8 k8
  rw [k8] at g8 hl9
  rw [← g8] at hz
  have f9 : Fits cI s9 x9 := hl9
  have z9 : s9.rd = true → x9 = 0 := fun h => (hz h).2.2.2.2.2.2.2.2.2
  have g9 : (pC cI s9 x9).2.rd = s9.rd := pC_rd _ _ _
  obtain ⟨y9, e9⟩ : ∃ y, (pC cI s9 x9).1 = y := ⟨_, rfl⟩
  obtain ⟨s10, k9⟩ : ∃ s, (pC cI s9 x9).2 = s := ⟨_, rfl⟩
  have q9 : pC cI s9 x9 = (y9, s10) := Prod.ext e9 k9
  rw [k9] at g9
  rw [← g9] at hz
  have HE : Hid (pC cOp st (x0, x1, x2, x3, x4, x5, x6, x7, x8, x9) = ((y0, y1, y2, y3, y4, y5, y6, y7, y8, y9), s10)) := by show _ = _; unfold cOp; simp only [pC_seq, q0, q1, q2, q3, q4, q5, q6, q7, q8, q9]
  have F0 := Lib.hid f0
  have Z0 := Lib.hid z0
  have Q0 := Lib.hid q0
  have F1 := Lib.hid f1
  have Z1 := Lib.hid z1
  have Q1 := Lib.hid q1
  have F2 := Lib.hid f2
  have Z2 := Lib.hid z2
  have Q2 := Lib.hid q2
  have F3 := Lib.hid f3
  have Z3 := Lib.hid z3
  have Q3 := Lib.hid q3
  have F4 := Lib.hid f4
  have Z4 := Lib.hid z4
  have Q4 := Lib.hid q4
  have F5 := Lib.hid f5
  have Z5 := Lib.hid z5
  have Q5 := Lib.hid q5
  have F6 := Lib.hid f6
  have Z6 := Lib.hid z6
  have Q6 := Lib.hid q6
  have F7 := Lib.hid f7
  have Z7 := Lib.hid z7
  have Q7 := Lib.hid q7
  have F8 := Lib.hid f8
  have Z8 := Lib.hid z8
  have Q8 := Lib.hid q8
  have F9 := Lib.hid f9
  have Z9 := Lib.hid z9
  have Q9 := Lib.hid q9
  have C0 := Lib.hid (hs.cell hd hvd)
  have hdl := blk_lt hd
  have hpl := hs.lt
  have hbp := hs.hr
  rw [HE.out]
  clear hs hd hvd hl hz hE hR f0 z0 q0 e0 k0 g0 f1 z1 q1 e1 k1 g1 f2 z2 q2 e2 k2 g2 f3 z3 q3 e3 k3 g3 f4 z4 q4 e4 k4 g4 f5 z5 q5 e5 k5 g5 f6 z6 q6 e6 k6 g6 f7 z7 q7 e7 k7 g7 f8 z8 q8 e8 k8 g8 f9 z9 q9 e9 k9 g9 hl1 hl2 hl3 hl4 hl5 hl6 hl7 hl8 hl9
  show Calls _ _ _ _ (CellPost base p d v s10 24 #[.int .u8 y0, .string y1, .string y2, .string y3, .string y4, .int .i64 y5, .int .i64 y6, .int .i64 y7, .int .i64 y8, .int .i64 y9] w)
  go_enter Tryz.func22, Tryz.ntmps22
  have b0 := blk_cell C0.out.blk 0
  simp at b0
  go_wp2_with fail
  refine (penSmall_any base p w.heap.size 0 v st x0 5 #[.int .u8 x0] (w.alloc (.cells #[.int .u8 x0] 5)) (own_new C0.out.pst _) (alloc_at w _) rfl r0 Z0.out F0.out (by have := C0.out.pst.lt; omega) (by have := C0.out.pst.lt; omega) (fun k hk => by have := C0.out.pst.ok.blkLt k hk; omega)).mono ?_
  rintro e w1 ⟨rfl, v1, hc⟩
  rw [Q0.out] at hc
  have hh := hc.here ((Below.refl _ _).alloc (Nat.le_refl _) _) (Nat.le_refl _) C0.out.blk C0.out.vd hne
  have t0 := blk_cell hc.blk 0
  have t1 := blk_cell hh.blk 0
  have t2 := blk_free hh.blk 0
  simp at t0 t1
  have C1 : Hid (CellSt base p d v v1 s1 24 #[.int .u8 y0, .string x1, .string x2, .string x3, .string x4, .int .i64 x5, .int .i64 x6, .int .i64 x7, .int .i64 x8, .int .i64 x9] w (w1.setCell ⟨d, 0, none⟩ (.int .u8 y0))) := C0.out.trans (hh.set hne 0 (.int .u8 y0))
  clear hc hh
  have wz1 := C1
  go_wp2_with fail
  refine (penText_any base p d 1 v1 s1 x1 24 #[.int .u8 y0, .string x1, .string x2, .string x3, .string x4, .int .i64 x5, .int .i64 x6, .int .i64 x7, .int .i64 x8, .int .i64 x9] _ C1.out.pst C1.out.blk rfl r1 Z1.out F1.out hne C1.out.vd).mono ?_
  rintro e w2 ⟨rfl, v2, hc⟩
  rw [Q1.out] at hc
  have C2 : Hid (CellSt base p d v v2 s2 24 #[.int .u8 y0, .string y1, .string x2, .string x3, .string x4, .int .i64 x5, .int .i64 x6, .int .i64 x7, .int .i64 x8, .int .i64 x9] w w2) := C1.out.trans hc
  clear hc
  go_wp2_with fail
  refine (penText_any base p d 2 v2 s2 x2 24 #[.int .u8 y0, .string y1, .string x2, .string x3, .string x4, .int .i64 x5, .int .i64 x6, .int .i64 x7, .int .i64 x8, .int .i64 x9] _ C2.out.pst C2.out.blk rfl r2 Z2.out F2.out hne C2.out.vd).mono ?_
  rintro e w3 ⟨rfl, v3, hc⟩
  rw [Q2.out] at hc
  have C3 : Hid (CellSt base p d v v3 s3 24 #[.int .u8 y0, .string y1, .string y2, .string x3, .string x4, .int .i64 x5, .int .i64 x6, .int .i64 x7, .int .i64 x8, .int .i64 x9] w w3) := C2.out.trans hc
  clear hc
  go_wp2_with fail
  refine (penText_any base p d 3 v3 s3 x3 24 #[.int .u8 y0, .string y1, .string y2, .string x3, .string x4, .int .i64 x5, .int .i64 x6, .int .i64 x7, .int .i64 x8, .int .i64 x9] _ C3.out.pst C3.out.blk rfl r3 Z3.out F3.out hne C3.out.vd).mono ?_
  rintro e w4 ⟨rfl, v4, hc⟩
  rw [Q3.out] at hc
  have C4 : Hid (CellSt base p d v v4 s4 24 #[.int .u8 y0, .string y1, .string y2, .string y3, .string x4, .int .i64 x5, .int .i64 x6, .int .i64 x7, .int .i64 x8, .int .i64 x9] w w4) := C3.out.trans hc
  clear hc
  go_wp2_with fail
  refine (penText_any base p d 4 v4 s4 x4 24 #[.int .u8 y0, .string y1, .string y2, .string y3, .string x4, .int .i64 x5, .int .i64 x6, .int .i64 x7, .int .i64 x8, .int .i64 x9] _ C4.out.pst C4.out.blk rfl r4 Z4.out F4.out hne C4.out.vd).mono ?_
  rintro e w5 ⟨rfl, v5, hc⟩
  rw [Q4.out] at hc
  have C5 : Hid (CellSt base p d v v5 s5 24 #[.int .u8 y0, .string y1, .string y2, .string y3, .string y4, .int .i64 x5, .int .i64 x6, .int .i64 x7, .int .i64 x8, .int .i64 x9] w w5) := C4.out.trans hc
  clear hc
  go_wp2_with fail
  refine (penNum_any base p d 5 v5 s5 x5 24 #[.int .u8 y0, .string y1, .string y2, .string y3, .string y4, .int .i64 x5, .int .i64 x6, .int .i64 x7, .int .i64 x8, .int .i64 x9] _ C5.out.pst C5.out.blk rfl r5 Z5.out F5.out hne hbd C5.out.vd).mono ?_
  rintro e w6 ⟨rfl, v6, hc⟩
  rw [Q5.out] at hc
  have C6 : Hid (CellSt base p d v v6 s6 24 #[.int .u8 y0, .string y1, .string y2, .string y3, .string y4, .int .i64 y5, .int .i64 x6, .int .i64 x7, .int .i64 x8, .int .i64 x9] w w6) := C5.out.trans hc
  clear hc
  go_wp2_with fail
  refine (penNum_any base p d 6 v6 s6 x6 24 #[.int .u8 y0, .string y1, .string y2, .string y3, .string y4, .int .i64 y5, .int .i64 x6, .int .i64 x7, .int .i64 x8, .int .i64 x9] _ C6.out.pst C6.out.blk rfl r6 Z6.out F6.out hne hbd C6.out.vd).mono ?_
  rintro e w7 ⟨rfl, v7, hc⟩
  rw [Q6.out] at hc
  have C7 : Hid (CellSt base p d v v7 s7 24 #[.int .u8 y0, .string y1, .string y2, .string y3, .string y4, .int .i64 y5, .int .i64 y6, .int .i64 x7, .int .i64 x8, .int .i64 x9] w w7) := C6.out.trans hc
  clear hc
  go_wp2_with fail
  refine (penWhole_any base p d 7 v7 s7 x7 24 #[.int .u8 y0, .string y1, .string y2, .string y3, .string y4, .int .i64 y5, .int .i64 y6, .int .i64 x7, .int .i64 x8, .int .i64 x9] _ C7.out.pst C7.out.blk rfl r7 Z7.out F7.out hne hbd C7.out.vd).mono ?_
  rintro e w8 ⟨rfl, v8, hc⟩
  rw [Q7.out] at hc
  have C8 : Hid (CellSt base p d v v8 s8 24 #[.int .u8 y0, .string y1, .string y2, .string y3, .string y4, .int .i64 y5, .int .i64 y6, .int .i64 y7, .int .i64 x8, .int .i64 x9] w w8) := C7.out.trans hc
  clear hc
  go_wp2_with fail
  refine (penWhole_any base p d 8 v8 s8 x8 24 #[.int .u8 y0, .string y1, .string y2, .string y3, .string y4, .int .i64 y5, .int .i64 y6, .int .i64 y7, .int .i64 x8, .int .i64 x9] _ C8.out.pst C8.out.blk rfl r8 Z8.out F8.out hne hbd C8.out.vd).mono ?_
  rintro e w9 ⟨rfl, v9, hc⟩
  rw [Q8.out] at hc
  have C9 : Hid (CellSt base p d v v9 s9 24 #[.int .u8 y0, .string y1, .string y2, .string y3, .string y4, .int .i64 y5, .int .i64 y6, .int .i64 y7, .int .i64 y8, .int .i64 x9] w w9) := C8.out.trans hc
  clear hc
  go_wp2_with fail
  refine (penWhole_any base p d 9 v9 s9 x9 24 #[.int .u8 y0, .string y1, .string y2, .string y3, .string y4, .int .i64 y5, .int .i64 y6, .int .i64 y7, .int .i64 y8, .int .i64 x9] _ C9.out.pst C9.out.blk rfl r9 Z9.out F9.out hne hbd C9.out.vd).mono ?_
  rintro e w10 ⟨rfl, v10, hc⟩
  rw [Q9.out] at hc
  have C10 : Hid (CellSt base p d v v10 s10 24 #[.int .u8 y0, .string y1, .string y2, .string y3, .string y4, .int .i64 y5, .int .i64 y6, .int .i64 y7, .int .i64 y8, .int .i64 y9] w w10) := C9.out.trans hc
  clear hc
  go_wp2
  exact bodyPost_ret (v := .tuple #[]) (by simp [results]) rfl ⟨rfl, v10, C10.out⟩
end Go.Proofs.YtckooioikcenmaaGreat

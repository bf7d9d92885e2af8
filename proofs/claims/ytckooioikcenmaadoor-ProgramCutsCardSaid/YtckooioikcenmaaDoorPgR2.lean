/- program.Read. Conditions: sizes a machine can have. -/
import Derived.Test.YtckooioikcenmaaDoorPgR1
import Derived.Test.YtckooioikcenmaaDoorPgE2
import Derived.Test.YtckooioikcenmaaDoorPgL1
import Derived.LoopN
namespace Go.Proofs.YtckooioikcenmaaDoor
open Go.RowKit
theorem OwnCode.code {base : Nat} {w : World} {v : Value} {xs : List Ins} (h : OwnCode base w v xs) : CodeAt w v xs := by
  rcases h.2 with ⟨rfl, h2⟩ | ⟨g, cap, cur, rfl, hb, hh, h3, h4, h5, h6⟩
  · exact .inl ⟨⟨_, _, rfl⟩, List.eq_nil_of_length_eq_zero h2⟩
  · refine .inr ⟨g, 0, cap, rfl, h3, h4, blk_lt hh, fun j x hj => ?_⟩
    have key : ∀ i u, x.cells[i]? = some u → w.cell? ⟨g, 0 + j * 6 + i, none⟩ = some u := by
      intro i u hu
      have hi : i < 6 := by
        have := (Array.getElem?_eq_some_iff.1 hu).1
        simpa [Ins.cells] using this
      have hf : (flat xs)[j * 6 + i]? = some u := by
        have : ∀ (xs : List Ins) (j : Nat), xs[j]? = some x → (flat xs)[j * 6 + i]? = some u := by
          intro xs
          induction xs with
          | nil => intro j hj; simp at hj
          | cons y r ih =>
            intro j hj
            cases j with
            | zero =>
              simp at hj
              subst hj
              show (y.cells.toList ++ flat r)[0 * 6 + i]? = some u
              rw [List.getElem?_append_left (by simp [Ins.cells]; omega)]
              simpa using hu
            | succ j =>
              show (y.cells.toList ++ flat r)[(j + 1) * 6 + i]? = some u
              rw [List.getElem?_append_right (by simp [Ins.cells]; omega)]
              have e : (j + 1) * 6 + i - y.cells.toList.length = j * 6 + i := by simp [Ins.cells]; omega
              rw [e]
              exact ih j (by simpa using hj)
        exact this xs j hj
      have := World.ownsRow.cells h (g := g) rfl (j * 6 + i) u hf
      rw [addr_add] at this
      rw [Nat.add_assoc]
      exact this
    exact ⟨key 0 _ rfl, key 1 _ rfl, key 2 _ rfl, key 3 _ rfl, key 4 _ rfl, key 5 _ rfl⟩
theorem ownCode_lt {base k : Nat} {w : World} {v : Value} {xs : List Ins} (h : OwnCode base w v xs) (e : some k = v.ownBlock) : k < w.heap.size ∧ base ≤ k ∧ ∃ cs fr, w.heap[k]? = some (.cells cs 34 fr) := by
  rcases h.2 with ⟨rfl, _⟩ | ⟨g, cap, cur, rfl, hb, hh, _⟩
  · cases e
  · have : k = g := by simpa [Value.ownBlock] using e
    subst this
    exact ⟨blk_lt hh, hb, _, _, hh⟩
theorem OwnCode.far {base k : Nat} {w : World} {v : Value} {xs : List Ins} {cs : Array Value} {T : TypeId} {fr : Nat × Nat} (h : OwnCode base w v xs) (hk : w.heap[k]? = some (.cells cs T fr)) (hT : T ≠ 34) : some k ≠ v.ownBlock := by
  intro e
  obtain ⟨_, _, cs', fr', hh⟩ := ownCode_lt h e
  rw [hh] at hk
  injection hk with hk
  injection hk with _ hk
  exact hT hk.symm
theorem OwnCode.step {base : Nat} {w w' : World} {v : Value} {xs : List Ins} {row : Option Nat} (h : OwnCode base w v xs) (hg : w.grownBy w' row) (hne : ∀ k, some k = v.ownBlock → some k ≠ row) : OwnCode base w' v xs := by
  refine ⟨h.1, ?_⟩
  rcases h.2 with h2 | ⟨g, cap, cur, rfl, hb, hh, hr⟩
  · exact .inl h2
  · exact .inr ⟨g, cap, cur, rfl, hb, (hg.block g (blk_lt hh) (hne g rfl)).trans hh, hr⟩
theorem OwnCode.form {base : Nat} {w : World} {v : Value} {xs : List Ins} (h : OwnCode base w v xs) : ∃ A c, v = .slice A xs.length c := by
  rcases h.2 with ⟨rfl, h2⟩ | ⟨g, cap, cur, rfl, _⟩
  · exact ⟨_, _, by rw [h2]⟩
  · exact ⟨_, _, rfl⟩
theorem grow_blk {w w' : World} {row : Option Nat} {k : Nat} {o : Obj} (hg : w.grownBy w' row) (hk : w.heap[k]? = some o) (hne : some k ≠ row) : w'.heap[k]? = some o := (hg.block k (blk_lt hk) hne).trans hk
theorem grow_bel {B : Nat} {w0 w w' : World} {r : Nat} (h : Below B w0 w) (hg : w.grownBy w' (some r)) (hr : B ≤ r) (hB : B ≤ w0.heap.size) : Below B w0 w' :=
  ⟨hg.os.trans h.os, hg.tape.trans h.tape, hg.output.trans h.output, Nat.le_trans h.size hg.size, fun k hk => (hg.block k (by have := h.size; omega) (by intro e; injection e; omega)).trans (h.block k hk)⟩
/-- the state of Read: its result, its reader, its program -/
structure RS (w0 w : World) (v : Value) (s : Rd) (nm : ByteArray) (rg : Int) (cv : Value) (xs : List Ins) : Prop where
  bel : Below w0.heap.size w0 w
  res : w.heap[w0.heap.size]? = some (.cells #[.string ⟨#[]⟩, .int .i64 0, .slice none 0 0] 24)
  rd : RAt w (w0.heap.size + 1) v s
  p : w.heap[w0.heap.size + 1 + 1]? = some (.cells #[.string nm, .int .i64 rg, cv] 24)
  own : OwnCode w0.heap.size w cv xs
theorem RS.call {w0 w w' : World} {v : Value} {s s' : Rd} {nm : ByteArray} {rg : Int} {cv : Value} {xs : List Ins} (h : RS w0 w v s nm rg cv xs) (hR : RAt w' (w0.heap.size + 1) v s') (hg : w.grownBy w' (some (w0.heap.size + 1))) : RS w0 w' v s' nm rg cv xs :=
  ⟨grow_bel h.bel hg (by omega) (Nat.le_refl _), grow_blk hg h.res (by simp), hR, grow_blk hg h.p (by simp), h.own.step hg (fun k hk e => h.own.far h.rd (by decide) (by rw [← e, hk]))⟩
theorem RS.alloc {w0 w : World} {v : Value} {s : Rd} {nm : ByteArray} {rg : Int} {cv : Value} {xs : List Ins} (h : RS w0 w v s nm rg cv xs) (o : Obj) : RS w0 (w.alloc o) v s nm rg cv xs :=
  ⟨h.bel.alloc h.bel.size o, blk_alloc h.res o, blk_alloc h.rd o, blk_alloc h.p o, h.own.step (World.grownBy_alloc w o none) (fun k _ => by simp)⟩
theorem RS.setName {w0 w : World} {v : Value} {s : Rd} {nm : ByteArray} {rg : Int} {cv : Value} {xs : List Ins} (h : RS w0 w v s nm rg cv xs) (nm' : ByteArray) : RS w0 (w.setCell ⟨w0.heap.size + 1 + 1, 0, none⟩ (.string nm')) v s nm' rg cv xs := by
  have hg := grow_set w (w0.heap.size + 1 + 1) 0 (.string nm')
  exact ⟨grow_bel h.bel hg (by omega) (Nat.le_refl _), grow_blk hg h.res (by simp; omega), grow_blk hg h.rd (by simp), blk_set h.p 0 _, h.own.step hg (fun k hk e => h.own.far h.p (by decide) (by rw [← e, hk]))⟩
theorem RS.setRegs {w0 w : World} {v : Value} {s : Rd} {nm : ByteArray} {rg : Int} {cv : Value} {xs : List Ins} (h : RS w0 w v s nm rg cv xs) (rg' : Int) : RS w0 (w.setCell ⟨w0.heap.size + 1 + 1, 1, none⟩ (.int .i64 rg')) v s nm rg' cv xs := by
  have hg := grow_set w (w0.heap.size + 1 + 1) 1 (.int .i64 rg')
  exact ⟨grow_bel h.bel hg (by omega) (Nat.le_refl _), grow_blk hg h.res (by simp; omega), grow_blk hg h.rd (by simp), blk_set h.p 1 _, h.own.step hg (fun k hk e => h.own.far h.p (by decide) (by rw [← e, hk]))⟩
theorem RS.setIns {w0 w : World} {v : Value} {s : Rd} {nm : ByteArray} {rg : Int} {cv : Value} {xs : List Ins} (h : RS w0 w v s nm rg cv xs) {k : Nat} (hk : w0.heap.size + 1 + 1 < k) (hf : some k ≠ cv.ownBlock) (o : Nat) (u : Value) : RS w0 (w.setCell ⟨k, o, none⟩ u) v s nm rg cv xs := by
  have hg := grow_set w k o u
  exact ⟨grow_bel h.bel hg (by omega) (Nat.le_refl _), grow_blk hg h.res (by simp; omega), grow_blk hg h.rd (by simp; omega), grow_blk hg h.p (by simp; omega), h.own.step hg (fun j hj e => hf (by rw [← e, hj]))⟩
theorem RS.push {w0 w w' : World} {v : Value} {s : Rd} {nm : ByteArray} {rg : Int} {cv cv' : Value} {xs ys : List Ins} (h : RS w0 w v s nm rg cv xs) (hown : OwnCode w0.heap.size w' cv' ys) (hext : Ext w w' cv cv') :
    w'.heap[w0.heap.size + 1 + 1]? = some (.cells #[.string nm, .int .i64 rg, cv] 24) ∧ RS w0 (w'.setCell ⟨w0.heap.size + 1 + 1, 2, none⟩ cv') v s nm rg cv' ys := by
  have hp := hext.blk h.p (h.own.far h.p (by decide))
  have hg := grow_set w' (w0.heap.size + 1 + 1) 2 cv'
  exact ⟨hp, grow_bel (ext_below hext h.own h.bel (Nat.le_refl _)) hg (by omega) (Nat.le_refl _), grow_blk hg (hext.blk h.res (h.own.far h.res (by decide))) (by simp; omega),
    grow_blk hg (hext.blk h.rd (h.own.far h.rd (by decide))) (by simp), blk_set hp 2 _, hown.step hg (fun k hk e => hown.far hp (by decide) (by rw [← e, hk]))⟩
theorem RS.first (w : World) (v : Value) : RS w (((w.alloc (.cells #[.string ⟨#[]⟩, .int .i64 0, .slice none 0 0] 24)).alloc (.cells #[v, .int .i64 0, .bool false] 69)).alloc (.cells #[.string ⟨#[]⟩, .int .i64 0, .slice none 0 0] 24)) v ⟨0, false⟩ ⟨#[]⟩ 0 (.slice none 0 0) [] := by
  refine ⟨(((Below.refl _ _).alloc (Nat.le_refl _) _).alloc (by simp) _).alloc (by simp; omega) _, blk_alloc (blk_alloc (alloc_at _ _) _) _, ?_, ?_, OwnCode.nil _ _⟩
  · have := alloc_at (w.alloc (.cells #[.string ⟨#[]⟩, .int .i64 0, .slice none 0 0] 24)) (.cells #[v, .int .i64 0, .bool false] 69)
    rw [show (w.alloc (.cells #[.string ⟨#[]⟩, .int .i64 0, .slice none 0 0] 24)).heap.size = w.heap.size + 1 by simp] at this
    exact blk_alloc this _
  · have := alloc_at ((w.alloc (.cells #[.string ⟨#[]⟩, .int .i64 0, .slice none 0 0] 24)).alloc (.cells #[v, .int .i64 0, .bool false] 69)) (.cells #[.string ⟨#[]⟩, .int .i64 0, .slice none 0 0] 24)
    rw [show ((w.alloc (.cells #[.string ⟨#[]⟩, .int .i64 0, .slice none 0 0] 24)).alloc (.cells #[v, .int .i64 0, .bool false] 69)).heap.size = w.heap.size + 2 by simp] at this
    exact this
/-- the state of a round: the instruction that is being read lies in block K -/
structure RI (w0 w : World) (v : Value) (s : Rd) (nm : ByteArray) (rg : Int) (cv : Value) (xs : List Ins) (K : Nat) (x : Ins) : Prop where
  rs : RS w0 w v s nm rg cv xs
  ins : w.heap[K]? = some (.cells x.cells 34)
  lt : w0.heap.size + 1 + 1 < K
  far : some K ≠ cv.ownBlock
def zeroIns : Ins := ⟨0, 0, 0, 0, 0, ⟨#[]⟩⟩
theorem RI.first {w0 w : World} {v : Value} {s : Rd} {nm : ByteArray} {rg : Int} {cv : Value} {xs : List Ins} (h : RS w0 w v s nm rg cv xs) : RI w0 (w.alloc (.cells #[.int .u8 0, .int .i64 0, .int .i64 0, .int .i64 0, .int .i64 0, .string ⟨#[]⟩] 34)) v s nm rg cv xs w.heap.size zeroIns :=
  ⟨h.alloc _, alloc_at _ _, blk_lt h.p, fun e => Nat.lt_irrefl _ (ownCode_lt h.own e).1⟩
theorem RI.call {w0 w w' : World} {v : Value} {s s' : Rd} {nm : ByteArray} {rg : Int} {cv : Value} {xs : List Ins} {K : Nat} {x : Ins} (h : RI w0 w v s nm rg cv xs K x) (hR : RAt w' (w0.heap.size + 1) v s') (hg : w.grownBy w' (some (w0.heap.size + 1))) : RI w0 w' v s' nm rg cv xs K x :=
  ⟨h.rs.call hR hg, grow_blk hg h.ins (by have := h.lt; simp; omega), h.lt, h.far⟩
theorem RI.set {w0 w : World} {v : Value} {s : Rd} {nm : ByteArray} {rg : Int} {cv : Value} {xs : List Ins} {K : Nat} {x y : Ins} (h : RI w0 w v s nm rg cv xs K x) {o : Nat} {u : Value} (hy : x.cells.setIfInBounds o u = y.cells) : RI w0 (w.setCell ⟨K, o, none⟩ u) v s nm rg cv xs K y :=
  ⟨h.rs.setIns h.lt h.far o u, by rw [← hy]; exact blk_set h.ins o u, h.lt, h.far⟩
def RoundAt (w wr : World) (v : Value) (ys : List UInt8) (nm : ByteArray) (rg : Int) (k : Nat) : Prop :=
  ∃ s cv acc, RS w wr v s nm rg cv acc ∧ s.pos ≤ 140737488355328 ∧ rdProg ys = (⟨nm, rg, (rdCode ys k s acc).1⟩, (rdCode ys k s acc).2) ∧ acc.length + k ≤ 500
def rdRes (ys : List UInt8) : Prg := if readsB ys = true then (rdProg ys).1 else ⟨⟨#[]⟩, 0, []⟩
def rdN (ys : List UInt8) : Int := if readsB ys = true then 0 else 100
def ReadPost (ys : List UInt8) (w : World) (e : Ending) (w' : World) : Prop :=
  ∃ cv, e = .returned (.tuple #[.agg #[.string (rdRes ys).name, .int .i64 (rdRes ys).regs, cv], .int .i64 (rdN ys)]) ∧ CodeAt w' cv (rdRes ys).code ∧ Below w.heap.size w w'
theorem reads_no1 {ys : List UInt8} {p : Prg} {pos : Int} (h : rdProg ys = (p, ⟨pos, true⟩)) : rdRes ys = ⟨⟨#[]⟩, 0, []⟩ ∧ rdN ys = 100 := by
  have : readsB ys = false := by unfold readsB; rw [h]; simp
  simp [rdRes, rdN, this]
theorem reads_no2 {ys : List UInt8} {p : Prg} {pos : Int} (h : rdProg ys = (p, ⟨pos, false⟩)) (hne : pos ≠ ys.length) : rdRes ys = ⟨⟨#[]⟩, 0, []⟩ ∧ rdN ys = 100 := by
  have : readsB ys = false := by unfold readsB; rw [h]; simp [hne]
  simp [rdRes, rdN, this]
theorem reads_no3 {ys : List UInt8} {p : Prg} {pos : Int} (h : rdProg ys = (p, ⟨pos, false⟩)) (hc : checkOk p.name p.regs p.code 20 = false) : rdRes ys = ⟨⟨#[]⟩, 0, []⟩ ∧ rdN ys = 100 := by
  have : readsB ys = false := by unfold readsB; rw [h]; simp [hc]
  simp [rdRes, rdN, this]
theorem reads_yes {ys : List UInt8} {p : Prg} {pos : Int} (h : rdProg ys = (p, ⟨pos, false⟩)) (hp : pos = ys.length) (hc : checkOk p.name p.regs p.code 20 = true) : rdRes ys = p ∧ rdN ys = 0 := by
  have : readsB ys = true := by unfold readsB; rw [h]; simp [hc, hp]
  simp [rdRes, rdN, this, h]
theorem RS.below {w0 w w' : World} {v : Value} {s : Rd} {nm : ByteArray} {rg : Int} {cv : Value} {xs : List Ins} (h : RS w0 w v s nm rg cv xs) (hb : Below w.heap.size w w') : RS w0 w' v s nm rg cv xs :=
  ⟨h.bel.trans (hb.mono h.bel.size), blk_below hb h.res, blk_below hb h.rd, blk_below hb h.p, own_below hb h.own⟩
/-- behind the store of a result -/
theorem RS.end_ {w0 w : World} {v : Value} {s : Rd} {nm : ByteArray} {rg : Int} {cv : Value} {xs : List Ins} (h : RS w0 w v s nm rg cv xs) (u0 u1 u2 : Value) :
    Below w0.heap.size w0 (((w.setCell ⟨w0.heap.size, 0, none⟩ u0).setCell ⟨w0.heap.size, 1, none⟩ u1).setCell ⟨w0.heap.size, 2, none⟩ u2) ∧
      CodeAt (((w.setCell ⟨w0.heap.size, 0, none⟩ u0).setCell ⟨w0.heap.size, 1, none⟩ u1).setCell ⟨w0.heap.size, 2, none⟩ u2) cv xs := by
  have g0 := grow_set w w0.heap.size 0 u0
  have g1 := grow_set (w.setCell ⟨w0.heap.size, 0, none⟩ u0) w0.heap.size 1 u1
  have g2 := grow_set ((w.setCell ⟨w0.heap.size, 0, none⟩ u0).setCell ⟨w0.heap.size, 1, none⟩ u1) w0.heap.size 2 u2
  have g := (g0.trans g1).trans g2
  exact ⟨grow_bel h.bel g (Nat.le_refl _) (Nat.le_refl _), (h.own.step g (fun k hk e => h.own.far h.res (by decide) (by rw [← e, hk]))).code⟩
/-- what a number is that has been read -/
theorem rdNum_range {ys : List UInt8} {s : Rd} {most : Int} (hl : ys.length ≤ 140737488355328) (hm : 0 ≤ most) (hp : s.pos ≤ 140737488355328) : 0 ≤ (rdNum ys most s).1 ∧ (rdNum ys most s).1 ≤ most ∧ (rdNum ys most s).2.pos ≤ 140737488355328 := by
  have h := getU_range ys s.pos hl
  unfold rdNum
  by_cases hb : s.bad = true
  · rw [if_pos hb]; exact ⟨by simp, by simpa using hm, hp⟩
  · rw [if_neg hb]
    by_cases hc : (getU ys s.pos).2.2 ≠ 0 ∨ most < (getU ys s.pos).1
    · rw [if_pos hc]; exact ⟨by simp, by simpa using hm, hp⟩
    · rw [if_neg hc]
      exact ⟨by simp, by simp; omega, by simp; omega⟩
theorem rdSig_pos {ys : List UInt8} {s : Rd} (hl : ys.length ≤ 140737488355328) (hp : s.pos ≤ 140737488355328) : (rdSig ys s).2.pos ≤ 140737488355328 := by
  have h := getU_range ys s.pos hl
  unfold rdSig getI
  by_cases hb : s.bad = true
  · rw [if_pos hb]; exact hp
  · rw [if_neg hb]
    simp only
    split
    · exact hp
    · simp; omega
theorem rdText_pos {ys : List UInt8} {s : Rd} (hl : ys.length ≤ 140737488355328) (hp : s.pos ≤ 140737488355328) : (rdText ys s).2.pos ≤ 140737488355328 := by
  have h := getU_range ys s.pos hl
  unfold rdText getB
  by_cases hb : s.bad = true
  · rw [if_pos hb]; exact hp
  · rw [if_neg hb]
    split
    · exact hp
    · show (Prod.fst (Prod.snd (gB _ _ _ _ _)) : Int) ≤ _
      unfold gB
      split
      · simp
      · split
        · simp
        · split
          · simp
          · simp; omega
theorem RS.reads {w0 w : World} {v : Value} {s : Rd} {nm : ByteArray} {rg : Int} {cv : Value} {xs : List Ins} {ys : List UInt8} (h : RS w0 w v s nm rg cv xs) (hr : RdB w0 v ys) : RdB w v ys := hr.below h.bel
set_option maxRecDepth 20000 in
set_option maxHeartbeats 2000000 in
theorem read_any (v : Value) (ys : List UInt8) (w : World) (hr : RdB w v ys) (hl : ys.length ≤ 140737488355328) : Calls Tryd.prog 16 #[v] w (ReadPost ys w) := by
  have HRD := Lib.hid hr
  have HL := Lib.hid hl
  have H0 := Lib.hid (RS.first w v)
  obtain ⟨A, c, rfl, _, _⟩ := hr.form
  clear hr
  go_enter Tryd.func16, Tryd.ntmps16
  go_wp2_with fail
  refine (text_any (w.heap.size + 1) _ ys ⟨0, false⟩ _ (H0.out.reads HRD.out) H0.out.rd hl (by simp)).mono ?_
  rintro e w1 ⟨rfl, hR1, hg1⟩
  have hp1 := rdText_pos (s := ⟨0, false⟩) hl (by simp)
  have H1 := Lib.hid (H0.out.call hR1 hg1)
  have hd := Lib.hid (show rdProg ys = (⟨(rdText ys ⟨0, false⟩).1, (rdNum ys 16 (rdText ys ⟨0, false⟩).2).1, (rdCode ys (rdNum ys 500 (rdNum ys 16 (rdText ys ⟨0, false⟩).2).2).1.toNat (rdNum ys 500 (rdNum ys 16 (rdText ys ⟨0, false⟩).2).2).2 []).1⟩, (rdCode ys (rdNum ys 500 (rdNum ys 16 (rdText ys ⟨0, false⟩).2).2).1.toNat (rdNum ys 500 (rdNum ys 16 (rdText ys ⟨0, false⟩).2).2).2 []).2) from rfl)
  generalize (rdText ys ⟨0, false⟩).1 = nm at *
  generalize (rdText ys ⟨0, false⟩).2 = s1 at *
  clear hR1 hg1 H0
  have H2 := Lib.hid (H1.out.setName nm)
  have p0 := blk_cell H1.out.p 0
  have pf := blk_free H1.out.p 0
  simp at p0
  go_wp2_with fail
  refine (number_any (w.heap.size + 1) _ ys 16 s1 _ (H2.out.reads HRD.out) H2.out.rd hl hp1 (by omega) (by omega)).mono ?_
  rintro e w2 ⟨rfl, hR1, hg1⟩
  obtain ⟨n0, n1, hp2⟩ := rdNum_range (most := 16) hl (by omega) hp1
  have H3 := Lib.hid (H2.out.call hR1 hg1)
  generalize (rdNum ys 16 s1).1 = rg at *
  generalize (rdNum ys 16 s1).2 = s2 at *
  clear hR1 hg1 H2 H1 p0 pf hp1
  have H4 := Lib.hid (H3.out.setRegs rg)
  have p0 := blk_cell H3.out.p 1
  have pf := blk_free H3.out.p 1
  simp at p0
  go_wp2_with fail
  refine (number_any (w.heap.size + 1) _ ys 500 s2 _ (H4.out.reads HRD.out) H4.out.rd hl hp2 (by omega) (by omega)).mono ?_
  rintro e w3 ⟨rfl, hR1, hg1⟩
  obtain ⟨m0, m1, hp3⟩ := rdNum_range (most := 500) hl (by omega) hp2
  have H5 := Lib.hid (H4.out.call hR1 hg1)
  generalize (rdNum ys 500 s2).1 = n at *
  generalize (rdNum ys 500 s2).2 = s3 at *
  clear hR1 hg1 H4 H3 p0 pf hp2
  obtain ⟨n, rfl⟩ := Int.eq_ofNat_of_zero_le m0
  rw [Int.toNat_natCast] at hd
  clear n0 n1 m0
  go_wp2_with fail
  go_loopw [6] (fun i wr => ∃ (k : Nat), i = .int .i64 k ∧ k ≤ 500 ∧ Hid (RoundAt w wr (.slice A ys.length c) ys nm rg k)) (fun i _ => (intOf i).toNat)
  case atStart => exact ⟨n, rfl, by omega, s3, _, [], H5.out, hp3, hd.out, by simp; omega⟩
  case round =>
    obtain ⟨k, rfl, hk, HRO⟩ := hrel
    obtain ⟨⟨pos, bad⟩, cv, acc, hRS, hpos, hdd, hlen⟩ := HRO.out
    clear HRO H5 hd hp3
    have HRS := Lib.hid hRS
    have HD := Lib.hid hdd
    have HLEN := Lib.hid hlen
    clear hRS hdd hlen
    simp only at hpos
    have c2 := blk_cell HRS.out.rd 2
    simp at c2
    cases bad with
    | true =>
      have hn : Hid (rdRes ys = ⟨⟨#[]⟩, 0, []⟩ ∧ rdN ys = 100) := by
        cases k with
        | zero => exact reads_no1 HD.out
        | succ k =>
          have h9 := HD.out
          rw [rdCode, if_pos rfl] at h9
          exact reads_no1 h9
      have r0 := blk_cell HRS.out.res 0
      have r1 := blk_cell HRS.out.res 1
      have r2 := blk_cell HRS.out.res 2
      have f0 := blk_free HRS.out.res 0
      have f1 := blk_free HRS.out.res 1
      have f2 := blk_free HRS.out.res 2
      simp at r0 r1 r2
      cases k with
      | zero =>
        go_wp2
        exact bodyPost_ret (v := .tuple #[.agg #[.string ⟨#[]⟩, .int .i64 0, .slice none 0 0], .int .i64 100]) (by simp [results, Tryd.results16, go_sem, r0, r1, r2]) rfl ⟨.slice none 0 0, by rw [hn.out.1, hn.out.2], by rw [hn.out.1]; exact .inl ⟨⟨_, _, rfl⟩, rfl⟩, (HRS.out.end_ _ _ _).1⟩
      | succ k =>
        have hk0 : (0 : Int) < (k + 1 : Nat) := by omega
        go_wp2
        exact bodyPost_ret (v := .tuple #[.agg #[.string ⟨#[]⟩, .int .i64 0, .slice none 0 0], .int .i64 100]) (by simp [results, Tryd.results16, go_sem, r0, r1, r2]) rfl ⟨.slice none 0 0, by rw [hn.out.1, hn.out.2], by rw [hn.out.1]; exact .inl ⟨⟨_, _, rfl⟩, rfl⟩, (HRS.out.end_ _ _ _).1⟩
    | false =>
      cases k with
      | zero =>
        obtain ⟨A2, c9, rfl⟩ := HRS.out.own.form
        have hfin : Hid (rdProg ys = (⟨nm, rg, acc⟩, ⟨pos, false⟩)) := HD.out
        have c1 := blk_cell HRS.out.rd 1
        simp at c1
        clear HD
        by_cases hpl : pos = ys.length
        · have p0 := blk_cell HRS.out.p 0
          have p1 := blk_cell HRS.out.p 1
          have p2 := blk_cell HRS.out.p 2
          simp at p0 p1 p2
          subst hpl
          go_wp2_with fail
          refine (check_walk nm rg _ 20 wr acc HRS.out.own.code).mono ?_
          rintro e w5 ⟨rfl, hb⟩
          have HRS5 := Lib.hid (HRS.out.below hb)
          clear hb p0 p1 p2 c1 c2
          have p0 := blk_cell HRS5.out.p 0
          have p1 := blk_cell HRS5.out.p 1
          have p2 := blk_cell HRS5.out.p 2
          have r0 := blk_cell HRS5.out.res 0
          have r1 := blk_cell HRS5.out.res 1
          have r2 := blk_cell HRS5.out.res 2
          have f0 := blk_free HRS5.out.res 0
          have f1 := blk_free HRS5.out.res 1
          have f2 := blk_free HRS5.out.res 2
          simp at p0 p1 p2 r0 r1 r2
          cases hck : checkOk nm rg acc 20 with
          | true =>
            rw [chk_yes hck]
            have hn := Lib.hid (reads_yes hfin.out rfl hck)
            clear hck
            go_wp2
            exact bodyPost_ret (v := .tuple #[.agg #[.string nm, .int .i64 rg, .slice A2 acc.length c9], .int .i64 0]) (by simp [results, Tryd.results16, go_sem, r0, r1, r2]) rfl ⟨_, by rw [hn.out.1, hn.out.2], by rw [hn.out.1]; exact (HRS5.out.end_ _ _ _).2, (HRS5.out.end_ _ _ _).1⟩
          | false =>
            rw [check_no hck]
            have hn := Lib.hid (reads_no3 hfin.out hck)
            clear hck
            go_wp2
            exact bodyPost_ret (v := .tuple #[.agg #[.string ⟨#[]⟩, .int .i64 0, .slice none 0 0], .int .i64 100]) (by simp [results, Tryd.results16, go_sem, r0, r1, r2]) rfl ⟨.slice none 0 0, by rw [hn.out.1, hn.out.2], by rw [hn.out.1]; exact .inl ⟨⟨_, _, rfl⟩, rfl⟩, (HRS5.out.end_ _ _ _).1⟩
        · have hn := Lib.hid (reads_no2 hfin.out hpl)
          have r0 := blk_cell HRS.out.res 0
          have r1 := blk_cell HRS.out.res 1
          have r2 := blk_cell HRS.out.res 2
          have f0 := blk_free HRS.out.res 0
          have f1 := blk_free HRS.out.res 1
          have f2 := blk_free HRS.out.res 2
          simp at r0 r1 r2
          go_wp2
          exact bodyPost_ret (v := .tuple #[.agg #[.string ⟨#[]⟩, .int .i64 0, .slice none 0 0], .int .i64 100]) (by simp [results, Tryd.results16, go_sem, r0, r1, r2]) rfl ⟨.slice none 0 0, by rw [hn.out.1, hn.out.2], by rw [hn.out.1]; exact .inl ⟨⟨_, _, rfl⟩, rfl⟩, (HRS.out.end_ _ _ _).1⟩
      | succ k =>
        have HI0 := Lib.hid (RI.first HRS.out)
        obtain ⟨A2, c9, rfl⟩ := HRS.out.own.form
        have hk0 : (0 : Int) < (k + 1 : Nat) := by omega
        have x0 : ∀ W : World, (Instr.index 73 (.agg #[.pointer (some ⟨wr.heap.size, 1, none⟩), .pointer (some ⟨wr.heap.size, 2, none⟩), .pointer (some ⟨wr.heap.size, 3, none⟩)]) (.int .i64 0)).run Tryd.prog W = .ok (.pointer (some ⟨wr.heap.size, 1, none⟩)) W := fun _ => by kernel_rfl
        have x1 : ∀ W : World, (Instr.index 73 (.agg #[.pointer (some ⟨wr.heap.size, 1, none⟩), .pointer (some ⟨wr.heap.size, 2, none⟩), .pointer (some ⟨wr.heap.size, 3, none⟩)]) (.int .i64 1)).run Tryd.prog W = .ok (.pointer (some ⟨wr.heap.size, 2, none⟩)) W := fun _ => by kernel_rfl
        have x2 : ∀ W : World, (Instr.index 73 (.agg #[.pointer (some ⟨wr.heap.size, 1, none⟩), .pointer (some ⟨wr.heap.size, 2, none⟩), .pointer (some ⟨wr.heap.size, 3, none⟩)]) (.int .i64 2)).run Tryd.prog W = .ok (.pointer (some ⟨wr.heap.size, 3, none⟩)) W := fun _ => by kernel_rfl
        go_wp2_with fail
        refine (number_any (w.heap.size + 1) _ ys 255 ⟨pos, false⟩ _ (HI0.out.rs.reads HRD.out) HI0.out.rs.rd hl hpos (by omega) (by omega)).mono ?_
        rintro e v1 ⟨rfl, hR1, hg1⟩
        obtain ⟨n0, m0, hp1⟩ := rdNum_range (most := 255) (s := ⟨pos, false⟩) hl (by omega) hpos
        have hi := Lib.hid (HI0.out.call hR1 hg1)
        obtain ⟨z0, e1⟩ : ∃ z, (rdNum ys 255 ⟨pos, false⟩).1 = z := ⟨_, rfl⟩
        obtain ⟨s10, e2⟩ : ∃ z, (rdNum ys 255 ⟨pos, false⟩).2 = z := ⟨_, rfl⟩
        rw [e1] at n0 m0
        rw [e2] at hp1 hi
        rw [e1]
        have F0 := Lib.hid e1
        have G0 := Lib.hid e2
        clear e1 e2 hR1 hg1 HI0 hpos
        have q := blk_cell hi.out.ins 0
        have qf := blk_free hi.out.ins 0
        simp [Ins.cells, zeroIns] at q
        have HI1 := Lib.hid (hi.out.set (o := 0) (u := .int .u8 z0) (y := ⟨z0, 0, 0, 0, 0, ⟨#[]⟩⟩) rfl)
        clear hi
        go_wp2
        refine wp_loop_rounds 4 ?_
        rw [rounds_succ]
        go_wp2_with fail
        clear q qf
        refine (number_any (w.heap.size + 1) _ ys 255 s10 _ (HI1.out.rs.reads HRD.out) HI1.out.rs.rd hl hp1 (by omega) (by omega)).mono ?_
        rintro e v2 ⟨rfl, hR1, hg1⟩
        obtain ⟨n1, m1, hp2⟩ := rdNum_range (most := 255) (s := s10) hl (by omega) hp1
        have hi := Lib.hid (HI1.out.call hR1 hg1)
        obtain ⟨z1, e1⟩ : ∃ z, (rdNum ys 255 s10).1 = z := ⟨_, rfl⟩
        obtain ⟨s11, e2⟩ : ∃ z, (rdNum ys 255 s10).2 = z := ⟨_, rfl⟩
        rw [e1] at n1 m1
        rw [e2] at hp2 hi
        rw [e1]
        have F1 := Lib.hid e1
        have G1 := Lib.hid e2
        clear e1 e2 hR1 hg1 HI1 hp1
        have q := blk_cell hi.out.ins 1
        have qf := blk_free hi.out.ins 1
        simp [Ins.cells] at q
        have HI2 := Lib.hid (hi.out.set (o := 1) (u := .int .i64 z1) (y := ⟨z0, z1, 0, 0, 0, ⟨#[]⟩⟩) rfl)
        clear hi
        go_wp2
        rw [rounds_succ]
        go_wp2_with fail
        clear q qf
        refine (number_any (w.heap.size + 1) _ ys 255 s11 _ (HI2.out.rs.reads HRD.out) HI2.out.rs.rd hl hp2 (by omega) (by omega)).mono ?_
        rintro e v3 ⟨rfl, hR1, hg1⟩
        obtain ⟨n2, m2, hp3⟩ := rdNum_range (most := 255) (s := s11) hl (by omega) hp2
        have hi := Lib.hid (HI2.out.call hR1 hg1)
        obtain ⟨z2, e1⟩ : ∃ z, (rdNum ys 255 s11).1 = z := ⟨_, rfl⟩
        obtain ⟨s12, e2⟩ : ∃ z, (rdNum ys 255 s11).2 = z := ⟨_, rfl⟩
        rw [e1] at n2 m2
        rw [e2] at hp3 hi
        rw [e1]
        have F2 := Lib.hid e1
        have G2 := Lib.hid e2
        clear e1 e2 hR1 hg1 HI2 hp2
        have q := blk_cell hi.out.ins 2
        have qf := blk_free hi.out.ins 2
        simp [Ins.cells] at q
        have HI3 := Lib.hid (hi.out.set (o := 2) (u := .int .i64 z2) (y := ⟨z0, z1, z2, 0, 0, ⟨#[]⟩⟩) rfl)
        clear hi
        go_wp2
        rw [rounds_succ]
        go_wp2_with fail
        clear q qf
        refine (number_any (w.heap.size + 1) _ ys 255 s12 _ (HI3.out.rs.reads HRD.out) HI3.out.rs.rd hl hp3 (by omega) (by omega)).mono ?_
        rintro e v4 ⟨rfl, hR1, hg1⟩
        obtain ⟨n3, m3, hp4⟩ := rdNum_range (most := 255) (s := s12) hl (by omega) hp3
        have hi := Lib.hid (HI3.out.call hR1 hg1)
        obtain ⟨z3, e1⟩ : ∃ z, (rdNum ys 255 s12).1 = z := ⟨_, rfl⟩
        obtain ⟨s13, e2⟩ : ∃ z, (rdNum ys 255 s12).2 = z := ⟨_, rfl⟩
        rw [e1] at n3 m3
        rw [e2] at hp4 hi
        rw [e1]
        have F3 := Lib.hid e1
        have G3 := Lib.hid e2
        clear e1 e2 hR1 hg1 HI3 hp3
        have q := blk_cell hi.out.ins 3
        have qf := blk_free hi.out.ins 3
        simp [Ins.cells] at q
        have HI4 := Lib.hid (hi.out.set (o := 3) (u := .int .i64 z3) (y := ⟨z0, z1, z2, z3, 0, ⟨#[]⟩⟩) rfl)
        clear hi
        go_wp2
        rw [rounds_succ]
        go_wp2_with fail
        clear q qf
        refine (signed_any (w.heap.size + 1) _ ys s13 _ (HI4.out.rs.reads HRD.out) HI4.out.rs.rd hl hp4).mono ?_
        rintro e v5 ⟨rfl, hR1, hg1⟩
        have hp5 := rdSig_pos (ys := ys) (s := s13) hl hp4
        have hi := Lib.hid (HI4.out.call hR1 hg1)
        obtain ⟨z4, e1⟩ : ∃ z, (rdSig ys s13).1 = z := ⟨_, rfl⟩
        obtain ⟨s14, e2⟩ : ∃ z, (rdSig ys s13).2 = z := ⟨_, rfl⟩
        rw [e2] at hp5 hi
        rw [e1]
        have F4 := Lib.hid e1
        have G4 := Lib.hid e2
        clear e1 e2 hR1 hg1 HI4 hp4
        have q := blk_cell hi.out.ins 4
        have qf := blk_free hi.out.ins 4
        simp [Ins.cells] at q
        have HI5 := Lib.hid (hi.out.set (o := 4) (u := .int .i64 z4) (y := ⟨z0, z1, z2, z3, z4, ⟨#[]⟩⟩) rfl)
        clear hi
        go_wp2_with fail
        clear q qf
        refine (text_any (w.heap.size + 1) _ ys s14 _ (HI5.out.rs.reads HRD.out) HI5.out.rs.rd hl hp5).mono ?_
        rintro e v6 ⟨rfl, hR1, hg1⟩
        have hp6 := rdText_pos (ys := ys) (s := s14) hl hp5
        have hi := Lib.hid (HI5.out.call hR1 hg1)
        obtain ⟨z5, e1⟩ : ∃ z, (rdText ys s14).1 = z := ⟨_, rfl⟩
        obtain ⟨s15, e2⟩ : ∃ z, (rdText ys s14).2 = z := ⟨_, rfl⟩
        rw [e2] at hp6 hi
        rw [e1]
        have F5 := Lib.hid e1
        have G5 := Lib.hid e2
        clear e1 e2 hR1 hg1 HI5 hp5
        have q := blk_cell hi.out.ins 5
        have qf := blk_free hi.out.ins 5
        simp [Ins.cells] at q
        have HI6 := Lib.hid (hi.out.set (o := 5) (u := .string z5) (y := ⟨z0, z1, z2, z3, z4, z5⟩) rfl)
        have d0 := blk_cell hi.out.ins 0
        have d1 := blk_cell hi.out.ins 1
        have d2 := blk_cell hi.out.ins 2
        have d3 := blk_cell hi.out.ins 3
        have d4 := blk_cell hi.out.ins 4
        have e2 := blk_cell hi.out.rs.p 2
        have ef := blk_free hi.out.rs.p 2
        simp [Ins.cells] at d0 d1 d2 d3 d4 e2
        have hlt := hi.out.lt
        clear hi
        clear x0 x1 x2
        have hz : (v6.setCell ⟨wr.heap.size, 5, none⟩ (.string z5)).heap.size = v6.heap.size := by simp [World.setCell]
        have hat := alloc_at (v6.setCell ⟨wr.heap.size, 5, none⟩ (.string z5)) (.cells (⟨z0, z1, z2, z3, z4, z5⟩ : Ins).cells 34)
        rw [hz] at hat
        have HAT := Lib.hid hat
        have HR7 := Lib.hid (HI6.out.rs.alloc (.cells (⟨z0, z1, z2, z3, z4, z5⟩ : Ins).cells 34))
        have HSZ := Lib.hid HR7.out.bel.size
        have hlen2 : Hid ((acc.length + 1) * 56 ≤ 140737488355328) := by have := HLEN.out; show _ ≤ _; omega
        have HST : Hid (rdIns ys ⟨pos, false⟩ = (⟨z0, z1, z2, z3, z4, z5⟩, s15)) := by
          show _ = _
          simp only [rdIns, F0.out, G0.out, F1.out, G1.out, F2.out, G2.out, F3.out, G3.out, F4.out, G4.out, F5.out, G5.out]
        clear hat hz HI6 F0 F1 F2 F3 F4 F5 G0 G1 G2 G3 G4 G5
        unfold Ins.cells at HAT HR7 HSZ
        dsimp only at HAT HR7 HSZ
        go_wp2_with (at_builtin; refine wpList_append_ins rfl (.tmp 55) (.tmp 57) rfl w.heap.size (.slice A2 acc.length c9) acc ⟨z0, z1, z2, z3, z4, z5⟩ v6.heap.size rfl HR7.out.own rfl HAT.out hlen2.out HSZ.out ?_; intro cv' w' hown hext; obtain ⟨A3, c3, rfl⟩ := hown.form; obtain ⟨hpp, hrs⟩ := HR7.out.push hown hext; have hc9 := blk_cell hpp 2; have hf9 := blk_free hpp 2; simp at hc9; simp only [List.length_append, List.length_cons, List.length_nil, Nat.zero_add] at hrs; have HRS9 := Lib.hid hrs; clear hown hext hpp hrs)
        go_roundw
        case rel =>
          refine ⟨k, by go_num, by omega, s15, _, acc ++ [⟨z0, z1, z2, z3, z4, z5⟩], HRS9.out, hp6, ?_, by have := HLEN.out; simp; omega⟩
          have e : rdCode ys (k + 1) ⟨pos, false⟩ acc = rdCode ys k s15 (acc ++ [⟨z0, z1, z2, z3, z4, z5⟩]) := by rw [rdCode, if_neg (by simp), HST.out]
          rw [← e]; exact HD.out
        case measure => simp [intOf]
end Go.Proofs.YtckooioikcenmaaDoor

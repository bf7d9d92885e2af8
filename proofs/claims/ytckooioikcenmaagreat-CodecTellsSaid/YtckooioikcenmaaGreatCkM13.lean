/- A pen that writes: what its methods leave. Conditions: sizes a machine can have. -/
import Derived.Test.YtckooioikcenmaaGreatCkM11
namespace Go.Proofs.YtckooioikcenmaaGreat
open Go.RowKit
/-- a pen that writes has gone on -/
structure WrSt (base p : Nat) (v v' : Value) (st' : Pn) (w w' : World) : Prop where
  pst : PSt base p w' v' st'
  chg : Chg p p w w'
  nv : NewV w v v'
def WrPost (base p : Nat) (v : Value) (st' : Pn) (w : World) (e : Ending) (w' : World) : Prop :=
  e = .returned (.tuple #[]) ∧ ∃ v', WrSt base p v v' st' w w'
theorem WrSt.trans {base p : Nat} {v v1 v2 : Value} {s1 s2 : Pn} {w w1 w2 : World} (h : WrSt base p v v1 s1 w w1) (k : WrSt base p v1 v2 s2 w1 w2) : WrSt base p v v2 s2 w w2 :=
  ⟨k.pst, h.chg.trans k.chg, h.nv.trans k.nv h.chg.size⟩
theorem WrSt.alloc {base p : Nat} {v v1 : Value} {s1 : Pn} {w w1 : World} (h : WrSt base p v v1 s1 w w1) (o : Obj) : WrSt base p v v1 s1 w (w1.alloc o) :=
  ⟨own_new h.pst o, h.chg.alloc o, h.nv⟩
theorem CellSt.wr {base p d : Nat} {v v' : Value} {st : Pn} {T : TypeId} {cs : Array Value} {w w' : World} (h : CellSt base p d v v' st T cs w w') (hd : w.heap[d]? = some (.cells cs T)) : WrSt base p v v' st w w' :=
  ⟨h.pst, ⟨h.chg.os, h.chg.tape, h.chg.output, h.chg.size, fun k hk h1 _ => by
    by_cases e : k = d
    · subst e; rw [h.blk, hd]
    · exact h.chg.block k hk h1 e⟩, h.nv⟩
theorem WrSt.blk {base p k : Nat} {v v' : Value} {st : Pn} {w w' : World} {o : Obj} (h : WrSt base p v v' st w w') (hk : w.heap[k]? = some o) (h1 : k ≠ p) : w'.heap[k]? = some o := h.chg.blk hk h1 h1
theorem pC_fst {α : Type} {c : Cd α} {st : Pn} {x : α} (h : st.rd = false) : (pC c st x).1 = x := by rw [pC_write h]
theorem NewV.vd {w0 : World} {v v' : Value} {d : Nat} (h : NewV w0 v v') (hv : ∀ k, Value.readBlock v = some k → k ≠ d) (hd : d < w0.heap.size) : ∀ k, Value.readBlock v' = some k → k ≠ d := fun k hk => by
  rcases h k hk with h2 | h2
  · exact hv k h2
  · omega
section
variable {base p d o : Nat} {v v0 : Value} {st : Pn} {T : TypeId} {cs : Array Value} {w w0 : World}
theorem wrNum {x : Int} (hs : WrSt base p v0 v st w0 w) (hr : st.rd = false) (hd : w.heap[d]? = some (.cells cs T)) (hx : cs[o]? = some (.int .i64 x)) (hI : I64 x) (hl : Fits cI st x) (hne : d ≠ p) (hbd : base ≤ d) (hvd : ∀ k, Value.readBlock v = some k → k ≠ d) :
    Calls Tryz.prog 53 #[.pointer (some ⟨p, 0, none⟩), .pointer (some ⟨d, o, none⟩)] w (WrPost base p v0 (pC cI st x).2 w0) := by
  refine (penNum_any base p d o v st x T cs w hs.pst hd hx hI (fun h => by rw [hr] at h; cases h) hl hne hbd hvd).mono ?_
  rintro e w' ⟨rfl, v', h⟩
  rw [pC_fst hr, set_same hx] at h
  exact ⟨rfl, v', hs.trans (h.wr hd)⟩
theorem wrWhole {x : Int} (hs : WrSt base p v0 v st w0 w) (hr : st.rd = false) (hd : w.heap[d]? = some (.cells cs T)) (hx : cs[o]? = some (.int .i64 x)) (hI : I64 x) (hl : Fits cI st x) (hne : d ≠ p) (hbd : base ≤ d) (hvd : ∀ k, Value.readBlock v = some k → k ≠ d) :
    Calls Tryz.prog 54 #[.pointer (some ⟨p, 0, none⟩), .pointer (some ⟨d, o, none⟩)] w (WrPost base p v0 (pC cI st x).2 w0) := by
  refine (penWhole_any base p d o v st x T cs w hs.pst hd hx hI (fun h => by rw [hr] at h; cases h) hl hne hbd hvd).mono ?_
  rintro e w' ⟨rfl, v', h⟩
  rw [pC_fst hr, set_same hx] at h
  exact ⟨rfl, v', hs.trans (h.wr hd)⟩
theorem wrSmall {x : Int} (hs : WrSt base p v0 v st w0 w) (hr : st.rd = false) (hd : w.heap[d]? = some (.cells cs T)) (hx : cs[o]? = some (.int .u8 x)) (hI : 0 ≤ x ∧ x ≤ 255) (hl : Fits cB st x) (hne : d ≠ p) (hbd : base ≤ d) (hvd : ∀ k, Value.readBlock v = some k → k ≠ d) :
    Calls Tryz.prog 51 #[.pointer (some ⟨p, 0, none⟩), .pointer (some ⟨d, o, none⟩)] w (WrPost base p v0 (pC cB st x).2 w0) := by
  refine (penSmall_any base p d o v st x T cs w hs.pst hd hx hI (fun h => by rw [hr] at h; cases h) hl hne hbd hvd).mono ?_
  rintro e w' ⟨rfl, v', h⟩
  rw [pC_fst hr, set_same hx] at h
  exact ⟨rfl, v', hs.trans (h.wr hd)⟩
theorem wrFlag {x : Bool} (hs : WrSt base p v0 v st w0 w) (hr : st.rd = false) (hd : w.heap[d]? = some (.cells cs T)) (hx : cs[o]? = some (.bool x)) (hl : Fits cF st x) (hne : d ≠ p) (hbd : base ≤ d) (hvd : ∀ k, Value.readBlock v = some k → k ≠ d) :
    Calls Tryz.prog 71 #[.pointer (some ⟨p, 0, none⟩), .pointer (some ⟨d, o, none⟩)] w (WrPost base p v0 (pC cF st x).2 w0) := by
  refine (penFlag_any base p d o v st x T cs w hs.pst hd hx (fun h => by rw [hr] at h; cases h) hl hne hbd hvd).mono ?_
  rintro e w' ⟨rfl, v', h⟩
  rw [pC_fst hr, set_same hx] at h
  exact ⟨rfl, v', hs.trans (h.wr hd)⟩
theorem wrText {x : ByteArray} (hs : WrSt base p v0 v st w0 w) (hr : st.rd = false) (hd : w.heap[d]? = some (.cells cs T)) (hx : cs[o]? = some (.string x)) (hsm : x.size ≤ 30000) (hl : Fits cS st x) (hne : d ≠ p) (hvd : ∀ k, Value.readBlock v = some k → k ≠ d) :
    Calls Tryz.prog 52 #[.pointer (some ⟨p, 0, none⟩), .pointer (some ⟨d, o, none⟩)] w (WrPost base p v0 (pC cS st x).2 w0) := by
  refine (penText_any base p d o v st x T cs w hs.pst hd hx hsm (fun h => by rw [hr] at h; cases h) hl hne hvd).mono ?_
  rintro e w' ⟨rfl, v', h⟩
  rw [pC_fst hr, set_same hx] at h
  exact ⟨rfl, v', hs.trans (h.wr hd)⟩
theorem wrMany {n : Nat} (hs : WrSt base p v0 v st w0 w) (hr : st.rd = false) (hd : w.heap[d]? = some (.cells cs T)) (hn : n ≤ 20000000000000) (hl : st.bs.length ≤ 10000000000000) (hne : d ≠ p) (hvd : ∀ k, Value.readBlock v = some k → k ≠ d) :
    Calls Tryz.prog 68 #[.pointer (some ⟨p, 0, none⟩), .int .i64 n] w fun e w' => e = .returned (.int .i64 n) ∧ ∃ v', WrSt base p v0 v' (pM st n).2 w0 w' := by
  refine (penMany_any base p d v st n T cs w hs.pst hd hn (fun h => by rw [hr] at h; cases h) hl hne hvd).mono ?_
  rintro e w' ⟨rfl, v', h⟩
  rw [show (pM st n).1 = n by unfold pM; rw [if_neg (by simp [hr])]]
  exact ⟨rfl, v', hs.trans (h.wr hd)⟩
end
/-- a pen that has written the first i of xs -/
def sW {α : Type} (c : Cd α) (st : Pn) (xs : List α) (i : Nat) : Pn := { st with bs := st.bs ++ (xs.take i).flatMap c.enc, lg := st.lg || !(xs.take i).all c.okt }
theorem sW_zero {α : Type} (c : Cd α) (st : Pn) (xs : List α) : sW c st xs 0 = st := by simp [sW]
theorem sW_step {α : Type} {c : Cd α} {st : Pn} {xs : List α} {i : Nat} {x : α} (hr : st.rd = false) (h : xs[i]? = some x) : pC c (sW c st xs i) x = (x, sW c st xs (i + 1)) := by
  have h1 : (sW c st xs i).rd = false := hr
  rw [pC_write h1]
  unfold sW
  rw [List.take_add_one, h]
  simp only [Option.toList_some, List.flatMap_append, List.flatMap_cons, List.flatMap_nil, List.append_nil, List.all_append, List.all_cons, List.all_nil, Bool.and_true, Bool.not_and, Bool.or_assoc, List.append_assoc]
theorem sW_end {α : Type} {c : Cd α} {st : Pn} {xs : List α} (hr : st.rd = false) : pC (cL c) st xs = (xs, sW c (pM st xs.length).2 xs xs.length) := by
  rw [pC_write hr]
  unfold sW pM
  rw [if_neg (by simp [hr]), List.take_length]
  simp only [cL, List.append_assoc]
theorem sW_fits {α : Type} {c : Cd α} {st : Pn} {xs : List α} {i : Nat} {x : α} (hr : st.rd = false) (hl : Fits (cL c) st xs) (h : xs[i]? = some x) : Fits c (sW c (pM st xs.length).2 xs i) x := by
  unfold Fits at hl ⊢
  have h1 : (cL c).enc xs = uv xs.length ++ xs.flatMap c.enc := rfl
  rw [h1, List.length_append] at hl
  have h9 : (xs.flatMap c.enc).length = ((xs.take (i + 1)).flatMap c.enc).length + ((xs.drop (i + 1)).flatMap c.enc).length := by
    rw [← List.length_append, ← List.flatMap_append, List.take_append_drop]
  rw [List.take_add_one, h] at h9
  simp only [Option.toList_some, List.flatMap_append, List.flatMap_cons, List.flatMap_nil, List.append_nil, List.length_append] at h9
  unfold sW pM
  rw [if_neg (by simp [hr])]
  simp only [List.length_append]
  omega
theorem pM_bad {st : Pn} {n : Nat} (h : st.rd = false) : (pM st n).2.bad = st.bad := by
  unfold pM
  rw [if_neg (by simp [h])]
theorem pC_bad {α : Type} {c : Cd α} {st : Pn} {x : α} (h : st.rd = false) : (pC c st x).2.bad = st.bad := by rw [pC_write h]
theorem WrSt.same {base p d o : Nat} {v v' : Value} {st : Pn} {w w' : World} {T : TypeId} {cs : Array Value} {u : Value} (h : WrSt base p v v' st w w') (hd : w'.heap[d]? = some (.cells cs T)) (hx : cs[o]? = some u) (hne : d ≠ p) (hv : ∀ k, Value.readBlock v' = some k → k ≠ d) : WrSt base p v v' st w (w'.setCell ⟨d, o, none⟩ u) :=
  ⟨h.pst.setD hne hv o u, h.chg.trans ⟨rfl, rfl, rfl, by simp [World.setCell], fun k hk h1 _ => by
    by_cases e : k = d
    · subst e
      rw [blk_set hd o u, set_same hx, hd]
    · exact Below.heap_setCell _ _ _ _ e⟩, h.nv⟩
theorem pM_rd (st : Pn) (n : Nat) : (pM st n).2.rd = st.rd := by
  unfold pM
  split
  · split <;> rfl
  · rfl
end Go.Proofs.YtckooioikcenmaaGreat
namespace Go.Proofs.YtckooioikcenmaaGreat
open Go.RowKit
set_option maxRecDepth 20000 in
set_option maxHeartbeats 8000000 in
theorem penHist_wr (base p d : Nat) (v : Value) (st : Pn) (x0 : ByteArray) (x1 : Int) (x2 : List DCmd) (v2 : Value) (x3 : List Int) (v3 : Value) (x4 : List DKnown) (v4 : Value) (x5 : List Int) (v5 : Value) (x6 : Bool) (x7 : Bool) (x8 : Int) (x9 : Int) (x10 : Int) (x11 : Int) (nA nB nC nD nE nF : Value) (w : World) (hs : PSt base p w v st) (hr : st.rd = false) (hb : st.bad = false)
    (hd : w.heap[d]? = some (.cells #[nA, nB, .string x0, .int .i64 x1, v2, v3, v4, v5, .bool x6, .bool x7, .int .i64 x8, .int .i64 x9, .int .i64 x10, .int .i64 x11, nC, nD, nE, nF] 65)) (h2 : LRep mCmd base w v2 x2) (h3 : LRep mI base w v3 x3) (h4 : LRep mKnown base w v4 x4) (h5 : LRep mI base w v5 x5) (ho : cHist.okr (x0, x1, x2, x3, x4, x5, x6, x7, x8, x9, x10, x11)) (hm : cHist.sm (x0, x1, x2, x3, x4, x5, x6, x7, x8, x9, x10, x11)) (hl : Fits cHist st (x0, x1, x2, x3, x4, x5, x6, x7, x8, x9, x10, x11)) (hne : d ≠ p) (hbd : base ≤ d) (hvd : ∀ k, Value.readBlock v = some k → k ≠ d) :
    Calls Tryz.prog 104 #[.pointer (some ⟨p, 0, none⟩), .pointer (some ⟨d, 2, none⟩)] w (WrPost base p v (pC cHist st (x0, x1, x2, x3, x4, x5, x6, x7, x8, x9, x10, x11)).2 w) := by
  obtain ⟨A2, c2, rfl⟩ := h2.form
  have H2 := Lib.hid h2
  clear h2
  obtain ⟨A3, c3, rfl⟩ := h3.form
  have H3 := Lib.hid h3
  clear h3
  obtain ⟨A4, c4, rfl⟩ := h4.form
  have H4 := Lib.hid h4
  clear h4
  obtain ⟨A5, c5, rfl⟩ := h5.form
  have H5 := Lib.hid h5
  clear h5
  have r0 := hr
  have b0 := hb
  have f0 : Fits cS st x0 := hl.left
  have hl1 := hl.right
  have r1 : (pC cS st x0).2.rd = false := (pC_rd _ _ _).trans r0
  have b1 : (pC cS st x0).2.bad = false := (pC_bad r0).trans b0
  obtain ⟨s1, k0⟩ : ∃ s, (pC cS st x0).2 = s := ⟨_, rfl⟩
  rw [k0] at r1 b1 hl1
  have f1 : Fits cI s1 x1 := hl1.left
  have hl2 := hl1.right
  have r2 : (pC cI s1 x1).2.rd = false := (pC_rd _ _ _).trans r1
  have b2 : (pC cI s1 x1).2.bad = false := (pC_bad r1).trans b1
  obtain ⟨s2, k1⟩ : ∃ s, (pC cI s1 x1).2 = s := ⟨_, rfl⟩
  rw [k1] at r2 b2 hl2
  have f2 : Fits (cL cCmd) s2 x2 := hl2.left
  have hl3 := hl2.right
  have r3 : (pC (cL cCmd) s2 x2).2.rd = false := (pC_rd _ _ _).trans r2
  have b3 : (pC (cL cCmd) s2 x2).2.bad = false := (pC_bad r2).trans b2
  obtain ⟨s3, k2⟩ : ∃ s, (pC (cL cCmd) s2 x2).2 = s := ⟨_, rfl⟩
  rw [k2] at r3 b3 hl3
  have f3 : Fits (cL cI) s3 x3 := hl3.left
  have hl4 := hl3.right
  have r4 : (pC (cL cI) s3 x3).2.rd = false := (pC_rd _ _ _).trans r3
  have b4 : (pC (cL cI) s3 x3).2.bad = false := (pC_bad r3).trans b3
  obtain ⟨s4, k3⟩ : ∃ s, (pC (cL cI) s3 x3).2 = s := ⟨_, rfl⟩
  rw [k3] at r4 b4 hl4
  have f4 : Fits (cL cKnown) s4 x4 := hl4.left
  have hl5 := hl4.right
  have r5 : (pC (cL cKnown) s4 x4).2.rd = false := (pC_rd _ _ _).trans r4
  have b5 : (pC (cL cKnown) s4 x4).2.bad = false := (pC_bad r4).trans b4
  obtain ⟨s5, k4⟩ : ∃ s, (pC (cL cKnown) s4 x4).2 = s := ⟨_, rfl⟩
  rw [k4] at r5 b5 hl5
  have f5 : Fits (cL cI) s5 x5 := hl5.left
  have hl6 := hl5.right
  have r6 : (pC (cL cI) s5 x5).2.rd = false := (pC_rd _ _ _).trans r5
  have b6 : (pC (cL cI) s5 x5).2.bad = false := (pC_bad r5).trans b5
  obtain ⟨s6, k5⟩ : ∃ s, (pC (cL cI) s5 x5).2 = s := ⟨_, rfl⟩
  rw [k5] at r6 b6 hl6
  have f6 : Fits cF s6 x6 := hl6.left
  have hl7 := hl6.right
  have r7 : (pC cF s6 x6).2.rd = false := (pC_rd _ _ _).trans r6
  have b7 : (pC cF s6 x6).2.bad = false := (pC_bad r6).trans b6
  obtain ⟨s7, k6⟩ : ∃ s, (pC cF s6 x6).2 = s := ⟨_, rfl⟩
  rw [k6] at r7 b7 hl7
  have f7 : Fits cF s7 x7 := hl7.left
  have hl8 := hl7.right
  have r8 : (pC cF s7 x7).2.rd = false := (pC_rd _ _ _).trans r7
  have b8 : (pC cF s7 x7).2.bad = false := (pC_bad r7).trans b7
  obtain ⟨s8, k7⟩ : ∃ s, (pC cF s7 x7).2 = s := ⟨_, rfl⟩
  rw [k7] at r8 b8 hl8
  have f8 : Fits cI s8 x8 := hl8.left
  have hl9 := hl8.right
  have r9 : (pC cI s8 x8).2.rd = false := (pC_rd _ _ _).trans r8
  have b9 : (pC cI s8 x8).2.bad = false := (pC_bad r8).trans b8
  obtain ⟨s9, k8⟩ : ∃ s, (pC cI s8 x8).2 = s := ⟨_, rfl⟩
  rw [k8] at r9 b9 hl9
  have f9 : Fits cI s9 x9 := hl9.left
  have hl10 := hl9.right
  have r10 : (pC cI s9 x9).2.rd = false := (pC_rd _ _ _).trans r9
  have b10 : (pC cI s9 x9).2.bad = false := (pC_bad r9).trans b9
  obtain ⟨s10, k9⟩ : ∃ s, (pC cI s9 x9).2 = s := ⟨_, rfl⟩
  rw [k9] at r10 b10 hl10
  have f10 : Fits cI s10 x10 := hl10.left
  have hl11 := hl10.right
  have r11 : (pC cI s10 x10).2.rd = false := (pC_rd _ _ _).trans r10
  have b11 : (pC cI s10 x10).2.bad = false := (pC_bad r10).trans b10
  obtain ⟨s11, k10⟩ : ∃ s, (pC cI s10 x10).2 = s := ⟨_, rfl⟩
  rw [k10] at r11 b11 hl11
  have f11 : Fits cI s11 x11 := hl11
  have r12 : (pC cI s11 x11).2.rd = false := (pC_rd _ _ _).trans r11
  have b12 : (pC cI s11 x11).2.bad = false := (pC_bad r11).trans b11
  obtain ⟨s12, k11⟩ : ∃ s, (pC cI s11 x11).2 = s := ⟨_, rfl⟩
  rw [k11] at r12 b12
  have HE : Hid ((pC cHist st (x0, x1, x2, x3, x4, x5, x6, x7, x8, x9, x10, x11)).2 = s12) := by show _ = _; unfold cHist; simp only [pC_seq, k0, k1, k2, k3, k4, k5, k6, k7, k8, k9, k10, k11]
  have F0 := Lib.hid f0
  have K0 := Lib.hid k0
  have o0 := ho.1
  have m0 := hm.1
  have F1 := Lib.hid f1
  have K1 := Lib.hid k1
  have o1 := ho.2.1
  have F2 := Lib.hid f2
  have K2 := Lib.hid k2
  have o2 := ho.2.2.1
  have m2 := hm.2.2.1
  have O2 := Lib.hid o2.2
  have M2 := Lib.hid m2.2
  have n2 : x2.length ≤ 20000 := m2.1
  clear o2 m2
  have F3 := Lib.hid f3
  have K3 := Lib.hid k3
  have o3 := ho.2.2.2.1
  have m3 := hm.2.2.2.1
  have O3 := Lib.hid o3.2
  have M3 := Lib.hid m3.2
  have n3 : x3.length ≤ 20000 := m3.1
  clear o3 m3
  have F4 := Lib.hid f4
  have K4 := Lib.hid k4
  have o4 := ho.2.2.2.2.1
  have m4 := hm.2.2.2.2.1
  have O4 := Lib.hid o4.2
  have M4 := Lib.hid m4.2
  have n4 : x4.length ≤ 20000 := m4.1
  clear o4 m4
  have F5 := Lib.hid f5
  have K5 := Lib.hid k5
  have o5 := ho.2.2.2.2.2.1
  have m5 := hm.2.2.2.2.2.1
  have O5 := Lib.hid o5.2
  have M5 := Lib.hid m5.2
  have n5 : x5.length ≤ 20000 := m5.1
  clear o5 m5
  have F6 := Lib.hid f6
  have K6 := Lib.hid k6
  have F7 := Lib.hid f7
  have K7 := Lib.hid k7
  have F8 := Lib.hid f8
  have K8 := Lib.hid k8
  have o8 := ho.2.2.2.2.2.2.2.2.1
  have F9 := Lib.hid f9
  have K9 := Lib.hid k9
  have o9 := ho.2.2.2.2.2.2.2.2.2.1
  have F10 := Lib.hid f10
  have K10 := Lib.hid k10
  have o10 := ho.2.2.2.2.2.2.2.2.2.2.1
  have F11 := Lib.hid f11
  have K11 := Lib.hid k11
  have o11 := ho.2.2.2.2.2.2.2.2.2.2.2
  have HD := Lib.hid hd
  have HV := Lib.hid hvd
  have hdl := blk_lt hd
  have hpl := hs.lt
  have hbp := hs.hr
  have hpb : base ≤ w.heap.size := by omega
  have C0 : Hid (WrSt base p v v st w w) := ⟨hs, Chg.refl _ _ _, NewV.refl _ _⟩
  rw [HE.out]
  clear hs hd hvd ho hm hl hr hb HE f0 k0 f1 k1 f2 k2 f3 k3 f4 k4 f5 k5 f6 k6 f7 k7 f8 k8 f9 k9 f10 k10 f11 k11 hl1 hl2 hl3 hl4 hl5 hl6 hl7 hl8 hl9 hl10 hl11
  go_enter Tryz.func104, Tryz.ntmps104
  go_wp2_with fail
  refine (wrText (o := 2) C0.out r0 (C0.out.blk HD.out hne) rfl m0 F0.out hne (C0.out.nv.vd HV.out hdl)).mono ?_
  rintro e w1 ⟨rfl, v1x, hc⟩
  rw [K0.out] at hc
  have C1 := Lib.hid hc
  clear hc
  go_wp2_with fail
  refine (wrNum (o := 3) C1.out r1 (C1.out.blk HD.out hne) rfl o1 F1.out hne hbd (C1.out.nv.vd HV.out hdl)).mono ?_
  rintro e w2 ⟨rfl, v2x, hc⟩
  rw [K1.out] at hc
  have C2 := Lib.hid hc
  clear hc
  have cl := blk_cell (C2.out.blk HD.out hne) 4
  simp at cl
  go_wp2_with fail
  refine (wrMany (n := x2.length) C2.out r2 (C2.out.blk HD.out hne) (by omega) (by have := F2.out; unfold Fits at this; omega) hne (C2.out.nv.vd HV.out hdl)).mono ?_
  rintro e w3 ⟨rfl, v3x, hc⟩
  have Q2 := Lib.hid hc
  clear hc cl
  have y0 : (pM s2 x2.length).2.rd = false := (pM_rd _ _).trans r2
  have y1 : (pM s2 x2.length).2.bad = false := (pM_bad r2).trans b2
  have y2 := Lib.hid (fun (k : Nat) x (h : x2[k]? = some x) => sW_fits r2 F2.out h)
  have y3 := Lib.hid (sW_end (c := cCmd) (xs := x2) r2)
  obtain ⟨q2, hq⟩ : ∃ q, (pM s2 x2.length).2 = q := ⟨_, rfl⟩
  rw [hq] at Q2 y0 y1 y2 y3
  clear hq
  go_wp2
  go_loopw [4] (fun ix wr => ∃ k : Nat, ix = .int .i64 k ∧ k ≤ x2.length ∧ Hid (∃ v1, WrSt base p v v1 (sW cCmd q2 x2 k) w wr)) (fun ix _ => x2.length - (intOf ix).toNat)
  case atStart => exact ⟨0, rfl, by omega, ⟨_, by rw [sW_zero]; exact Q2.out⟩⟩
  case round =>
    obtain ⟨k, rfl, hk, HW⟩ := hrel
    obtain ⟨vk, hW⟩ := HW.out
    have tb : wr.cell? ⟨p, 3, none⟩ = some (.bool false) := by rw [blk_cell hW.pst.pn]; show some (Value.bool q2.bad) = _; rw [y1]
    have tr : wr.cell? ⟨p, 2, none⟩ = some (.bool false) := by rw [blk_cell hW.pst.pn]; show some (Value.bool q2.rd) = _; rw [y0]
    have cl := blk_cell (hW.blk HD.out hne) 4
    simp at cl
    have CW := Lib.hid hW
    clear HW
    by_cases hlt : k < x2.length
    · obtain ⟨x, hx⟩ : ∃ n, x2[k]? = some n := ⟨x2[k], List.getElem?_eq_getElem hlt⟩
      have hmem := List.mem_of_getElem? hx
      have hox := O2.out x hmem
      have hmx := M2.out x hmem
      obtain ⟨b, o, us, hA, hbb, hus, hrep⟩ := (H2.out.keep mCmd_law (hW.chg.below hbp hbp hpb)).at hx
      subst hA
      have hfit := y2.out k x hx
      have hstep := sW_step (c := cCmd) (st := q2) y0 hx
      obtain ⟨e0, e1, e2, e3, e4⟩ := x
      obtain rfl := mCmd_form hrep
      have d0 := hus 0 _ rfl
      have d1 := hus 1 _ rfl
      have d2 := hus 2 _ rfl
      have d3 := hus 3 _ rfl
      have d4 := hus 4 _ rfl
      rw [show mCmd.n = 5 from rfl] at d0 d1 d2 d3 d4
      rw [Nat.add_zero] at d0
      obtain ⟨t0, ht0⟩ : ∃ t, sW cCmd q2 x2 k = t := ⟨_, rfl⟩
      have a0 : t0.rd = false := by rw [← ht0]; exact y0
      rw [ht0] at hfit hstep hW
      have p0 : Fits cI t0 e0 := hfit.left
      have g1 := hfit.right
      have a1 : (pC cI t0 e0).2.rd = false := (pC_rd _ _ _).trans a0
      obtain ⟨t1, l0⟩ : ∃ s, (pC cI t0 e0).2 = s := ⟨_, rfl⟩
      rw [l0] at a1 g1
      have P0 := Lib.hid p0
      have L0 := Lib.hid l0
      have z0 := hox.1
      have p1 : Fits cB t1 e1 := g1.left
      have g2 := g1.right
      have a2 : (pC cB t1 e1).2.rd = false := (pC_rd _ _ _).trans a1
      obtain ⟨t2, l1⟩ : ∃ s, (pC cB t1 e1).2 = s := ⟨_, rfl⟩
      rw [l1] at a2 g2
      have P1 := Lib.hid p1
      have L1 := Lib.hid l1
      have z1 := hox.2.1
      have p2 : Fits cS t2 e2 := g2.left
      have g3 := g2.right
      have a3 : (pC cS t2 e2).2.rd = false := (pC_rd _ _ _).trans a2
      obtain ⟨t3, l2⟩ : ∃ s, (pC cS t2 e2).2 = s := ⟨_, rfl⟩
      rw [l2] at a3 g3
      have P2 := Lib.hid p2
      have L2 := Lib.hid l2
      have z2 := hmx.2.2.1
      have p3 : Fits cI t3 e3 := g3.left
      have g4 := g3.right
      have a4 : (pC cI t3 e3).2.rd = false := (pC_rd _ _ _).trans a3
      obtain ⟨t4, l3⟩ : ∃ s, (pC cI t3 e3).2 = s := ⟨_, rfl⟩
      rw [l3] at a4 g4
      have P3 := Lib.hid p3
      have L3 := Lib.hid l3
      have z3 := hox.2.2.2.1
      have p4 : Fits cI t4 e4 := g4
      have a5 : (pC cI t4 e4).2.rd = false := (pC_rd _ _ _).trans a4
      obtain ⟨t5, l4⟩ : ∃ s, (pC cI t4 e4).2 = s := ⟨_, rfl⟩
      rw [l4] at a5
      have P4 := Lib.hid p4
      have L4 := Lib.hid l4
      have z4 := hox.2.2.2.2
      have HT : Hid (t5 = sW cCmd q2 x2 (k + 1)) := by show _ = _; refine Eq.trans ?_ (congrArg Prod.snd hstep); unfold cCmd; simp only [pC_seq, l0, l1, l2, l3, l4]
      clear hfit hstep ht0 hmem hox hmx hus hrep p0 l0 p1 l1 p2 l2 p3 l3 p4 l4 g1 g2 g3 g4
      have hge : wr.heap.size ≠ p := by have := hW.pst.lt; omega
      have hbg : base ≤ wr.heap.size := by have := hW.pst.lt; omega
      have HG : Hid (((wr.alloc (.cells #[.int .i64 e0, .int .u8 e1, .string e2, .int .i64 e3, .int .i64 e4] 191)).alloc (.cells #[.int .u8 e1] 5)).heap[wr.heap.size]? = some (.cells #[.int .i64 e0, .int .u8 e1, .string e2, .int .i64 e3, .int .i64 e4] 191)) := blk_alloc (alloc_at wr _) _
      have HG1 : Hid (((wr.alloc (.cells #[.int .i64 e0, .int .u8 e1, .string e2, .int .i64 e3, .int .i64 e4] 191)).alloc (.cells #[.int .u8 e1] 5)).heap[wr.heap.size + 1]? = some (.cells #[.int .u8 e1] 5)) := by have q := alloc_at (wr.alloc (.cells #[.int .i64 e0, .int .u8 e1, .string e2, .int .i64 e3, .int .i64 e4] 191)) (.cells #[.int .u8 e1] 5); rw [show (World.heap (wr.alloc (.cells #[.int .i64 e0, .int .u8 e1, .string e2, .int .i64 e3, .int .i64 e4] 191))).size = wr.heap.size + 1 by simp] at q; exact q
      have hge1 : wr.heap.size + 1 ≠ p := by have := hW.pst.lt; omega
      have VG1 : Hid (∀ k, Value.readBlock vk = some k → k ≠ wr.heap.size + 1) := fun k hk => by have := hW.pst.ok.blkLt k hk; omega
      have E0 : Hid (WrSt base p vk vk t0 ((wr.alloc (.cells #[.int .i64 e0, .int .u8 e1, .string e2, .int .i64 e3, .int .i64 e4] 191)).alloc (.cells #[.int .u8 e1] 5)) ((wr.alloc (.cells #[.int .i64 e0, .int .u8 e1, .string e2, .int .i64 e3, .int .i64 e4] 191)).alloc (.cells #[.int .u8 e1] 5))) := ⟨own_new (own_new hW.pst _) _, Chg.refl _ _ _, NewV.refl _ _⟩
      have CA : Hid (WrSt base p v vk t0 w ((wr.alloc (.cells #[.int .i64 e0, .int .u8 e1, .string e2, .int .i64 e3, .int .i64 e4] 191)).alloc (.cells #[.int .u8 e1] 5))) := (hW.alloc _).alloc _
      have gl1 := blk_lt HG1.out
      have VG : Hid (∀ k, Value.readBlock vk = some k → k ≠ wr.heap.size) := fun k hk => by have := hW.pst.ok.blkLt k hk; omega
      have gl := blk_lt HG.out
      clear hx hW
      go_wp2_with fail
      refine (wrWhole (o := 0) E0.out a0 (E0.out.blk HG.out hge) rfl z0 P0.out hge hbg (E0.out.nv.vd VG.out gl)).mono ?_
      rintro e y1w ⟨rfl, u1, hc⟩
      rw [L0.out] at hc
      have E1 := Lib.hid hc
      clear hc
      go_wp2_with fail
      refine (wrSmall (o := 0) E1.out a1 (E1.out.blk HG1.out hge1) rfl z1 P1.out hge1 (by omega) (E1.out.nv.vd VG1.out gl1)).mono ?_
      rintro e y2w ⟨rfl, u2, hc⟩
      rw [L1.out] at hc
      have i0 := blk_cell (hc.blk HG1.out hge1) 0
      have i1 := blk_cell (hc.blk HG.out hge) 1
      have i2 := blk_free (hc.blk HG.out hge) 1
      simp at i0 i1
      have E2 := Lib.hid (hc.same (o := 1) (u := .int .u8 e1) (hc.blk HG.out hge) rfl hge (hc.nv.vd VG.out gl))
      clear hc
      go_wp2_with fail
      refine (wrText (o := 2) E2.out a2 (E2.out.blk HG.out hge) rfl z2 P2.out hge (E2.out.nv.vd VG.out gl)).mono ?_
      rintro e y3w ⟨rfl, u3, hc⟩
      rw [L2.out] at hc
      have E3 := Lib.hid hc
      clear hc
      go_wp2_with fail
      refine (wrNum (o := 3) E3.out a3 (E3.out.blk HG.out hge) rfl z3 P3.out hge hbg (E3.out.nv.vd VG.out gl)).mono ?_
      rintro e y4w ⟨rfl, u4, hc⟩
      rw [L3.out] at hc
      have E4 := Lib.hid hc
      clear hc
      go_wp2_with fail
      refine (wrWhole (o := 4) E4.out a4 (E4.out.blk HG.out hge) rfl z4 P4.out hge hbg (E4.out.nv.vd VG.out gl)).mono ?_
      rintro e y5w ⟨rfl, u5, hc⟩
      rw [L4.out] at hc
      have E5 := Lib.hid hc
      clear hc
      have tr2 := blk_cell E5.out.pst.pn 2
      simp [a5] at tr2
      have CN := Lib.hid (CA.out.trans E5.out)
      rw [HT.out] at CN
      go_wp2
      go_roundw
      case rel => exact ⟨k + 1, by go_num, by omega, ⟨_, CN.out⟩⟩
      case measure => simp [intOf] <;> omega
    · obtain rfl : k = x2.length := by omega
      have C3 : Hid (WrSt base p v vk s3 w wr) := by show WrSt _ _ _ _ _ _ _; rw [← K2.out, y3.out]; exact CW.out
      clear CW hW cl tb tr y0 y1 y2 y3 Q2 C2
      have cl := blk_cell (C3.out.blk HD.out hne) 5
      simp at cl
      go_wp2_with fail
      refine (wrMany (n := x3.length) C3.out r3 (C3.out.blk HD.out hne) (by omega) (by have := F3.out; unfold Fits at this; omega) hne (C3.out.nv.vd HV.out hdl)).mono ?_
      rintro e w4 ⟨rfl, v4x, hc⟩
      have Q3 := Lib.hid hc
      clear hc cl
      have y0 : (pM s3 x3.length).2.rd = false := (pM_rd _ _).trans r3
      have y1 : (pM s3 x3.length).2.bad = false := (pM_bad r3).trans b3
      have y2 := Lib.hid (fun (k : Nat) x (h : x3[k]? = some x) => sW_fits r3 F3.out h)
      have y3 := Lib.hid (sW_end (c := cI) (xs := x3) r3)
      obtain ⟨q3, hq⟩ : ∃ q, (pM s3 x3.length).2 = q := ⟨_, rfl⟩
      rw [hq] at Q3 y0 y1 y2 y3
      clear hq
      go_wp2
      go_loopw [8] (fun ix wr => ∃ k : Nat, ix = .int .i64 k ∧ k ≤ x3.length ∧ Hid (∃ v1, WrSt base p v v1 (sW cI q3 x3 k) w wr)) (fun ix _ => x3.length - (intOf ix).toNat)
      case atStart => exact ⟨0, rfl, by omega, ⟨_, by rw [sW_zero]; exact Q3.out⟩⟩
      case round =>
        obtain ⟨k, rfl, hk, HW⟩ := hrel
        obtain ⟨vk, hW⟩ := HW.out
        have tb : wr.cell? ⟨p, 3, none⟩ = some (.bool false) := by rw [blk_cell hW.pst.pn]; show some (Value.bool q3.bad) = _; rw [y1]
        have tr : wr.cell? ⟨p, 2, none⟩ = some (.bool false) := by rw [blk_cell hW.pst.pn]; show some (Value.bool q3.rd) = _; rw [y0]
        have cl := blk_cell (hW.blk HD.out hne) 5
        simp at cl
        have CW := Lib.hid hW
        clear HW
        by_cases hlt : k < x3.length
        · obtain ⟨x, hx⟩ : ∃ n, x3[k]? = some n := ⟨x3[k], List.getElem?_eq_getElem hlt⟩
          have hmem := List.mem_of_getElem? hx
          have hox := O3.out x hmem
          have hmx := M3.out x hmem
          obtain ⟨b, o, us, hA, hbb, hus, hrep⟩ := (H3.out.keep mI_law (hW.chg.below hbp hbp hpb)).at hx
          subst hA
          have hfit := y2.out k x hx
          have hstep := sW_step (c := cI) (st := q3) y0 hx
          obtain ⟨e0, rfl⟩ : ∃ e, x = e := ⟨_, rfl⟩
          obtain rfl : us = [.int .i64 x] := hrep
          have d0 := hus 0 _ rfl
          rw [show mI.n = 1 from rfl] at d0
          rw [Nat.mul_one] at d0
          rw [Nat.add_zero] at d0
          obtain ⟨t0, ht0⟩ : ∃ t, sW cI q3 x3 k = t := ⟨_, rfl⟩
          have a0 : t0.rd = false := by rw [← ht0]; exact y0
          rw [ht0] at hfit hstep hW
          have p0 : Fits cI t0 x := hfit
          have a1 : (pC cI t0 x).2.rd = false := (pC_rd _ _ _).trans a0
          obtain ⟨t1, l0⟩ : ∃ s, (pC cI t0 x).2 = s := ⟨_, rfl⟩
          rw [l0] at a1
          have P0 := Lib.hid p0
          have L0 := Lib.hid l0
          have z0 := hox
          have HT : Hid (t1 = sW cI q3 x3 (k + 1)) := by show _ = _; exact l0.symm.trans (congrArg Prod.snd hstep)
          clear hfit hstep ht0 hmem hox hmx hus p0 l0 
          have hge : wr.heap.size ≠ p := by have := hW.pst.lt; omega
          have hbg : base ≤ wr.heap.size := by have := hW.pst.lt; omega
          have HG : Hid ((wr.alloc (.cells #[.int .i64 x] 3)).heap[wr.heap.size]? = some (.cells #[.int .i64 x] 3)) := alloc_at wr _
          have E0 : Hid (WrSt base p vk vk t0 (wr.alloc (.cells #[.int .i64 x] 3)) (wr.alloc (.cells #[.int .i64 x] 3))) := ⟨own_new hW.pst _, Chg.refl _ _ _, NewV.refl _ _⟩
          have CA : Hid (WrSt base p v vk t0 w (wr.alloc (.cells #[.int .i64 x] 3))) := hW.alloc _
          have VG : Hid (∀ k, Value.readBlock vk = some k → k ≠ wr.heap.size) := fun k hk => by have := hW.pst.ok.blkLt k hk; omega
          have gl := blk_lt HG.out
          clear hx hW
          go_wp2_with fail
          refine (wrWhole (o := 0) E0.out a0 (E0.out.blk HG.out hge) rfl z0 P0.out hge hbg (E0.out.nv.vd VG.out gl)).mono ?_
          rintro e y1w ⟨rfl, u1, hc⟩
          rw [L0.out] at hc
          have E1 := Lib.hid hc
          clear hc
          have tr2 := blk_cell E1.out.pst.pn 2
          simp [a1] at tr2
          have CN := Lib.hid (CA.out.trans E1.out)
          rw [HT.out] at CN
          go_wp2
          go_roundw
          case rel => exact ⟨k + 1, by go_num, by omega, ⟨_, CN.out⟩⟩
          case measure => simp [intOf] <;> omega
        · obtain rfl : k = x3.length := by omega
          have C4 : Hid (WrSt base p v vk s4 w wr) := by show WrSt _ _ _ _ _ _ _; rw [← K3.out, y3.out]; exact CW.out
          clear CW hW cl tb tr y0 y1 y2 y3 Q3 C3
          have cl := blk_cell (C4.out.blk HD.out hne) 6
          simp at cl
          go_wp2_with fail
          refine (wrMany (n := x4.length) C4.out r4 (C4.out.blk HD.out hne) (by omega) (by have := F4.out; unfold Fits at this; omega) hne (C4.out.nv.vd HV.out hdl)).mono ?_
          rintro e w5 ⟨rfl, v5x, hc⟩
          have Q4 := Lib.hid hc
          clear hc cl
          have y0 : (pM s4 x4.length).2.rd = false := (pM_rd _ _).trans r4
          have y1 : (pM s4 x4.length).2.bad = false := (pM_bad r4).trans b4
          have y2 := Lib.hid (fun (k : Nat) x (h : x4[k]? = some x) => sW_fits r4 F4.out h)
          have y3 := Lib.hid (sW_end (c := cKnown) (xs := x4) r4)
          obtain ⟨q4, hq⟩ : ∃ q, (pM s4 x4.length).2 = q := ⟨_, rfl⟩
          rw [hq] at Q4 y0 y1 y2 y3
          clear hq
          go_wp2
          go_loopw [11] (fun ix wr => ∃ k : Nat, ix = .int .i64 k ∧ k ≤ x4.length ∧ Hid (∃ v1, WrSt base p v v1 (sW cKnown q4 x4 k) w wr)) (fun ix _ => x4.length - (intOf ix).toNat)
          case atStart => exact ⟨0, rfl, by omega, ⟨_, by rw [sW_zero]; exact Q4.out⟩⟩
          case round =>
            obtain ⟨k, rfl, hk, HW⟩ := hrel
            obtain ⟨vk, hW⟩ := HW.out
            have tb : wr.cell? ⟨p, 3, none⟩ = some (.bool false) := by rw [blk_cell hW.pst.pn]; show some (Value.bool q4.bad) = _; rw [y1]
            have tr : wr.cell? ⟨p, 2, none⟩ = some (.bool false) := by rw [blk_cell hW.pst.pn]; show some (Value.bool q4.rd) = _; rw [y0]
            have cl := blk_cell (hW.blk HD.out hne) 6
            simp at cl
            have CW := Lib.hid hW
            clear HW
            by_cases hlt : k < x4.length
            · obtain ⟨x, hx⟩ : ∃ n, x4[k]? = some n := ⟨x4[k], List.getElem?_eq_getElem hlt⟩
              have hmem := List.mem_of_getElem? hx
              have hox := O4.out x hmem
              have hmx := M4.out x hmem
              obtain ⟨b, o, us, hA, hbb, hus, hrep⟩ := (H4.out.keep mKnown_law (hW.chg.below hbp hbp hpb)).at hx
              subst hA
              have hfit := y2.out k x hx
              have hstep := sW_step (c := cKnown) (st := q4) y0 hx
              obtain ⟨e0, e1, e2⟩ := x
              obtain rfl := mKnown_form hrep
              have d0 := hus 0 _ rfl
              have d1 := hus 1 _ rfl
              have d2 := hus 2 _ rfl
              rw [show mKnown.n = 3 from rfl] at d0 d1 d2
              rw [Nat.add_zero] at d0
              obtain ⟨t0, ht0⟩ : ∃ t, sW cKnown q4 x4 k = t := ⟨_, rfl⟩
              have a0 : t0.rd = false := by rw [← ht0]; exact y0
              rw [ht0] at hfit hstep hW
              have p0 : Fits cI t0 e0 := hfit.left
              have g1 := hfit.right
              have a1 : (pC cI t0 e0).2.rd = false := (pC_rd _ _ _).trans a0
              obtain ⟨t1, l0⟩ : ∃ s, (pC cI t0 e0).2 = s := ⟨_, rfl⟩
              rw [l0] at a1 g1
              have P0 := Lib.hid p0
              have L0 := Lib.hid l0
              have z0 := hox.1
              have p1 : Fits cI t1 e1 := g1.left
              have g2 := g1.right
              have a2 : (pC cI t1 e1).2.rd = false := (pC_rd _ _ _).trans a1
              obtain ⟨t2, l1⟩ : ∃ s, (pC cI t1 e1).2 = s := ⟨_, rfl⟩
              rw [l1] at a2 g2
              have P1 := Lib.hid p1
              have L1 := Lib.hid l1
              have z1 := hox.2.1
              have p2 : Fits cI t2 e2 := g2
              have a3 : (pC cI t2 e2).2.rd = false := (pC_rd _ _ _).trans a2
              obtain ⟨t3, l2⟩ : ∃ s, (pC cI t2 e2).2 = s := ⟨_, rfl⟩
              rw [l2] at a3
              have P2 := Lib.hid p2
              have L2 := Lib.hid l2
              have z2 := hox.2.2
              have HT : Hid (t3 = sW cKnown q4 x4 (k + 1)) := by show _ = _; refine Eq.trans ?_ (congrArg Prod.snd hstep); unfold cKnown; simp only [pC_seq, l0, l1, l2]
              clear hfit hstep ht0 hmem hox hmx hus hrep p0 l0 p1 l1 p2 l2 g1 g2
              have hge : wr.heap.size ≠ p := by have := hW.pst.lt; omega
              have hbg : base ≤ wr.heap.size := by have := hW.pst.lt; omega
              have HG : Hid ((wr.alloc (.cells #[.int .i64 e0, .int .i64 e1, .int .i64 e2] 202)).heap[wr.heap.size]? = some (.cells #[.int .i64 e0, .int .i64 e1, .int .i64 e2] 202)) := alloc_at wr _
              have E0 : Hid (WrSt base p vk vk t0 (wr.alloc (.cells #[.int .i64 e0, .int .i64 e1, .int .i64 e2] 202)) (wr.alloc (.cells #[.int .i64 e0, .int .i64 e1, .int .i64 e2] 202))) := ⟨own_new hW.pst _, Chg.refl _ _ _, NewV.refl _ _⟩
              have CA : Hid (WrSt base p v vk t0 w (wr.alloc (.cells #[.int .i64 e0, .int .i64 e1, .int .i64 e2] 202))) := hW.alloc _
              have VG : Hid (∀ k, Value.readBlock vk = some k → k ≠ wr.heap.size) := fun k hk => by have := hW.pst.ok.blkLt k hk; omega
              have gl := blk_lt HG.out
              clear hx hW
              go_wp2_with fail
              refine (wrWhole (o := 0) E0.out a0 (E0.out.blk HG.out hge) rfl z0 P0.out hge hbg (E0.out.nv.vd VG.out gl)).mono ?_
              rintro e y1w ⟨rfl, u1, hc⟩
              rw [L0.out] at hc
              have E1 := Lib.hid hc
              clear hc
              go_wp2_with fail
              refine (wrWhole (o := 1) E1.out a1 (E1.out.blk HG.out hge) rfl z1 P1.out hge hbg (E1.out.nv.vd VG.out gl)).mono ?_
              rintro e y2w ⟨rfl, u2, hc⟩
              rw [L1.out] at hc
              have E2 := Lib.hid hc
              clear hc
              go_wp2_with fail
              refine (wrNum (o := 2) E2.out a2 (E2.out.blk HG.out hge) rfl z2 P2.out hge hbg (E2.out.nv.vd VG.out gl)).mono ?_
              rintro e y3w ⟨rfl, u3, hc⟩
              rw [L2.out] at hc
              have E3 := Lib.hid hc
              clear hc
              have tr2 := blk_cell E3.out.pst.pn 2
              simp [a3] at tr2
              have CN := Lib.hid (CA.out.trans E3.out)
              rw [HT.out] at CN
              go_wp2
              go_roundw
              case rel => exact ⟨k + 1, by go_num, by omega, ⟨_, CN.out⟩⟩
              case measure => simp [intOf] <;> omega
            · obtain rfl : k = x4.length := by omega
              have C5 : Hid (WrSt base p v vk s5 w wr) := by show WrSt _ _ _ _ _ _ _; rw [← K4.out, y3.out]; exact CW.out
              clear CW hW cl tb tr y0 y1 y2 y3 Q4 C4
              have cl := blk_cell (C5.out.blk HD.out hne) 7
              simp at cl
              go_wp2_with fail
              refine (wrMany (n := x5.length) C5.out r5 (C5.out.blk HD.out hne) (by omega) (by have := F5.out; unfold Fits at this; omega) hne (C5.out.nv.vd HV.out hdl)).mono ?_
              rintro e w6 ⟨rfl, v6x, hc⟩
              have Q5 := Lib.hid hc
              clear hc cl
              have y0 : (pM s5 x5.length).2.rd = false := (pM_rd _ _).trans r5
              have y1 : (pM s5 x5.length).2.bad = false := (pM_bad r5).trans b5
              have y2 := Lib.hid (fun (k : Nat) x (h : x5[k]? = some x) => sW_fits r5 F5.out h)
              have y3 := Lib.hid (sW_end (c := cI) (xs := x5) r5)
              obtain ⟨q5, hq⟩ : ∃ q, (pM s5 x5.length).2 = q := ⟨_, rfl⟩
              rw [hq] at Q5 y0 y1 y2 y3
              clear hq
              go_wp2
              go_loopw [14] (fun ix wr => ∃ k : Nat, ix = .int .i64 k ∧ k ≤ x5.length ∧ Hid (∃ v1, WrSt base p v v1 (sW cI q5 x5 k) w wr)) (fun ix _ => x5.length - (intOf ix).toNat)
              case atStart => exact ⟨0, rfl, by omega, ⟨_, by rw [sW_zero]; exact Q5.out⟩⟩
              case round =>
                obtain ⟨k, rfl, hk, HW⟩ := hrel
                obtain ⟨vk, hW⟩ := HW.out
                have tb : wr.cell? ⟨p, 3, none⟩ = some (.bool false) := by rw [blk_cell hW.pst.pn]; show some (Value.bool q5.bad) = _; rw [y1]
                have tr : wr.cell? ⟨p, 2, none⟩ = some (.bool false) := by rw [blk_cell hW.pst.pn]; show some (Value.bool q5.rd) = _; rw [y0]
                have cl := blk_cell (hW.blk HD.out hne) 7
                simp at cl
                have CW := Lib.hid hW
                clear HW
                by_cases hlt : k < x5.length
                · obtain ⟨x, hx⟩ : ∃ n, x5[k]? = some n := ⟨x5[k], List.getElem?_eq_getElem hlt⟩
                  have hmem := List.mem_of_getElem? hx
                  have hox := O5.out x hmem
                  have hmx := M5.out x hmem
                  obtain ⟨b, o, us, hA, hbb, hus, hrep⟩ := (H5.out.keep mI_law (hW.chg.below hbp hbp hpb)).at hx
                  subst hA
                  have hfit := y2.out k x hx
                  have hstep := sW_step (c := cI) (st := q5) y0 hx
                  obtain ⟨e0, rfl⟩ : ∃ e, x = e := ⟨_, rfl⟩
                  obtain rfl : us = [.int .i64 x] := hrep
                  have d0 := hus 0 _ rfl
                  rw [show mI.n = 1 from rfl] at d0
                  rw [Nat.mul_one] at d0
                  rw [Nat.add_zero] at d0
                  obtain ⟨t0, ht0⟩ : ∃ t, sW cI q5 x5 k = t := ⟨_, rfl⟩
                  have a0 : t0.rd = false := by rw [← ht0]; exact y0
                  rw [ht0] at hfit hstep hW
                  have p0 : Fits cI t0 x := hfit
                  have a1 : (pC cI t0 x).2.rd = false := (pC_rd _ _ _).trans a0
                  obtain ⟨t1, l0⟩ : ∃ s, (pC cI t0 x).2 = s := ⟨_, rfl⟩
                  rw [l0] at a1
                  have P0 := Lib.hid p0
                  have L0 := Lib.hid l0
                  have z0 := hox
                  have HT : Hid (t1 = sW cI q5 x5 (k + 1)) := by show _ = _; exact l0.symm.trans (congrArg Prod.snd hstep)
                  clear hfit hstep ht0 hmem hox hmx hus p0 l0 
                  have hge : wr.heap.size ≠ p := by have := hW.pst.lt; omega
                  have hbg : base ≤ wr.heap.size := by have := hW.pst.lt; omega
                  have HG : Hid ((wr.alloc (.cells #[.int .i64 x] 2)).heap[wr.heap.size]? = some (.cells #[.int .i64 x] 2)) := alloc_at wr _
                  have E0 : Hid (WrSt base p vk vk t0 (wr.alloc (.cells #[.int .i64 x] 2)) (wr.alloc (.cells #[.int .i64 x] 2))) := ⟨own_new hW.pst _, Chg.refl _ _ _, NewV.refl _ _⟩
                  have CA : Hid (WrSt base p v vk t0 w (wr.alloc (.cells #[.int .i64 x] 2))) := hW.alloc _
                  have VG : Hid (∀ k, Value.readBlock vk = some k → k ≠ wr.heap.size) := fun k hk => by have := hW.pst.ok.blkLt k hk; omega
                  have gl := blk_lt HG.out
                  clear hx hW
                  go_wp2_with fail
                  refine (wrNum (o := 0) E0.out a0 (E0.out.blk HG.out hge) rfl z0 P0.out hge hbg (E0.out.nv.vd VG.out gl)).mono ?_
                  rintro e y1w ⟨rfl, u1, hc⟩
                  rw [L0.out] at hc
                  have E1 := Lib.hid hc
                  clear hc
                  have tr2 := blk_cell E1.out.pst.pn 2
                  simp [a1] at tr2
                  have CN := Lib.hid (CA.out.trans E1.out)
                  rw [HT.out] at CN
                  go_wp2
                  go_roundw
                  case rel => exact ⟨k + 1, by go_num, by omega, ⟨_, CN.out⟩⟩
                  case measure => simp [intOf] <;> omega
                · obtain rfl : k = x5.length := by omega
                  have C6 : Hid (WrSt base p v vk s6 w wr) := by show WrSt _ _ _ _ _ _ _; rw [← K5.out, y3.out]; exact CW.out
                  clear CW hW cl tb tr y0 y1 y2 y3 Q5 C5
                  go_wp2_with fail
                  refine (wrFlag (o := 8) C6.out r6 (C6.out.blk HD.out hne) rfl  F6.out hne hbd (C6.out.nv.vd HV.out hdl)).mono ?_
                  rintro e w7 ⟨rfl, v7x, hc⟩
                  rw [K6.out] at hc
                  have C7 := Lib.hid hc
                  clear hc
                  go_wp2_with fail
                  refine (wrFlag (o := 9) C7.out r7 (C7.out.blk HD.out hne) rfl  F7.out hne hbd (C7.out.nv.vd HV.out hdl)).mono ?_
                  rintro e w8 ⟨rfl, v8x, hc⟩
                  rw [K7.out] at hc
                  have C8 := Lib.hid hc
                  clear hc
                  go_wp2_with fail
                  refine (wrWhole (o := 10) C8.out r8 (C8.out.blk HD.out hne) rfl o8 F8.out hne hbd (C8.out.nv.vd HV.out hdl)).mono ?_
                  rintro e w9 ⟨rfl, v9x, hc⟩
                  rw [K8.out] at hc
                  have C9 := Lib.hid hc
                  clear hc
                  go_wp2_with fail
                  refine (wrNum (o := 11) C9.out r9 (C9.out.blk HD.out hne) rfl o9 F9.out hne hbd (C9.out.nv.vd HV.out hdl)).mono ?_
                  rintro e w10 ⟨rfl, v10x, hc⟩
                  rw [K9.out] at hc
                  have C10 := Lib.hid hc
                  clear hc
                  go_wp2_with fail
                  refine (wrWhole (o := 12) C10.out r10 (C10.out.blk HD.out hne) rfl o10 F10.out hne hbd (C10.out.nv.vd HV.out hdl)).mono ?_
                  rintro e w11 ⟨rfl, v11x, hc⟩
                  rw [K10.out] at hc
                  have C11 := Lib.hid hc
                  clear hc
                  go_wp2_with fail
                  refine (wrNum (o := 13) C11.out r11 (C11.out.blk HD.out hne) rfl o11 F11.out hne hbd (C11.out.nv.vd HV.out hdl)).mono ?_
                  rintro e w12 ⟨rfl, v12x, hc⟩
                  rw [K11.out] at hc
                  have C12 := Lib.hid hc
                  clear hc
                  go_wp2
                  exact bodyPost_ret (v := .tuple #[]) (by simp [results]) rfl ⟨rfl, _, C12.out⟩
end Go.Proofs.YtckooioikcenmaaGreat

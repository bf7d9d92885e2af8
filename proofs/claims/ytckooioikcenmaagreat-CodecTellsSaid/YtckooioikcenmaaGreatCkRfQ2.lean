/- The pen that writes: rec. Conditions: sizes a machine can have. -/
import Derived.Test.YtckooioikcenmaaGreatCkM13
namespace Go.Proofs.YtckooioikcenmaaGreat
open Go.RowKit
theorem wrTask {base p d : Nat} {v0 v n0 : Value} {st : Pn} {x0 x1 x2 x3 x4 x5 x6 x7 x8 x9 : Int} {w0 w : World} (hs : WrSt base p v0 v st w0 w) (hr : st.rd = false) (_hb : st.bad = false) (hd : w.heap[d]? = some (.cells #[n0, .int .i64 x0, .int .i64 x1, .int .u8 x2, .int .i64 x3, .int .i64 x4, .int .i64 x5, .int .i64 x6, .int .i64 x7, .int .i64 x8, .int .i64 x9] 138)) (ho : cTask.okr (x0, x1, x2, x3, x4, x5, x6, x7, x8, x9)) (_hm : cTask.sm (x0, x1, x2, x3, x4, x5, x6, x7, x8, x9)) (hl : Fits cTask st (x0, x1, x2, x3, x4, x5, x6, x7, x8, x9)) (hne : d ≠ p) (hbd : base ≤ d) (hvd : ∀ k, Value.readBlock v = some k → k ≠ d) :
    Calls Tryz.prog 105 #[.pointer (some ⟨p, 0, none⟩), .pointer (some ⟨d, 1, none⟩)] w (WrPost base p v0 (pC cTask st (x0, x1, x2, x3, x4, x5, x6, x7, x8, x9)).2 w0) := by
  obtain ⟨o0, o1, o2, o3, o4, o5, o6, o7, o8, o9⟩ := ho
  refine (penTask_any base p d v st x0 x1 x2 x3 x4 x5 x6 x7 x8 x9 n0 w hs.pst hd o0 o1 o2 o3 o4 o5 o6 o7 o8 o9 (fun h => by rw [hr] at h; cases h) hl hne hbd hvd).mono ?_
  rintro e w' ⟨rfl, v', h⟩
  rw [pC_fst hr] at h
  exact ⟨rfl, v', hs.trans (h.wr hd)⟩
theorem penHist_wr2 {base p d : Nat} {v0 v : Value} {st : Pn} {x0 : ByteArray} {x1 : Int} {x2 : List DCmd} {v2 : Value} {x3 : List Int} {v3 : Value} {x4 : List DKnown} {v4 : Value} {x5 : List Int} {v5 : Value} {x6 : Bool} {x7 : Bool} {x8 : Int} {x9 : Int} {x10 : Int} {x11 : Int} {nA nB nC nD nE nF : Value} {w0 w : World} (hs : WrSt base p v0 v st w0 w) (hr : st.rd = false) (hb : st.bad = false)
    (hd : w.heap[d]? = some (.cells #[nA, nB, .string x0, .int .i64 x1, v2, v3, v4, v5, .bool x6, .bool x7, .int .i64 x8, .int .i64 x9, .int .i64 x10, .int .i64 x11, nC, nD, nE, nF] 65)) (h2 : LRep mCmd base w v2 x2) (h3 : LRep mI base w v3 x3) (h4 : LRep mKnown base w v4 x4) (h5 : LRep mI base w v5 x5) (ho : cHist.okr (x0, x1, x2, x3, x4, x5, x6, x7, x8, x9, x10, x11)) (hm : cHist.sm (x0, x1, x2, x3, x4, x5, x6, x7, x8, x9, x10, x11)) (hl : Fits cHist st (x0, x1, x2, x3, x4, x5, x6, x7, x8, x9, x10, x11)) (hne : d ≠ p) (hbd : base ≤ d) (hvd : ∀ k, Value.readBlock v = some k → k ≠ d) :
    Calls Tryz.prog 104 #[.pointer (some ⟨p, 0, none⟩), .pointer (some ⟨d, 2, none⟩)] w (WrPost base p v0 (pC cHist st (x0, x1, x2, x3, x4, x5, x6, x7, x8, x9, x10, x11)).2 w0) := by
  refine (penHist_wr base p d v st x0 x1 x2 v2 x3 v3 x4 v4 x5 v5 x6 x7 x8 x9 x10 x11 nA nB nC nD nE nF w hs.pst hr hb hd h2 h3 h4 h5 ho hm hl hne hbd hvd).mono ?_
  rintro e w2 ⟨rfl, v2, h2⟩
  exact ⟨rfl, v2, hs.trans h2⟩
set_option maxRecDepth 20000 in
set_option maxHeartbeats 16000000 in
theorem penRec_wr {base p d : Nat} {v0 v : Value} {st : Pn} {x0 x1 x2 : ByteArray} {x3 : Int} {y0 : ByteArray} {y1 : Int} {y2 : List DCmd} {vy2 : Value} {y3 : List Int} {vy3 : Value} {y4 : List DKnown} {vy4 : Value} {y5 : List Int} {vy5 : Value} {y6 : Bool} {y7 : Bool} {y8 : Int} {y9 : Int} {y10 : Int} {y11 : Int} {x5 : List DAct} {vx5 : Value} {x6 : List DSleep} {vx6 : Value} {w0 w : World} (hs : WrSt base p v0 v st w0 w) (hr : st.rd = false) (hb : st.bad = false)
    (hd : w.heap[d]? = some (.cells #[.string x0, .string x1, .string y0, .int .i64 y1, vy2, vy3, vy4, vy5, .bool y6, .bool y7, .int .i64 y8, .int .i64 y9, .int .i64 y10, .int .i64 y11, vx5, vx6, .string x2, .int .i64 x3] 65)) (hy2 : LRep mCmd base w vy2 y2) (hy3 : LRep mI base w vy3 y3) (hy4 : LRep mKnown base w vy4 y4) (hy5 : LRep mI base w vy5 y5) (hx5 : LRep mAct base w vx5 x5) (hx6 : LRep mSleep base w vx6 x6) (ho : cRec.okr (x0, x1, x2, x3, (y0, y1, y2, y3, y4, y5, y6, y7, y8, y9, y10, y11), x5, x6)) (hm : cRec.sm (x0, x1, x2, x3, (y0, y1, y2, y3, y4, y5, y6, y7, y8, y9, y10, y11), x5, x6)) (hl : Fits cRec st (x0, x1, x2, x3, (y0, y1, y2, y3, y4, y5, y6, y7, y8, y9, y10, y11), x5, x6)) (hne : d ≠ p) (hbd : base ≤ d) (hvd : ∀ k, Value.readBlock v = some k → k ≠ d) :
    Calls Tryz.prog 69 #[.pointer (some ⟨p, 0, none⟩), .pointer (some ⟨d, 0, none⟩)] w (WrPost base p v0 (pC cRec st (x0, x1, x2, x3, (y0, y1, y2, y3, y4, y5, y6, y7, y8, y9, y10, y11), x5, x6)).2 w0) := by
  suffices hq : Calls Tryz.prog 69 #[.pointer (some ⟨p, 0, none⟩), .pointer (some ⟨d, 0, none⟩)] w (WrPost base p v (pC cRec st (x0, x1, x2, x3, (y0, y1, y2, y3, y4, y5, y6, y7, y8, y9, y10, y11), x5, x6)).2 w) by
    refine hq.mono ?_
    rintro e w2 ⟨rfl, v2, h2⟩
    exact ⟨rfl, v2, hs.trans h2⟩
  replace hs := hs.pst
  obtain ⟨Ay2, cy2, rfl⟩ := hy2.form
  have Hy2 := Lib.hid hy2
  clear hy2
  obtain ⟨Ay3, cy3, rfl⟩ := hy3.form
  have Hy3 := Lib.hid hy3
  clear hy3
  obtain ⟨Ay4, cy4, rfl⟩ := hy4.form
  have Hy4 := Lib.hid hy4
  clear hy4
  obtain ⟨Ay5, cy5, rfl⟩ := hy5.form
  have Hy5 := Lib.hid hy5
  clear hy5
  obtain ⟨Ax5, cx5, rfl⟩ := hx5.form
  have Hx5 := Lib.hid hx5
  clear hx5
  obtain ⟨Ax6, cx6, rfl⟩ := hx6.form
  have Hx6 := Lib.hid hx6
  clear hx6
  have r0 := hr
  have b0 := hb
  have f0 : Fits cS st x0 := hl.left
  have hl1 := hl.right
  have r1 : (pC cS st x0).2.rd = false := (pC_rd _ _ _).trans r0
  have b1 : (pC cS st x0).2.bad = false := (pC_bad r0).trans b0
  obtain ⟨s1, k0⟩ : ∃ s, (pC cS st x0).2 = s := ⟨_, rfl⟩
  rw [k0] at r1 b1 hl1
  have f1 : Fits cS s1 x1 := hl1.left
  have hl2 := hl1.right
  have r2 : (pC cS s1 x1).2.rd = false := (pC_rd _ _ _).trans r1
  have b2 : (pC cS s1 x1).2.bad = false := (pC_bad r1).trans b1
  obtain ⟨s2, k1⟩ : ∃ s, (pC cS s1 x1).2 = s := ⟨_, rfl⟩
  rw [k1] at r2 b2 hl2
  have f2 : Fits cS s2 x2 := hl2.left
  have hl3 := hl2.right
  have r3 : (pC cS s2 x2).2.rd = false := (pC_rd _ _ _).trans r2
  have b3 : (pC cS s2 x2).2.bad = false := (pC_bad r2).trans b2
  obtain ⟨s3, k2⟩ : ∃ s, (pC cS s2 x2).2 = s := ⟨_, rfl⟩
  rw [k2] at r3 b3 hl3
  have f3 : Fits cI s3 x3 := hl3.left
  have hl4 := hl3.right
  have r4 : (pC cI s3 x3).2.rd = false := (pC_rd _ _ _).trans r3
  have b4 : (pC cI s3 x3).2.bad = false := (pC_bad r3).trans b3
  obtain ⟨s4, k3⟩ : ∃ s, (pC cI s3 x3).2 = s := ⟨_, rfl⟩
  rw [k3] at r4 b4 hl4
  have f4 : Fits cHist s4 (y0, y1, y2, y3, y4, y5, y6, y7, y8, y9, y10, y11) := hl4.left
  have hl5 := hl4.right
  have r5 : (pC cHist s4 (y0, y1, y2, y3, y4, y5, y6, y7, y8, y9, y10, y11)).2.rd = false := (pC_rd _ _ _).trans r4
  have b5 : (pC cHist s4 (y0, y1, y2, y3, y4, y5, y6, y7, y8, y9, y10, y11)).2.bad = false := (pC_bad r4).trans b4
  obtain ⟨s5, k4⟩ : ∃ s, (pC cHist s4 (y0, y1, y2, y3, y4, y5, y6, y7, y8, y9, y10, y11)).2 = s := ⟨_, rfl⟩
  rw [k4] at r5 b5 hl5
  have f5 : Fits (cL cAct) s5 x5 := hl5.left
  have hl6 := hl5.right
  have r6 : (pC (cL cAct) s5 x5).2.rd = false := (pC_rd _ _ _).trans r5
  have b6 : (pC (cL cAct) s5 x5).2.bad = false := (pC_bad r5).trans b5
  obtain ⟨s6, k5⟩ : ∃ s, (pC (cL cAct) s5 x5).2 = s := ⟨_, rfl⟩
  rw [k5] at r6 b6 hl6
  have f6 : Fits (cL cSleep) s6 x6 := hl6
  have r7 : (pC (cL cSleep) s6 x6).2.rd = false := (pC_rd _ _ _).trans r6
  have b7 : (pC (cL cSleep) s6 x6).2.bad = false := (pC_bad r6).trans b6
  obtain ⟨s7, k6⟩ : ∃ s, (pC (cL cSleep) s6 x6).2 = s := ⟨_, rfl⟩
  rw [k6] at r7 b7
  have HE : Hid ((pC cRec st (x0, x1, x2, x3, (y0, y1, y2, y3, y4, y5, y6, y7, y8, y9, y10, y11), x5, x6)).2 = s7) := by show _ = _; unfold cRec; simp only [pC_seq, k0, k1, k2, k3, k4, k5, k6]
  have F0 := Lib.hid f0
  have K0 := Lib.hid k0
  have o0 := ho.1
  have m0 := hm.1
  have F1 := Lib.hid f1
  have K1 := Lib.hid k1
  have o1 := ho.2.1
  have m1 := hm.2.1
  have F2 := Lib.hid f2
  have K2 := Lib.hid k2
  have o2 := ho.2.2.1
  have m2 := hm.2.2.1
  have F3 := Lib.hid f3
  have K3 := Lib.hid k3
  have o3 := ho.2.2.2.1
  have F4 := Lib.hid f4
  have K4 := Lib.hid k4
  have o4 := ho.2.2.2.2.1
  have m4 := hm.2.2.2.2.1
  have O4 := Lib.hid o4
  have M4 := Lib.hid m4
  clear o4 m4
  have F5 := Lib.hid f5
  have K5 := Lib.hid k5
  have o5 := ho.2.2.2.2.2.1
  have m5 := hm.2.2.2.2.2.1
  have O5 := Lib.hid o5.2
  have M5 := Lib.hid m5.2
  have n5 : (x5).length ≤ 20000 := m5.1
  clear o5 m5
  have F6 := Lib.hid f6
  have K6 := Lib.hid k6
  have o6 := ho.2.2.2.2.2.2
  have m6 := hm.2.2.2.2.2.2
  have O6 := Lib.hid o6.2
  have M6 := Lib.hid m6.2
  have n6 : (x6).length ≤ 20000 := m6.1
  clear o6 m6
  clear f0 k0 f1 k1 f2 k2 f3 k3 f4 k4 f5 k5 f6 k6 hl1 hl2 hl3 hl4 hl5 hl6
  have HD := Lib.hid hd
  have HV := Lib.hid hvd
  have hdl := blk_lt hd
  have hpl := hs.lt
  have hbp := hs.hr
  have hpb : base ≤ w.heap.size := by omega
  have C0 : Hid (WrSt base p v v st w w) := ⟨hs, Chg.refl _ _ _, NewV.refl _ _⟩
  rw [HE.out]
  clear hs hd hvd ho hm hl hr hb HE
  go_enter Tryz.func69, Tryz.ntmps69
  go_wp2_with fail
  refine (wrText (o := 0) C0.out r0 (C0.out.blk HD.out hne) rfl m0 F0.out hne (C0.out.nv.vd HV.out hdl)).mono ?_
  rintro e w1 ⟨rfl, v1x, hc⟩
  rw [K0.out] at hc
  have C1 := Lib.hid hc
  clear hc
  go_wp2_with fail
  refine (wrText (o := 1) C1.out r1 (C1.out.blk HD.out hne) rfl m1 F1.out hne (C1.out.nv.vd HV.out hdl)).mono ?_
  rintro e w2 ⟨rfl, v2x, hc⟩
  rw [K1.out] at hc
  have C2 := Lib.hid hc
  clear hc
  go_wp2_with fail
  refine (wrText (o := 16) C2.out r2 (C2.out.blk HD.out hne) rfl m2 F2.out hne (C2.out.nv.vd HV.out hdl)).mono ?_
  rintro e w3 ⟨rfl, v3x, hc⟩
  rw [K2.out] at hc
  have C3 := Lib.hid hc
  clear hc
  go_wp2_with fail
  refine (wrWhole (o := 17) C3.out r3 (C3.out.blk HD.out hne) rfl o3 F3.out hne hbd (C3.out.nv.vd HV.out hdl)).mono ?_
  rintro e w4 ⟨rfl, v4x, hc⟩
  rw [K3.out] at hc
  have C4 := Lib.hid hc
  clear hc
  go_wp2_with fail
  refine (penHist_wr2 C4.out r4 b4 (C4.out.blk HD.out hne) (Hy2.out.keep mCmd_law (C4.out.chg.below hbp hbp hpb)) (Hy3.out.keep mI_law (C4.out.chg.below hbp hbp hpb)) (Hy4.out.keep mKnown_law (C4.out.chg.below hbp hbp hpb)) (Hy5.out.keep mI_law (C4.out.chg.below hbp hbp hpb)) O4.out M4.out F4.out hne hbd (C4.out.nv.vd HV.out hdl)).mono ?_
  rintro e w5 ⟨rfl, v5x, hc⟩
  rw [K4.out] at hc
  have C5 := Lib.hid hc
  clear hc
  have cl := blk_cell (C5.out.blk HD.out hne) 14
  simp at cl
  go_wp2_with fail
  refine (wrMany (n := (x5).length) C5.out r5 (C5.out.blk HD.out hne) (by omega) (by have := F5.out; unfold Fits at this; omega) hne (C5.out.nv.vd HV.out hdl)).mono ?_
  rintro e w6 ⟨rfl, v6x, hc⟩
  have Q5 := Lib.hid hc
  clear hc cl
  have zy0 : (pM s5 (x5).length).2.rd = false := (pM_rd _ _).trans r5
  have zy1 : (pM s5 (x5).length).2.bad = false := (pM_bad r5).trans b5
  have zy2 := Lib.hid (fun (k : Nat) z (h : (x5)[k]? = some z) => sW_fits r5 F5.out h)
  have zy3 := Lib.hid (sW_end (c := cAct) (xs := x5) r5)
  obtain ⟨q5, hq⟩ : ∃ q, (pM s5 (x5).length).2 = q := ⟨_, rfl⟩
  rw [hq] at Q5 zy0 zy1 zy2 zy3
  clear hq
  go_wp2
  go_loopw [4] (fun ix wl => ∃ k : Nat, ix = .int .i64 k ∧ k ≤ (x5).length ∧ Hid (∃ v1, WrSt base p v v1 (sW cAct q5 x5 k) w wl)) (fun ix _ => (x5).length - (intOf ix).toNat)
  case atStart => exact ⟨0, rfl, by omega, ⟨_, by rw [sW_zero]; exact Q5.out⟩⟩
  case round =>
    obtain ⟨k, rfl, hk, HW⟩ := hrel
    obtain ⟨vk, hW⟩ := HW.out
    obtain ⟨wz, hwr⟩ : ∃ z, z = wr := ⟨_, rfl⟩
    subst hwr
    have tb : wz.cell? ⟨p, 3, none⟩ = some (.bool false) := by rw [blk_cell hW.pst.pn]; show some (Value.bool q5.bad) = _; rw [zy1]
    have tr : wz.cell? ⟨p, 2, none⟩ = some (.bool false) := by rw [blk_cell hW.pst.pn]; show some (Value.bool q5.rd) = _; rw [zy0]
    have cl := blk_cell (hW.blk HD.out hne) 14
    simp at cl
    have CW := Lib.hid hW
    clear HW
    by_cases hlt : k < (x5).length
    · obtain ⟨z, hx⟩ : ∃ n, (x5)[k]? = some n := ⟨(x5)[k], List.getElem?_eq_getElem hlt⟩
      have hmem := List.mem_of_getElem? hx
      have hox := O5.out z hmem
      have hmx := M5.out z hmem
      obtain ⟨ba, oa, us, hA, hbba, hus, hrep⟩ := (Hx5.out.keep mAct_law (hW.chg.below hbp hbp hpb)).at hx
      subst hA
      have hfit := zy2.out k z hx
      have hstep := sW_step (c := cAct) (st := q5) zy0 hx
      obtain ⟨ea0, ea1, ea2, ea3, ea4, ea5, ea6, ea7, ea8, ea9, ea10⟩ := z
      obtain ⟨rfl, _⟩ := mAct_form hrep
      have d0 := hus 0 _ rfl
      have d1 := hus 1 _ rfl
      have d2 := hus 2 _ rfl
      have d3 := hus 3 _ rfl
      have d4 := hus 4 _ rfl
      have d5 := hus 5 _ rfl
      have d6 := hus 6 _ rfl
      have d7 := hus 7 _ rfl
      have d8 := hus 8 _ rfl
      have d9 := hus 9 _ rfl
      have d10 := hus 10 _ rfl
      rw [show mAct.n = 11 from rfl] at d0 d1 d2 d3 d4 d5 d6 d7 d8 d9 d10
      rw [Nat.add_zero] at d0
      obtain ⟨ta0, ht0⟩ : ∃ t, sW cAct q5 x5 k = t := ⟨_, rfl⟩
      have a0 : ta0.rd = false := by rw [← ht0]; exact zy0
      have a1 : ta0.bad = false := by rw [← ht0]; exact zy1
      rw [ht0] at hfit hstep hW
      have ra0 := a0
      have ba0 := a1
      have fa0 : Fits cI ta0 ea0 := hfit.left
      have hla1 := hfit.right
      have ra1 : (pC cI ta0 ea0).2.rd = false := (pC_rd _ _ _).trans ra0
      have ba1 : (pC cI ta0 ea0).2.bad = false := (pC_bad ra0).trans ba0
      obtain ⟨sa1, ka0⟩ : ∃ s, (pC cI ta0 ea0).2 = s := ⟨_, rfl⟩
      rw [ka0] at ra1 ba1 hla1
      have fa1 : Fits cTask sa1 (ea1, ea2, ea3, ea4, ea5, ea6, ea7, ea8, ea9, ea10) := hla1
      have ra2 : (pC cTask sa1 (ea1, ea2, ea3, ea4, ea5, ea6, ea7, ea8, ea9, ea10)).2.rd = false := (pC_rd _ _ _).trans ra1
      have ba2 : (pC cTask sa1 (ea1, ea2, ea3, ea4, ea5, ea6, ea7, ea8, ea9, ea10)).2.bad = false := (pC_bad ra1).trans ba1
      obtain ⟨sa2, ka1⟩ : ∃ s, (pC cTask sa1 (ea1, ea2, ea3, ea4, ea5, ea6, ea7, ea8, ea9, ea10)).2 = s := ⟨_, rfl⟩
      rw [ka1] at ra2 ba2
      have HEa : Hid ((pC cAct ta0 (ea0, (ea1, ea2, ea3, ea4, ea5, ea6, ea7, ea8, ea9, ea10))).2 = sa2) := by show _ = _; unfold cAct; simp only [pC_seq, ka0, ka1]
      have Fa0 := Lib.hid fa0
      have Ka0 := Lib.hid ka0
      have oa0 := hox.1
      have Fa1 := Lib.hid fa1
      have Ka1 := Lib.hid ka1
      have oa1 := hox.2
      have ma1 := hmx.2
      have Oa1 := Lib.hid oa1
      have Ma1 := Lib.hid ma1
      clear oa1 ma1
      clear fa0 ka0 fa1 ka1 hla1
      have HTa : Hid (sa2 = sW cAct q5 x5 (k + 1)) := by show _ = _; exact HEa.out.symm.trans (congrArg Prod.snd hstep)
      clear hfit hstep ht0 a0 a1 hmem hox hmx hus hrep HEa
      have hgea : wz.heap.size ≠ p := by have := hW.pst.lt; omega
      have hbga : base ≤ wz.heap.size := by have := hW.pst.lt; omega
      have HGa : Hid ((wz.alloc (.cells #[.int .i64 ea0, .int .i64 ea1, .int .i64 ea2, .int .u8 ea3, .int .i64 ea4, .int .i64 ea5, .int .i64 ea6, .int .i64 ea7, .int .i64 ea8, .int .i64 ea9, .int .i64 ea10] 138)).heap[wz.heap.size]? = some (.cells #[.int .i64 ea0, .int .i64 ea1, .int .i64 ea2, .int .u8 ea3, .int .i64 ea4, .int .i64 ea5, .int .i64 ea6, .int .i64 ea7, .int .i64 ea8, .int .i64 ea9, .int .i64 ea10] 138)) := alloc_at wz _
      have Ca0 : Hid (WrSt base p vk vk ta0 (wz.alloc (.cells #[.int .i64 ea0, .int .i64 ea1, .int .i64 ea2, .int .u8 ea3, .int .i64 ea4, .int .i64 ea5, .int .i64 ea6, .int .i64 ea7, .int .i64 ea8, .int .i64 ea9, .int .i64 ea10] 138)) (wz.alloc (.cells #[.int .i64 ea0, .int .i64 ea1, .int .i64 ea2, .int .u8 ea3, .int .i64 ea4, .int .i64 ea5, .int .i64 ea6, .int .i64 ea7, .int .i64 ea8, .int .i64 ea9, .int .i64 ea10] 138))) := ⟨own_new hW.pst _, Chg.refl _ _ _, NewV.refl _ _⟩
      have CAa : Hid (WrSt base p v vk ta0 _ (wz.alloc (.cells #[.int .i64 ea0, .int .i64 ea1, .int .i64 ea2, .int .u8 ea3, .int .i64 ea4, .int .i64 ea5, .int .i64 ea6, .int .i64 ea7, .int .i64 ea8, .int .i64 ea9, .int .i64 ea10] 138))) := hW.alloc _
      have VGa : Hid (∀ k, Value.readBlock vk = some k → k ≠ wz.heap.size) := fun k hk => by have := hW.pst.ok.blkLt k hk; omega
      have gla := blk_lt HGa.out
      have pba : base ≤ (wz.alloc (.cells #[.int .i64 ea0, .int .i64 ea1, .int .i64 ea2, .int .u8 ea3, .int .i64 ea4, .int .i64 ea5, .int .i64 ea6, .int .i64 ea7, .int .i64 ea8, .int .i64 ea9, .int .i64 ea10] 138)).heap.size := by simp; omega
      clear hx hW
      go_wp2_with fail
      refine (wrWhole (o := 0) Ca0.out ra0 (Ca0.out.blk HGa.out hgea) rfl oa0 Fa0.out hgea hbga (Ca0.out.nv.vd VGa.out gla)).mono ?_
      rintro e wa1 ⟨rfl, va1x, hc⟩
      rw [Ka0.out] at hc
      have Ca1 := Lib.hid hc
      clear hc
      go_wp2_with fail
      refine (wrTask Ca1.out ra1 ba1 (Ca1.out.blk HGa.out hgea)  Oa1.out Ma1.out Fa1.out hgea hbga (Ca1.out.nv.vd VGa.out gla)).mono ?_
      rintro e wa2 ⟨rfl, va2x, hc⟩
      rw [Ka1.out] at hc
      have Ca2 := Lib.hid hc
      clear hc
      have tr2 := blk_cell Ca2.out.pst.pn 2
      simp [ra2] at tr2
      have CN := Lib.hid (CAa.out.trans Ca2.out)
      rw [HTa.out] at CN
      go_wp2
      go_roundw
      case rel => exact ⟨k + 1, by go_num, by omega, ⟨_, CN.out⟩⟩
      case measure => simp [intOf] <;> omega
    · obtain rfl : k = (x5).length := by omega
      have C6 : Hid (WrSt base p v vk s6 w wz) := by show WrSt _ _ _ _ _ _ _; rw [← K5.out, zy3.out]; exact CW.out
      clear CW hW cl tb tr zy0 zy1 zy2 zy3 Q5 C5
      have cl := blk_cell (C6.out.blk HD.out hne) 15
      simp at cl
      go_wp2_with fail
      refine (wrMany (n := (x6).length) C6.out r6 (C6.out.blk HD.out hne) (by omega) (by have := F6.out; unfold Fits at this; omega) hne (C6.out.nv.vd HV.out hdl)).mono ?_
      rintro e w7 ⟨rfl, v7x, hc⟩
      have Q6 := Lib.hid hc
      clear hc cl
      have zy0 : (pM s6 (x6).length).2.rd = false := (pM_rd _ _).trans r6
      have zy1 : (pM s6 (x6).length).2.bad = false := (pM_bad r6).trans b6
      have zy2 := Lib.hid (fun (k : Nat) z (h : (x6)[k]? = some z) => sW_fits r6 F6.out h)
      have zy3 := Lib.hid (sW_end (c := cSleep) (xs := x6) r6)
      obtain ⟨q6, hq⟩ : ∃ q, (pM s6 (x6).length).2 = q := ⟨_, rfl⟩
      rw [hq] at Q6 zy0 zy1 zy2 zy3
      clear hq
      go_wp2
      go_loopw [7] (fun ix wl => ∃ k : Nat, ix = .int .i64 k ∧ k ≤ (x6).length ∧ Hid (∃ v1, WrSt base p v v1 (sW cSleep q6 x6 k) w wl)) (fun ix _ => (x6).length - (intOf ix).toNat)
      case atStart => exact ⟨0, rfl, by omega, ⟨_, by rw [sW_zero]; exact Q6.out⟩⟩
      case round =>
        obtain ⟨k, rfl, hk, HW⟩ := hrel
        obtain ⟨vk, hW⟩ := HW.out
        obtain ⟨wz, hwr⟩ : ∃ z, z = wr := ⟨_, rfl⟩
        subst hwr
        have tb : wz.cell? ⟨p, 3, none⟩ = some (.bool false) := by rw [blk_cell hW.pst.pn]; show some (Value.bool q6.bad) = _; rw [zy1]
        have tr : wz.cell? ⟨p, 2, none⟩ = some (.bool false) := by rw [blk_cell hW.pst.pn]; show some (Value.bool q6.rd) = _; rw [zy0]
        have cl := blk_cell (hW.blk HD.out hne) 15
        simp at cl
        have CW := Lib.hid hW
        clear HW
        by_cases hlt : k < (x6).length
        · obtain ⟨z, hx⟩ : ∃ n, (x6)[k]? = some n := ⟨(x6)[k], List.getElem?_eq_getElem hlt⟩
          have hmem := List.mem_of_getElem? hx
          have hox := O6.out z hmem
          have hmx := M6.out z hmem
          obtain ⟨ba, oa, us, hA, hbba, hus, hrep⟩ := (Hx6.out.keep mSleep_law (hW.chg.below hbp hbp hpb)).at hx
          subst hA
          have hfit := zy2.out k z hx
          have hstep := sW_step (c := cSleep) (st := q6) zy0 hx
          obtain ⟨ea0, ea1⟩ := z
          obtain rfl := mSleep_form hrep
          have d0 := hus 0 _ rfl
          have d1 := hus 1 _ rfl
          rw [show mSleep.n = 2 from rfl] at d0 d1
          rw [Nat.add_zero] at d0
          obtain ⟨ta0, ht0⟩ : ∃ t, sW cSleep q6 x6 k = t := ⟨_, rfl⟩
          have a0 : ta0.rd = false := by rw [← ht0]; exact zy0
          have a1 : ta0.bad = false := by rw [← ht0]; exact zy1
          rw [ht0] at hfit hstep hW
          have ra0 := a0
          have ba0 := a1
          have fa0 : Fits cI ta0 ea0 := hfit.left
          have hla1 := hfit.right
          have ra1 : (pC cI ta0 ea0).2.rd = false := (pC_rd _ _ _).trans ra0
          have ba1 : (pC cI ta0 ea0).2.bad = false := (pC_bad ra0).trans ba0
          obtain ⟨sa1, ka0⟩ : ∃ s, (pC cI ta0 ea0).2 = s := ⟨_, rfl⟩
          rw [ka0] at ra1 ba1 hla1
          have fa1 : Fits cI sa1 ea1 := hla1
          have ra2 : (pC cI sa1 ea1).2.rd = false := (pC_rd _ _ _).trans ra1
          have ba2 : (pC cI sa1 ea1).2.bad = false := (pC_bad ra1).trans ba1
          obtain ⟨sa2, ka1⟩ : ∃ s, (pC cI sa1 ea1).2 = s := ⟨_, rfl⟩
          rw [ka1] at ra2 ba2
          have HEa : Hid ((pC cSleep ta0 (ea0, ea1)).2 = sa2) := by show _ = _; unfold cSleep; simp only [pC_seq, ka0, ka1]
          have Fa0 := Lib.hid fa0
          have Ka0 := Lib.hid ka0
          have oa0 := hox.1
          have Fa1 := Lib.hid fa1
          have Ka1 := Lib.hid ka1
          have oa1 := hox.2
          clear fa0 ka0 fa1 ka1 hla1
          have HTa : Hid (sa2 = sW cSleep q6 x6 (k + 1)) := by show _ = _; exact HEa.out.symm.trans (congrArg Prod.snd hstep)
          clear hfit hstep ht0 a0 a1 hmem hox hmx hus hrep HEa
          have hgea : wz.heap.size ≠ p := by have := hW.pst.lt; omega
          have hbga : base ≤ wz.heap.size := by have := hW.pst.lt; omega
          have HGa : Hid ((wz.alloc (.cells #[.int .i64 ea0, .int .i64 ea1] 143)).heap[wz.heap.size]? = some (.cells #[.int .i64 ea0, .int .i64 ea1] 143)) := alloc_at wz _
          have Ca0 : Hid (WrSt base p vk vk ta0 (wz.alloc (.cells #[.int .i64 ea0, .int .i64 ea1] 143)) (wz.alloc (.cells #[.int .i64 ea0, .int .i64 ea1] 143))) := ⟨own_new hW.pst _, Chg.refl _ _ _, NewV.refl _ _⟩
          have CAa : Hid (WrSt base p v vk ta0 _ (wz.alloc (.cells #[.int .i64 ea0, .int .i64 ea1] 143))) := hW.alloc _
          have VGa : Hid (∀ k, Value.readBlock vk = some k → k ≠ wz.heap.size) := fun k hk => by have := hW.pst.ok.blkLt k hk; omega
          have gla := blk_lt HGa.out
          have pba : base ≤ (wz.alloc (.cells #[.int .i64 ea0, .int .i64 ea1] 143)).heap.size := by simp; omega
          clear hx hW
          go_wp2_with fail
          refine (wrWhole (o := 0) Ca0.out ra0 (Ca0.out.blk HGa.out hgea) rfl oa0 Fa0.out hgea hbga (Ca0.out.nv.vd VGa.out gla)).mono ?_
          rintro e wa1 ⟨rfl, va1x, hc⟩
          rw [Ka0.out] at hc
          have Ca1 := Lib.hid hc
          clear hc
          go_wp2_with fail
          refine (wrNum (o := 1) Ca1.out ra1 (Ca1.out.blk HGa.out hgea) rfl oa1 Fa1.out hgea hbga (Ca1.out.nv.vd VGa.out gla)).mono ?_
          rintro e wa2 ⟨rfl, va2x, hc⟩
          rw [Ka1.out] at hc
          have Ca2 := Lib.hid hc
          clear hc
          have tr2 := blk_cell Ca2.out.pst.pn 2
          simp [ra2] at tr2
          have CN := Lib.hid (CAa.out.trans Ca2.out)
          rw [HTa.out] at CN
          go_wp2
          go_roundw
          case rel => exact ⟨k + 1, by go_num, by omega, ⟨_, CN.out⟩⟩
          case measure => simp [intOf] <;> omega
        · obtain rfl : k = (x6).length := by omega
          have C7 : Hid (WrSt base p v vk s7 w wz) := by show WrSt _ _ _ _ _ _ _; rw [← K6.out, zy3.out]; exact CW.out
          clear CW hW cl tb tr zy0 zy1 zy2 zy3 Q6 C6
          go_wp2
          exact bodyPost_ret (v := .tuple #[]) (by simp [results]) rfl ⟨rfl, _, C7.out⟩
end Go.Proofs.YtckooioikcenmaaGreat

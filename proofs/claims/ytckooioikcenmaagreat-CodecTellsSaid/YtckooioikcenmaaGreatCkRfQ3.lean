/- The pen that writes: desk. Conditions: sizes a machine can have. -/
import Derived.Test.YtckooioikcenmaaGreatCkRfQ2
namespace Go.Proofs.YtckooioikcenmaaGreat
open Go.RowKit
set_option maxRecDepth 20000 in
set_option maxHeartbeats 16000000 in
theorem penDesk_wr {base p d : Nat} {v0 v : Value} {st : Pn} {x0 : Int} {x1 : List DTurn} {vx1 : Value} {x2 : Int} {x3 : Bool} {x4 : List DLine} {vx4 : Value} {nA nB nC nD nE nF : Value} {w0 w : World} (hs : WrSt base p v0 v st w0 w) (hr : st.rd = false) (hb : st.bad = false)
    (hd : w.heap[d]? = some (.cells #[nA, nB, .int .i64 x0, vx1, .int .i64 x2, .bool x3, vx4, nC, nD, nE, nF] 35)) (hx1 : LRep mTurn base w vx1 x1) (hx4 : LRep mLine base w vx4 x4) (ho : cDesk.okr (x0, x1, x2, x3, x4)) (hm : cDesk.sm (x0, x1, x2, x3, x4)) (hl : Fits cDesk st (x0, x1, x2, x3, x4)) (hne : d ≠ p) (hbd : base ≤ d) (hvd : ∀ k, Value.readBlock v = some k → k ≠ d) :
    Calls Tryz.prog 70 #[.pointer (some ⟨p, 0, none⟩), .pointer (some ⟨d, 2, none⟩)] w (WrPost base p v0 (pC cDesk st (x0, x1, x2, x3, x4)).2 w0) := by
  suffices hq : Calls Tryz.prog 70 #[.pointer (some ⟨p, 0, none⟩), .pointer (some ⟨d, 2, none⟩)] w (WrPost base p v (pC cDesk st (x0, x1, x2, x3, x4)).2 w) by
    refine hq.mono ?_
    rintro e w2 ⟨rfl, v2, h2⟩
    exact ⟨rfl, v2, hs.trans h2⟩
  replace hs := hs.pst
  obtain ⟨Ax1, cx1, rfl⟩ := hx1.form
  have Hx1 := Lib.hid hx1
  clear hx1
  obtain ⟨Ax4, cx4, rfl⟩ := hx4.form
  have Hx4 := Lib.hid hx4
  clear hx4
  have r0 := hr
  have b0 := hb
  have f0 : Fits cI st x0 := hl.left
  have hl1 := hl.right
  have r1 : (pC cI st x0).2.rd = false := (pC_rd _ _ _).trans r0
  have b1 : (pC cI st x0).2.bad = false := (pC_bad r0).trans b0
  obtain ⟨s1, k0⟩ : ∃ s, (pC cI st x0).2 = s := ⟨_, rfl⟩
  rw [k0] at r1 b1 hl1
  have f1 : Fits (cL cTurn) s1 x1 := hl1.left
  have hl2 := hl1.right
  have r2 : (pC (cL cTurn) s1 x1).2.rd = false := (pC_rd _ _ _).trans r1
  have b2 : (pC (cL cTurn) s1 x1).2.bad = false := (pC_bad r1).trans b1
  obtain ⟨s2, k1⟩ : ∃ s, (pC (cL cTurn) s1 x1).2 = s := ⟨_, rfl⟩
  rw [k1] at r2 b2 hl2
  have f2 : Fits cI s2 x2 := hl2.left
  have hl3 := hl2.right
  have r3 : (pC cI s2 x2).2.rd = false := (pC_rd _ _ _).trans r2
  have b3 : (pC cI s2 x2).2.bad = false := (pC_bad r2).trans b2
  obtain ⟨s3, k2⟩ : ∃ s, (pC cI s2 x2).2 = s := ⟨_, rfl⟩
  rw [k2] at r3 b3 hl3
  have f3 : Fits cF s3 x3 := hl3.left
  have hl4 := hl3.right
  have r4 : (pC cF s3 x3).2.rd = false := (pC_rd _ _ _).trans r3
  have b4 : (pC cF s3 x3).2.bad = false := (pC_bad r3).trans b3
  obtain ⟨s4, k3⟩ : ∃ s, (pC cF s3 x3).2 = s := ⟨_, rfl⟩
  rw [k3] at r4 b4 hl4
  have f4 : Fits (cL cLine) s4 x4 := hl4
  have r5 : (pC (cL cLine) s4 x4).2.rd = false := (pC_rd _ _ _).trans r4
  have b5 : (pC (cL cLine) s4 x4).2.bad = false := (pC_bad r4).trans b4
  obtain ⟨s5, k4⟩ : ∃ s, (pC (cL cLine) s4 x4).2 = s := ⟨_, rfl⟩
  rw [k4] at r5 b5
  have HE : Hid ((pC cDesk st (x0, x1, x2, x3, x4)).2 = s5) := by show _ = _; unfold cDesk; simp only [pC_seq, k0, k1, k2, k3, k4]
  have F0 := Lib.hid f0
  have K0 := Lib.hid k0
  have o0 := ho.1
  have F1 := Lib.hid f1
  have K1 := Lib.hid k1
  have o1 := ho.2.1
  have m1 := hm.2.1
  have O1 := Lib.hid o1.2
  have M1 := Lib.hid m1.2
  have n1 : (x1).length ≤ 20000 := m1.1
  clear o1 m1
  have F2 := Lib.hid f2
  have K2 := Lib.hid k2
  have o2 := ho.2.2.1
  have F3 := Lib.hid f3
  have K3 := Lib.hid k3
  have F4 := Lib.hid f4
  have K4 := Lib.hid k4
  have o4 := ho.2.2.2.2
  have m4 := hm.2.2.2.2
  have O4 := Lib.hid o4.2
  have M4 := Lib.hid m4.2
  have n4 : (x4).length ≤ 20000 := m4.1
  clear o4 m4
  clear f0 k0 f1 k1 f2 k2 f3 k3 f4 k4 hl1 hl2 hl3 hl4
  have HD := Lib.hid hd
  have HV := Lib.hid hvd
  have hdl := blk_lt hd
  have hpl := hs.lt
  have hbp := hs.hr
  have hpb : base ≤ w.heap.size := by omega
  have C0 : Hid (WrSt base p v v st w w) := ⟨hs, Chg.refl _ _ _, NewV.refl _ _⟩
  rw [HE.out]
  clear hs hd hvd ho hm hl hr hb HE
  go_enter Tryz.func70, Tryz.ntmps70
  go_wp2_with fail
  refine (wrWhole (o := 2) C0.out r0 (C0.out.blk HD.out hne) rfl o0 F0.out hne hbd (C0.out.nv.vd HV.out hdl)).mono ?_
  rintro e w1 ⟨rfl, v1x, hc⟩
  rw [K0.out] at hc
  have C1 := Lib.hid hc
  clear hc
  have cl := blk_cell (C1.out.blk HD.out hne) 3
  simp at cl
  go_wp2_with fail
  refine (wrMany (n := (x1).length) C1.out r1 (C1.out.blk HD.out hne) (by omega) (by have := F1.out; unfold Fits at this; omega) hne (C1.out.nv.vd HV.out hdl)).mono ?_
  rintro e w2 ⟨rfl, v2x, hc⟩
  have Q1 := Lib.hid hc
  clear hc cl
  have zy0 : (pM s1 (x1).length).2.rd = false := (pM_rd _ _).trans r1
  have zy1 : (pM s1 (x1).length).2.bad = false := (pM_bad r1).trans b1
  have zy2 := Lib.hid (fun (k : Nat) z (h : (x1)[k]? = some z) => sW_fits r1 F1.out h)
  have zy3 := Lib.hid (sW_end (c := cTurn) (xs := x1) r1)
  obtain ⟨q1, hq⟩ : ∃ q, (pM s1 (x1).length).2 = q := ⟨_, rfl⟩
  rw [hq] at Q1 zy0 zy1 zy2 zy3
  clear hq
  go_wp2
  go_loopw [4] (fun ix wl => ∃ k : Nat, ix = .int .i64 k ∧ k ≤ (x1).length ∧ Hid (∃ v1, WrSt base p v v1 (sW cTurn q1 x1 k) w wl)) (fun ix _ => (x1).length - (intOf ix).toNat)
  case atStart => exact ⟨0, rfl, by omega, ⟨_, by rw [sW_zero]; exact Q1.out⟩⟩
  case round =>
    obtain ⟨k, rfl, hk, HW⟩ := hrel
    obtain ⟨vk, hW⟩ := HW.out
    obtain ⟨wz, hwr⟩ : ∃ z, z = wr := ⟨_, rfl⟩
    subst hwr
    have tb : wz.cell? ⟨p, 3, none⟩ = some (.bool false) := by rw [blk_cell hW.pst.pn]; show some (Value.bool q1.bad) = _; rw [zy1]
    have tr : wz.cell? ⟨p, 2, none⟩ = some (.bool false) := by rw [blk_cell hW.pst.pn]; show some (Value.bool q1.rd) = _; rw [zy0]
    have cl := blk_cell (hW.blk HD.out hne) 3
    simp at cl
    have CW := Lib.hid hW
    clear HW
    by_cases hlt : k < (x1).length
    · obtain ⟨z, hx⟩ : ∃ n, (x1)[k]? = some n := ⟨(x1)[k], List.getElem?_eq_getElem hlt⟩
      have hmem := List.mem_of_getElem? hx
      have hox := O1.out z hmem
      have hmx := M1.out z hmem
      obtain ⟨ba, oa, us, hA, hbba, hus, hrep⟩ := (Hx1.out.keep mTurn_law (hW.chg.below hbp hbp hpb)).at hx
      subst hA
      have hfit := zy2.out k z hx
      have hstep := sW_step (c := cTurn) (st := q1) zy0 hx
      obtain ⟨ea0, ea1, ea2⟩ := z
      obtain rfl := mTurn_form hrep
      have d0 := hus 0 _ rfl
      have d1 := hus 1 _ rfl
      have d2 := hus 2 _ rfl
      rw [show mTurn.n = 3 from rfl] at d0 d1 d2
      rw [Nat.add_zero] at d0
      obtain ⟨ta0, ht0⟩ : ∃ t, sW cTurn q1 x1 k = t := ⟨_, rfl⟩
      have a0 : ta0.rd = false := by rw [← ht0]; exact zy0
      have a1 : ta0.bad = false := by rw [← ht0]; exact zy1
      rw [ht0] at hfit hstep hW
      have ra0 := a0
      have ba0 := a1
      have fa0 : Fits cS ta0 ea0 := hfit.left
      have hla1 := hfit.right
      have ra1 : (pC cS ta0 ea0).2.rd = false := (pC_rd _ _ _).trans ra0
      have ba1 : (pC cS ta0 ea0).2.bad = false := (pC_bad ra0).trans ba0
      obtain ⟨sa1, ka0⟩ : ∃ s, (pC cS ta0 ea0).2 = s := ⟨_, rfl⟩
      rw [ka0] at ra1 ba1 hla1
      have fa1 : Fits cI sa1 ea1 := hla1.left
      have hla2 := hla1.right
      have ra2 : (pC cI sa1 ea1).2.rd = false := (pC_rd _ _ _).trans ra1
      have ba2 : (pC cI sa1 ea1).2.bad = false := (pC_bad ra1).trans ba1
      obtain ⟨sa2, ka1⟩ : ∃ s, (pC cI sa1 ea1).2 = s := ⟨_, rfl⟩
      rw [ka1] at ra2 ba2 hla2
      have fa2 : Fits cI sa2 ea2 := hla2
      have ra3 : (pC cI sa2 ea2).2.rd = false := (pC_rd _ _ _).trans ra2
      have ba3 : (pC cI sa2 ea2).2.bad = false := (pC_bad ra2).trans ba2
      obtain ⟨sa3, ka2⟩ : ∃ s, (pC cI sa2 ea2).2 = s := ⟨_, rfl⟩
      rw [ka2] at ra3 ba3
      have HEa : Hid ((pC cTurn ta0 (ea0, ea1, ea2)).2 = sa3) := by show _ = _; unfold cTurn; simp only [pC_seq, ka0, ka1, ka2]
      have Fa0 := Lib.hid fa0
      have Ka0 := Lib.hid ka0
      have oa0 := hox.1
      have ma0 := hmx.1
      have Fa1 := Lib.hid fa1
      have Ka1 := Lib.hid ka1
      have oa1 := hox.2.1
      have Fa2 := Lib.hid fa2
      have Ka2 := Lib.hid ka2
      have oa2 := hox.2.2
      clear fa0 ka0 fa1 ka1 fa2 ka2 hla1 hla2
      have HTa : Hid (sa3 = sW cTurn q1 x1 (k + 1)) := by show _ = _; exact HEa.out.symm.trans (congrArg Prod.snd hstep)
      clear hfit hstep ht0 a0 a1 hmem hox hmx hus hrep HEa
      have hgea : wz.heap.size ≠ p := by have := hW.pst.lt; omega
      have hbga : base ≤ wz.heap.size := by have := hW.pst.lt; omega
      have HGa : Hid ((wz.alloc (.cells #[.string ea0, .int .i64 ea1, .int .i64 ea2] 147)).heap[wz.heap.size]? = some (.cells #[.string ea0, .int .i64 ea1, .int .i64 ea2] 147)) := alloc_at wz _
      have Ca0 : Hid (WrSt base p vk vk ta0 (wz.alloc (.cells #[.string ea0, .int .i64 ea1, .int .i64 ea2] 147)) (wz.alloc (.cells #[.string ea0, .int .i64 ea1, .int .i64 ea2] 147))) := ⟨own_new hW.pst _, Chg.refl _ _ _, NewV.refl _ _⟩
      have CAa : Hid (WrSt base p v vk ta0 _ (wz.alloc (.cells #[.string ea0, .int .i64 ea1, .int .i64 ea2] 147))) := hW.alloc _
      have VGa : Hid (∀ k, Value.readBlock vk = some k → k ≠ wz.heap.size) := fun k hk => by have := hW.pst.ok.blkLt k hk; omega
      have gla := blk_lt HGa.out
      have pba : base ≤ (wz.alloc (.cells #[.string ea0, .int .i64 ea1, .int .i64 ea2] 147)).heap.size := by simp; omega
      clear hx hW
      go_wp2_with fail
      refine (wrText (o := 0) Ca0.out ra0 (Ca0.out.blk HGa.out hgea) rfl ma0 Fa0.out hgea (Ca0.out.nv.vd VGa.out gla)).mono ?_
      rintro e wa1 ⟨rfl, va1x, hc⟩
      rw [Ka0.out] at hc
      have Ca1 := Lib.hid hc
      clear hc
      go_wp2_with fail
      refine (wrWhole (o := 1) Ca1.out ra1 (Ca1.out.blk HGa.out hgea) rfl oa1 Fa1.out hgea hbga (Ca1.out.nv.vd VGa.out gla)).mono ?_
      rintro e wa2 ⟨rfl, va2x, hc⟩
      rw [Ka1.out] at hc
      have Ca2 := Lib.hid hc
      clear hc
      go_wp2_with fail
      refine (wrNum (o := 2) Ca2.out ra2 (Ca2.out.blk HGa.out hgea) rfl oa2 Fa2.out hgea hbga (Ca2.out.nv.vd VGa.out gla)).mono ?_
      rintro e wa3 ⟨rfl, va3x, hc⟩
      rw [Ka2.out] at hc
      have Ca3 := Lib.hid hc
      clear hc
      have tr2 := blk_cell Ca3.out.pst.pn 2
      simp [ra3] at tr2
      have CN := Lib.hid (CAa.out.trans Ca3.out)
      rw [HTa.out] at CN
      go_wp2
      go_roundw
      case rel => exact ⟨k + 1, by go_num, by omega, ⟨_, CN.out⟩⟩
      case measure => simp [intOf] <;> omega
    · obtain rfl : k = (x1).length := by omega
      have C2 : Hid (WrSt base p v vk s2 w wz) := by show WrSt _ _ _ _ _ _ _; rw [← K1.out, zy3.out]; exact CW.out
      clear CW hW cl tb tr zy0 zy1 zy2 zy3 Q1 C1
      go_wp2_with fail
      refine (wrWhole (o := 4) C2.out r2 (C2.out.blk HD.out hne) rfl o2 F2.out hne hbd (C2.out.nv.vd HV.out hdl)).mono ?_
      rintro e w3 ⟨rfl, v3x, hc⟩
      rw [K2.out] at hc
      have C3 := Lib.hid hc
      clear hc
      go_wp2_with fail
      refine (wrFlag (o := 5) C3.out r3 (C3.out.blk HD.out hne) rfl  F3.out hne hbd (C3.out.nv.vd HV.out hdl)).mono ?_
      rintro e w4 ⟨rfl, v4x, hc⟩
      rw [K3.out] at hc
      have C4 := Lib.hid hc
      clear hc
      have cl := blk_cell (C4.out.blk HD.out hne) 6
      simp at cl
      go_wp2_with fail
      refine (wrMany (n := (x4).length) C4.out r4 (C4.out.blk HD.out hne) (by omega) (by have := F4.out; unfold Fits at this; omega) hne (C4.out.nv.vd HV.out hdl)).mono ?_
      rintro e w5 ⟨rfl, v5x, hc⟩
      have Q4 := Lib.hid hc
      clear hc cl
      have zy0 : (pM s4 (x4).length).2.rd = false := (pM_rd _ _).trans r4
      have zy1 : (pM s4 (x4).length).2.bad = false := (pM_bad r4).trans b4
      have zy2 := Lib.hid (fun (k : Nat) z (h : (x4)[k]? = some z) => sW_fits r4 F4.out h)
      have zy3 := Lib.hid (sW_end (c := cLine) (xs := x4) r4)
      obtain ⟨q4, hq⟩ : ∃ q, (pM s4 (x4).length).2 = q := ⟨_, rfl⟩
      rw [hq] at Q4 zy0 zy1 zy2 zy3
      clear hq
      go_wp2
      go_loopw [7] (fun ix wl => ∃ k : Nat, ix = .int .i64 k ∧ k ≤ (x4).length ∧ Hid (∃ v1, WrSt base p v v1 (sW cLine q4 x4 k) w wl)) (fun ix _ => (x4).length - (intOf ix).toNat)
      case atStart => exact ⟨0, rfl, by omega, ⟨_, by rw [sW_zero]; exact Q4.out⟩⟩
      case round =>
        obtain ⟨k, rfl, hk, HW⟩ := hrel
        obtain ⟨vk, hW⟩ := HW.out
        obtain ⟨wz, hwr⟩ : ∃ z, z = wr := ⟨_, rfl⟩
        subst hwr
        have tb : wz.cell? ⟨p, 3, none⟩ = some (.bool false) := by rw [blk_cell hW.pst.pn]; show some (Value.bool q4.bad) = _; rw [zy1]
        have tr : wz.cell? ⟨p, 2, none⟩ = some (.bool false) := by rw [blk_cell hW.pst.pn]; show some (Value.bool q4.rd) = _; rw [zy0]
        have cl := blk_cell (hW.blk HD.out hne) 6
        simp at cl
        have CW := Lib.hid hW
        clear HW
        by_cases hlt : k < (x4).length
        · obtain ⟨z, hx⟩ : ∃ n, (x4)[k]? = some n := ⟨(x4)[k], List.getElem?_eq_getElem hlt⟩
          have hmem := List.mem_of_getElem? hx
          have hox := O4.out z hmem
          have hmx := M4.out z hmem
          obtain ⟨ba, oa, us, hA, hbba, hus, hrep⟩ := (Hx4.out.keep mLine_law (hW.chg.below hbp hbp hpb)).at hx
          subst hA
          have hfit := zy2.out k z hx
          have hstep := sW_step (c := cLine) (st := q4) zy0 hx
          obtain ⟨ea0, ea1, ea2⟩ := z
          obtain ⟨vv2, rfl, jj2⟩ := mLine_form hrep
          obtain ⟨Aa2, ca2, rfl⟩ := jj2.form
          have d0 := hus 0 _ rfl
          have d1 := hus 1 _ rfl
          have d2 := hus 2 _ rfl
          rw [show mLine.n = 3 from rfl] at d0 d1 d2
          rw [Nat.add_zero] at d0
          obtain ⟨ta0, ht0⟩ : ∃ t, sW cLine q4 x4 k = t := ⟨_, rfl⟩
          have a0 : ta0.rd = false := by rw [← ht0]; exact zy0
          have a1 : ta0.bad = false := by rw [← ht0]; exact zy1
          rw [ht0] at hfit hstep hW
          have ra0 := a0
          have ba0 := a1
          have fa0 : Fits cS ta0 ea0 := hfit.left
          have hla1 := hfit.right
          have ra1 : (pC cS ta0 ea0).2.rd = false := (pC_rd _ _ _).trans ra0
          have ba1 : (pC cS ta0 ea0).2.bad = false := (pC_bad ra0).trans ba0
          obtain ⟨sa1, ka0⟩ : ∃ s, (pC cS ta0 ea0).2 = s := ⟨_, rfl⟩
          rw [ka0] at ra1 ba1 hla1
          have fa1 : Fits cI sa1 ea1 := hla1.left
          have hla2 := hla1.right
          have ra2 : (pC cI sa1 ea1).2.rd = false := (pC_rd _ _ _).trans ra1
          have ba2 : (pC cI sa1 ea1).2.bad = false := (pC_bad ra1).trans ba1
          obtain ⟨sa2, ka1⟩ : ∃ s, (pC cI sa1 ea1).2 = s := ⟨_, rfl⟩
          rw [ka1] at ra2 ba2 hla2
          have fa2 : Fits (cL cItem) sa2 ea2 := hla2
          have ra3 : (pC (cL cItem) sa2 ea2).2.rd = false := (pC_rd _ _ _).trans ra2
          have ba3 : (pC (cL cItem) sa2 ea2).2.bad = false := (pC_bad ra2).trans ba2
          obtain ⟨sa3, ka2⟩ : ∃ s, (pC (cL cItem) sa2 ea2).2 = s := ⟨_, rfl⟩
          rw [ka2] at ra3 ba3
          have HEa : Hid ((pC cLine ta0 (ea0, ea1, ea2)).2 = sa3) := by show _ = _; unfold cLine; simp only [pC_seq, ka0, ka1, ka2]
          have Fa0 := Lib.hid fa0
          have Ka0 := Lib.hid ka0
          have oa0 := hox.1
          have ma0 := hmx.1
          have Fa1 := Lib.hid fa1
          have Ka1 := Lib.hid ka1
          have oa1 := hox.2.1
          have Fa2 := Lib.hid fa2
          have Ka2 := Lib.hid ka2
          have oa2 := hox.2.2
          have ma2 := hmx.2.2
          have Oa2 := Lib.hid oa2.2
          have Ma2 := Lib.hid ma2.2
          have na2 : (ea2).length ≤ 20000 := ma2.1
          clear oa2 ma2
          clear fa0 ka0 fa1 ka1 fa2 ka2 hla1 hla2
          have HTa : Hid (sa3 = sW cLine q4 x4 (k + 1)) := by show _ = _; exact HEa.out.symm.trans (congrArg Prod.snd hstep)
          clear hfit hstep ht0 a0 a1 hmem hox hmx hus hrep HEa
          have hgea : wz.heap.size ≠ p := by have := hW.pst.lt; omega
          have hbga : base ≤ wz.heap.size := by have := hW.pst.lt; omega
          have HGa : Hid ((wz.alloc (.cells #[.string ea0, .int .i64 ea1, .slice Aa2 (ea2).length ca2] 120)).heap[wz.heap.size]? = some (.cells #[.string ea0, .int .i64 ea1, .slice Aa2 (ea2).length ca2] 120)) := alloc_at wz _
          have Ca0 : Hid (WrSt base p vk vk ta0 (wz.alloc (.cells #[.string ea0, .int .i64 ea1, .slice Aa2 (ea2).length ca2] 120)) (wz.alloc (.cells #[.string ea0, .int .i64 ea1, .slice Aa2 (ea2).length ca2] 120))) := ⟨own_new hW.pst _, Chg.refl _ _ _, NewV.refl _ _⟩
          have CAa : Hid (WrSt base p v vk ta0 _ (wz.alloc (.cells #[.string ea0, .int .i64 ea1, .slice Aa2 (ea2).length ca2] 120))) := hW.alloc _
          have VGa : Hid (∀ k, Value.readBlock vk = some k → k ≠ wz.heap.size) := fun k hk => by have := hW.pst.ok.blkLt k hk; omega
          have gla := blk_lt HGa.out
          have Ja2 : Hid (LRep mItem base (wz.alloc (.cells #[.string ea0, .int .i64 ea1, .slice Aa2 (ea2).length ca2] 120)) (.slice Aa2 (ea2).length ca2) ea2) := jj2.keep mItem_law ((Below.refl base wz).alloc hbga _)
          have pba : base ≤ (wz.alloc (.cells #[.string ea0, .int .i64 ea1, .slice Aa2 (ea2).length ca2] 120)).heap.size := by simp; omega
          clear jj2
          clear hx hW
          go_wp2_with fail
          refine (wrText (o := 0) Ca0.out ra0 (Ca0.out.blk HGa.out hgea) rfl ma0 Fa0.out hgea (Ca0.out.nv.vd VGa.out gla)).mono ?_
          rintro e wa1 ⟨rfl, va1x, hc⟩
          rw [Ka0.out] at hc
          have Ca1 := Lib.hid hc
          clear hc
          go_wp2_with fail
          refine (wrWhole (o := 1) Ca1.out ra1 (Ca1.out.blk HGa.out hgea) rfl oa1 Fa1.out hgea hbga (Ca1.out.nv.vd VGa.out gla)).mono ?_
          rintro e wa2 ⟨rfl, va2x, hc⟩
          rw [Ka1.out] at hc
          have Ca2 := Lib.hid hc
          clear hc
          have cl := blk_cell (Ca2.out.blk HGa.out hgea) 2
          simp at cl
          go_wp2_with fail
          refine (wrMany (n := (ea2).length) Ca2.out ra2 (Ca2.out.blk HGa.out hgea) (by omega) (by have := Fa2.out; unfold Fits at this; omega) hgea (Ca2.out.nv.vd VGa.out gla)).mono ?_
          rintro e wa3 ⟨rfl, va3x, hc⟩
          have Qa2 := Lib.hid hc
          clear hc cl
          have zya0 : (pM sa2 (ea2).length).2.rd = false := (pM_rd _ _).trans ra2
          have zya1 : (pM sa2 (ea2).length).2.bad = false := (pM_bad ra2).trans ba2
          have zya2 := Lib.hid (fun (k : Nat) z (h : (ea2)[k]? = some z) => sW_fits ra2 Fa2.out h)
          have zya3 := Lib.hid (sW_end (c := cItem) (xs := ea2) ra2)
          obtain ⟨qa2, hq⟩ : ∃ q, (pM sa2 (ea2).length).2 = q := ⟨_, rfl⟩
          rw [hq] at Qa2 zya0 zya1 zya2 zya3
          clear hq
          go_wp2
          go_loopw [10] (fun ix wl => ∃ k : Nat, ix = .int .i64 k ∧ k ≤ (ea2).length ∧ Hid (∃ v1, WrSt base p vk v1 (sW cItem qa2 ea2 k) (wz.alloc (.cells #[.string ea0, .int .i64 ea1, .slice Aa2 (ea2).length ca2] 120)) wl)) (fun ix _ => (ea2).length - (intOf ix).toNat)
          case atStart => exact ⟨0, rfl, by omega, ⟨_, by rw [sW_zero]; exact Qa2.out⟩⟩
          case round =>
            obtain ⟨ka, rfl, hka, HW⟩ := hrel
            obtain ⟨vka, hW⟩ := HW.out
            obtain ⟨wza, hwr⟩ : ∃ z, z = wr := ⟨_, rfl⟩
            subst hwr
            have tb : wza.cell? ⟨p, 3, none⟩ = some (.bool false) := by rw [blk_cell hW.pst.pn]; show some (Value.bool qa2.bad) = _; rw [zya1]
            have tr : wza.cell? ⟨p, 2, none⟩ = some (.bool false) := by rw [blk_cell hW.pst.pn]; show some (Value.bool qa2.rd) = _; rw [zya0]
            have cl := blk_cell (hW.blk HGa.out hgea) 2
            simp at cl
            have CWa := Lib.hid hW
            clear HW
            by_cases hlta : ka < (ea2).length
            · obtain ⟨z, hx⟩ : ∃ n, (ea2)[ka]? = some n := ⟨(ea2)[ka], List.getElem?_eq_getElem hlta⟩
              have hmem := List.mem_of_getElem? hx
              have hox := Oa2.out z hmem
              have hmx := Ma2.out z hmem
              obtain ⟨baa, oaa, us, hA, hbbaa, hus, hrep⟩ := (Ja2.out.keep mItem_law (hW.chg.below hbp hbp pba)).at hx
              subst hA
              have hfit := zya2.out ka z hx
              have hstep := sW_step (c := cItem) (st := qa2) zya0 hx
              obtain ⟨eaa0, eaa1⟩ := z
              obtain rfl := mItem_form hrep
              have d0 := hus 0 _ rfl
              have d1 := hus 1 _ rfl
              rw [show mItem.n = 2 from rfl] at d0 d1
              rw [Nat.add_zero] at d0
              obtain ⟨taa0, ht0⟩ : ∃ t, sW cItem qa2 ea2 ka = t := ⟨_, rfl⟩
              have a0 : taa0.rd = false := by rw [← ht0]; exact zya0
              have a1 : taa0.bad = false := by rw [← ht0]; exact zya1
              rw [ht0] at hfit hstep hW
              have raa0 := a0
              have baa0 := a1
              have faa0 : Fits cI taa0 eaa0 := hfit.left
              have hlaa1 := hfit.right
              have raa1 : (pC cI taa0 eaa0).2.rd = false := (pC_rd _ _ _).trans raa0
              have baa1 : (pC cI taa0 eaa0).2.bad = false := (pC_bad raa0).trans baa0
              obtain ⟨saa1, kaa0⟩ : ∃ s, (pC cI taa0 eaa0).2 = s := ⟨_, rfl⟩
              rw [kaa0] at raa1 baa1 hlaa1
              have faa1 : Fits cI saa1 eaa1 := hlaa1
              have raa2 : (pC cI saa1 eaa1).2.rd = false := (pC_rd _ _ _).trans raa1
              have baa2 : (pC cI saa1 eaa1).2.bad = false := (pC_bad raa1).trans baa1
              obtain ⟨saa2, kaa1⟩ : ∃ s, (pC cI saa1 eaa1).2 = s := ⟨_, rfl⟩
              rw [kaa1] at raa2 baa2
              have HEaa : Hid ((pC cItem taa0 (eaa0, eaa1)).2 = saa2) := by show _ = _; unfold cItem; simp only [pC_seq, kaa0, kaa1]
              have Faa0 := Lib.hid faa0
              have Kaa0 := Lib.hid kaa0
              have oaa0 := hox.1
              have Faa1 := Lib.hid faa1
              have Kaa1 := Lib.hid kaa1
              have oaa1 := hox.2
              clear faa0 kaa0 faa1 kaa1 hlaa1
              have HTaa : Hid (saa2 = sW cItem qa2 ea2 (ka + 1)) := by show _ = _; exact HEaa.out.symm.trans (congrArg Prod.snd hstep)
              clear hfit hstep ht0 a0 a1 hmem hox hmx hus hrep HEaa
              have hgeaa : wza.heap.size ≠ p := by have := hW.pst.lt; omega
              have hbgaa : base ≤ wza.heap.size := by have := hW.pst.lt; omega
              have HGaa : Hid ((wza.alloc (.cells #[.int .i64 eaa0, .int .i64 eaa1] 152)).heap[wza.heap.size]? = some (.cells #[.int .i64 eaa0, .int .i64 eaa1] 152)) := alloc_at wza _
              have Caa0 : Hid (WrSt base p vka vka taa0 (wza.alloc (.cells #[.int .i64 eaa0, .int .i64 eaa1] 152)) (wza.alloc (.cells #[.int .i64 eaa0, .int .i64 eaa1] 152))) := ⟨own_new hW.pst _, Chg.refl _ _ _, NewV.refl _ _⟩
              have CAaa : Hid (WrSt base p vk vka taa0 _ (wza.alloc (.cells #[.int .i64 eaa0, .int .i64 eaa1] 152))) := hW.alloc _
              have VGaa : Hid (∀ k, Value.readBlock vka = some k → k ≠ wza.heap.size) := fun k hk => by have := hW.pst.ok.blkLt k hk; omega
              have glaa := blk_lt HGaa.out
              have pbaa : base ≤ (wza.alloc (.cells #[.int .i64 eaa0, .int .i64 eaa1] 152)).heap.size := by simp; omega
              clear hx hW
              go_wp2_with fail
              refine (wrWhole (o := 0) Caa0.out raa0 (Caa0.out.blk HGaa.out hgeaa) rfl oaa0 Faa0.out hgeaa hbgaa (Caa0.out.nv.vd VGaa.out glaa)).mono ?_
              rintro e waa1 ⟨rfl, vaa1x, hc⟩
              rw [Kaa0.out] at hc
              have Caa1 := Lib.hid hc
              clear hc
              go_wp2_with fail
              refine (wrWhole (o := 1) Caa1.out raa1 (Caa1.out.blk HGaa.out hgeaa) rfl oaa1 Faa1.out hgeaa hbgaa (Caa1.out.nv.vd VGaa.out glaa)).mono ?_
              rintro e waa2 ⟨rfl, vaa2x, hc⟩
              rw [Kaa1.out] at hc
              have Caa2 := Lib.hid hc
              clear hc
              have tr2 := blk_cell Caa2.out.pst.pn 2
              simp [raa2] at tr2
              have CN := Lib.hid (CAaa.out.trans Caa2.out)
              rw [HTaa.out] at CN
              go_wp2
              go_roundw
              case rel => exact ⟨ka + 1, by go_num, by omega, ⟨_, CN.out⟩⟩
              case measure => simp [intOf] <;> omega
            · obtain rfl : ka = (ea2).length := by omega
              have Ca3 : Hid (WrSt base p vk vka sa3 (wz.alloc (.cells #[.string ea0, .int .i64 ea1, .slice Aa2 (ea2).length ca2] 120)) wza) := by show WrSt _ _ _ _ _ _ _; rw [← Ka2.out, zya3.out]; exact CWa.out
              clear CWa hW cl tb tr zya0 zya1 zya2 zya3 Qa2 Ca2
              have tr2 := blk_cell Ca3.out.pst.pn 2
              simp [ra3] at tr2
              have CN := Lib.hid (CAa.out.trans Ca3.out)
              rw [HTa.out] at CN
              go_wp2
              go_roundw
              case rel => exact ⟨k + 1, by go_num, by omega, ⟨_, CN.out⟩⟩
              case measure => simp [intOf] <;> omega
        · obtain rfl : k = (x4).length := by omega
          have C5 : Hid (WrSt base p v vk s5 w wz) := by show WrSt _ _ _ _ _ _ _; rw [← K4.out, zy3.out]; exact CW.out
          clear CW hW cl tb tr zy0 zy1 zy2 zy3 Q4 C4
          go_wp2
          exact bodyPost_ret (v := .tuple #[]) (by simp [results]) rfl ⟨rfl, _, C5.out⟩
end Go.Proofs.YtckooioikcenmaaGreat

/- The pen that writes: shop. Conditions: sizes a machine can have. -/
import Derived.Test.YtckooioikcenmaaGreatCkRfQ3
import Derived.Test.YtckooioikcenmaaGreatCkM12
namespace Go.Proofs.YtckooioikcenmaaGreat
open Go.RowKit
set_option maxRecDepth 20000 in
set_option maxHeartbeats 16000000 in
theorem penShop_wr {base p d : Nat} {v0 v : Value} {st : Pn} {x0 : Int} {x1 : List DRec} {vx1 : Value} {y0 : Int} {y1 : List DTurn} {vy1 : Value} {y2 : Int} {y3 : Bool} {y4 : List DLine} {vy4 : Value} {x3 : List DJob} {vx3 : Value} {x4 : Int} {x5 : List DWorker} {vx5 : Value} {x6 : Bool} {w0 w : World} (hs : WrSt base p v0 v st w0 w) (hr : st.rd = false) (hb : st.bad = false)
    (hd : w.heap[d]? = some (.cells #[.int .i64 x0, vx1, .int .i64 y0, vy1, .int .i64 y2, .bool y3, vy4, vx3, .int .i64 x4, vx5, .bool x6] 35)) (hx1 : LRep mRec base w vx1 x1) (hy1 : LRep mTurn base w vy1 y1) (hy4 : LRep mLine base w vy4 y4) (hx3 : LRep mJob base w vx3 x3) (hx5 : LRep mWorker base w vx5 x5) (ho : cShop.okr (x0, x1, (y0, y1, y2, y3, y4), x3, x4, x5, x6)) (hm : cShop.sm (x0, x1, (y0, y1, y2, y3, y4), x3, x4, x5, x6)) (hl : Fits cShop st (x0, x1, (y0, y1, y2, y3, y4), x3, x4, x5, x6)) (hne : d ≠ p) (hbd : base ≤ d) (hvd : ∀ k, Value.readBlock v = some k → k ≠ d) :
    Calls Tryz.prog 31 #[.pointer (some ⟨p, 0, none⟩), .pointer (some ⟨d, 0, none⟩)] w (WrPost base p v0 (pC cShop st (x0, x1, (y0, y1, y2, y3, y4), x3, x4, x5, x6)).2 w0) := by
  suffices hq : Calls Tryz.prog 31 #[.pointer (some ⟨p, 0, none⟩), .pointer (some ⟨d, 0, none⟩)] w (WrPost base p v (pC cShop st (x0, x1, (y0, y1, y2, y3, y4), x3, x4, x5, x6)).2 w) by
    refine hq.mono ?_
    rintro e w2 ⟨rfl, v2, h2⟩
    exact ⟨rfl, v2, hs.trans h2⟩
  replace hs := hs.pst
  obtain ⟨Ax1, cx1, rfl⟩ := hx1.form
  have Hx1 := Lib.hid hx1
  clear hx1
  obtain ⟨Ay1, cy1, rfl⟩ := hy1.form
  have Hy1 := Lib.hid hy1
  clear hy1
  obtain ⟨Ay4, cy4, rfl⟩ := hy4.form
  have Hy4 := Lib.hid hy4
  clear hy4
  obtain ⟨Ax3, cx3, rfl⟩ := hx3.form
  have Hx3 := Lib.hid hx3
  clear hx3
  obtain ⟨Ax5, cx5, rfl⟩ := hx5.form
  have Hx5 := Lib.hid hx5
  clear hx5
  have r0 := hr
  have b0 := hb
  have f0 : Fits cI st x0 := hl.left
  have hl1 := hl.right
  have r1 : (pC cI st x0).2.rd = false := (pC_rd _ _ _).trans r0
  have b1 : (pC cI st x0).2.bad = false := (pC_bad r0).trans b0
  obtain ⟨s1, k0⟩ : ∃ s, (pC cI st x0).2 = s := ⟨_, rfl⟩
  rw [k0] at r1 b1 hl1
  have f1 : Fits (cL cRec) s1 x1 := hl1.left
  have hl2 := hl1.right
  have r2 : (pC (cL cRec) s1 x1).2.rd = false := (pC_rd _ _ _).trans r1
  have b2 : (pC (cL cRec) s1 x1).2.bad = false := (pC_bad r1).trans b1
  obtain ⟨s2, k1⟩ : ∃ s, (pC (cL cRec) s1 x1).2 = s := ⟨_, rfl⟩
  rw [k1] at r2 b2 hl2
  have f2 : Fits cDesk s2 (y0, y1, y2, y3, y4) := hl2.left
  have hl3 := hl2.right
  have r3 : (pC cDesk s2 (y0, y1, y2, y3, y4)).2.rd = false := (pC_rd _ _ _).trans r2
  have b3 : (pC cDesk s2 (y0, y1, y2, y3, y4)).2.bad = false := (pC_bad r2).trans b2
  obtain ⟨s3, k2⟩ : ∃ s, (pC cDesk s2 (y0, y1, y2, y3, y4)).2 = s := ⟨_, rfl⟩
  rw [k2] at r3 b3 hl3
  have f3 : Fits (cL cJob) s3 x3 := hl3.left
  have hl4 := hl3.right
  have r4 : (pC (cL cJob) s3 x3).2.rd = false := (pC_rd _ _ _).trans r3
  have b4 : (pC (cL cJob) s3 x3).2.bad = false := (pC_bad r3).trans b3
  obtain ⟨s4, k3⟩ : ∃ s, (pC (cL cJob) s3 x3).2 = s := ⟨_, rfl⟩
  rw [k3] at r4 b4 hl4
  have f4 : Fits cI s4 x4 := hl4.left
  have hl5 := hl4.right
  have r5 : (pC cI s4 x4).2.rd = false := (pC_rd _ _ _).trans r4
  have b5 : (pC cI s4 x4).2.bad = false := (pC_bad r4).trans b4
  obtain ⟨s5, k4⟩ : ∃ s, (pC cI s4 x4).2 = s := ⟨_, rfl⟩
  rw [k4] at r5 b5 hl5
  have f5 : Fits (cL cWorker) s5 x5 := hl5.left
  have hl6 := hl5.right
  have r6 : (pC (cL cWorker) s5 x5).2.rd = false := (pC_rd _ _ _).trans r5
  have b6 : (pC (cL cWorker) s5 x5).2.bad = false := (pC_bad r5).trans b5
  obtain ⟨s6, k5⟩ : ∃ s, (pC (cL cWorker) s5 x5).2 = s := ⟨_, rfl⟩
  rw [k5] at r6 b6 hl6
  have f6 : Fits cF s6 x6 := hl6
  have r7 : (pC cF s6 x6).2.rd = false := (pC_rd _ _ _).trans r6
  have b7 : (pC cF s6 x6).2.bad = false := (pC_bad r6).trans b6
  obtain ⟨s7, k6⟩ : ∃ s, (pC cF s6 x6).2 = s := ⟨_, rfl⟩
  rw [k6] at r7 b7
  have HE : Hid ((pC cShop st (x0, x1, (y0, y1, y2, y3, y4), x3, x4, x5, x6)).2 = s7) := by show _ = _; unfold cShop; simp only [pC_seq, k0, k1, k2, k3, k4, k5, k6]
  have F0 := Lib.hid f0
  have K0 := Lib.hid k0
  have o0 := ho.1
  have F1 := Lib.hid f1
  have K1 := Lib.hid k1
  have o1 := ho.2.1
  have m1 := hm.2.1
  have O1 := Lib.hid o1.2
  have M1 := Lib.hid m1.2
  have n1 : (x1).length ≤ 20000 := m1.1
  clear o1 m1
  have F2 := Lib.hid f2
  have K2 := Lib.hid k2
  have o2 := ho.2.2.1
  have m2 := hm.2.2.1
  have O2 := Lib.hid o2
  have M2 := Lib.hid m2
  clear o2 m2
  have F3 := Lib.hid f3
  have K3 := Lib.hid k3
  have o3 := ho.2.2.2.1
  have m3 := hm.2.2.2.1
  have O3 := Lib.hid o3.2
  have M3 := Lib.hid m3.2
  have n3 : (x3).length ≤ 20000 := m3.1
  clear o3 m3
  have F4 := Lib.hid f4
  have K4 := Lib.hid k4
  have o4 := ho.2.2.2.2.1
  have F5 := Lib.hid f5
  have K5 := Lib.hid k5
  have o5 := ho.2.2.2.2.2.1
  have m5 := hm.2.2.2.2.2.1
  have O5 := Lib.hid o5.2
  have M5 := Lib.hid m5.2
  have n5 : (x5).length ≤ 20000 := m5.1
  clear o5 m5
  have F6 := Lib.hid f6
  have K6 := Lib.hid k6
  clear f0 k0 f1 k1 f2 k2 f3 k3 f4 k4 f5 k5 f6 k6 hl1 hl2 hl3 hl4 hl5 hl6
  have HD := Lib.hid hd
  have HV := Lib.hid hvd
  have hdl := blk_lt hd
  have hpl := hs.lt
  have hbp := hs.hr
  have hpb : base ≤ w.heap.size := by omega
  have C0 : Hid (WrSt base p v v st w w) := ⟨hs, Chg.refl _ _ _, NewV.refl _ _⟩
  rw [HE.out]
  clear hs hd hvd ho hm hl hr hb HE
  go_enter Tryz.func31, Tryz.ntmps31
  go_wp2_with fail
  refine (wrNum (o := 0) C0.out r0 (C0.out.blk HD.out hne) rfl o0 F0.out hne hbd (C0.out.nv.vd HV.out hdl)).mono ?_
  rintro e w1 ⟨rfl, v1x, hc⟩
  rw [K0.out] at hc
  have C1 := Lib.hid hc
  clear hc
  have cl := blk_cell (C1.out.blk HD.out hne) 1
  simp at cl
  go_wp2_with fail
  refine (wrMany (n := (x1).length) C1.out r1 (C1.out.blk HD.out hne) (by omega) (by have := F1.out; unfold Fits at this; omega) hne (C1.out.nv.vd HV.out hdl)).mono ?_
  rintro e w2 ⟨rfl, v2x, hc⟩
  have Q1 := Lib.hid hc
  clear hc cl
  have zy0 : (pM s1 (x1).length).2.rd = false := (pM_rd _ _).trans r1
  have zy1 : (pM s1 (x1).length).2.bad = false := (pM_bad r1).trans b1
  have zy2 := Lib.hid (fun (k : Nat) z (h : (x1)[k]? = some z) => sW_fits r1 F1.out h)
  have zy3 := Lib.hid (sW_end (c := cRec) (xs := x1) r1)
  obtain ⟨q1, hq⟩ : ∃ q, (pM s1 (x1).length).2 = q := ⟨_, rfl⟩
  rw [hq] at Q1 zy0 zy1 zy2 zy3
  clear hq
  go_wp2
  go_loopw [4] (fun ix wl => ∃ k : Nat, ix = .int .i64 k ∧ k ≤ (x1).length ∧ Hid (∃ v1, WrSt base p v v1 (sW cRec q1 x1 k) w wl)) (fun ix _ => (x1).length - (intOf ix).toNat)
  case atStart => exact ⟨0, rfl, by omega, ⟨_, by rw [sW_zero]; exact Q1.out⟩⟩
  case round =>
    obtain ⟨k, rfl, hk, HW⟩ := hrel
    obtain ⟨vk, hW⟩ := HW.out
    obtain ⟨wz, hwr⟩ : ∃ z, z = wr := ⟨_, rfl⟩
    subst hwr
    have tb : wz.cell? ⟨p, 3, none⟩ = some (.bool false) := by rw [blk_cell hW.pst.pn]; show some (Value.bool q1.bad) = _; rw [zy1]
    have tr : wz.cell? ⟨p, 2, none⟩ = some (.bool false) := by rw [blk_cell hW.pst.pn]; show some (Value.bool q1.rd) = _; rw [zy0]
    have cl := blk_cell (hW.blk HD.out hne) 1
    simp at cl
    have CW := Lib.hid hW
    clear HW
    by_cases hlt : k < (x1).length
    · obtain ⟨z, hx⟩ : ∃ n, (x1)[k]? = some n := ⟨(x1)[k], List.getElem?_eq_getElem hlt⟩
      as_aux_lemma =>
        have hmem := List.mem_of_getElem? hx
        have hox := O1.out z hmem
        have hmx := M1.out z hmem
        obtain ⟨ba, oa, us, hA, hbba, hus, hrep⟩ := (Hx1.out.keep mRec_law (hW.chg.below hbp hbp hpb)).at hx
        subst hA
        have hfit := zy2.out k z hx
        have hstep := sW_step (c := cRec) (st := q1) zy0 hx
        obtain ⟨ua, rfl⟩ : ∃ ua : Array Value, us = ua.toList := ⟨us.toArray, by simp⟩
        have HRG : Hid (wz.rangeAt ba (oa + k * 18) ua.toList) := fun j v hv => hus j v hv
        have hul : ua.toList.length = 18 := mRec_law.len hrep
        have hus9 : ua.size = 18 := by simpa using hul
        have hi1 : Hid ((Tryz.prog.info? 65).map (·.size) = some ua.toList.length) := by show _ = _; rw [hul]; kernel_rfl
        have hi2 : Hid ((Tryz.prog.info? 65).map (·.size) = some ua.size) := by show _ = _; rw [hus9]; kernel_rfl
        have hone : Hid (ua.all (·.oneCell') = true) := Array.all_eq_true_iff_forall_mem.2 (fun v hv => mRec_law.rcell hrep v (by simpa using hv))
        have HTH : Hid ((wz.alloc (.cells #[.string ⟨#[]⟩, .string ⟨#[]⟩, .string ⟨#[]⟩, .int .i64 0, .slice none 0 0, .slice none 0 0, .slice none 0 0, .slice none 0 0, .bool false, .bool false, .int .i64 0, .int .i64 0, .int .i64 0, .int .i64 0, .slice none 0 0, .slice none 0 0, .string ⟨#[]⟩, .int .i64 0] 65)).there wz.heap.size 0 ua.size) := there_new _ _ _ _ (by rw [hus9]; rfl)
        have HBL : Hid (Below wz.heap.size wz ((wz.alloc (.cells #[.string ⟨#[]⟩, .string ⟨#[]⟩, .string ⟨#[]⟩, .int .i64 0, .slice none 0 0, .slice none 0 0, .slice none 0 0, .slice none 0 0, .bool false, .bool false, .int .i64 0, .int .i64 0, .int .i64 0, .int .i64 0, .slice none 0 0, .slice none 0 0, .string ⟨#[]⟩, .int .i64 0] 65)).setCells wz.heap.size 0 ua.toList)) := below_cells (Nat.le_refl _) _ _ _ ((Below.refl _ _).alloc (Nat.le_refl _) _)
        have HNEW : Hid (((wz.alloc (.cells #[.string ⟨#[]⟩, .string ⟨#[]⟩, .string ⟨#[]⟩, .int .i64 0, .slice none 0 0, .slice none 0 0, .slice none 0 0, .slice none 0 0, .bool false, .bool false, .int .i64 0, .int .i64 0, .int .i64 0, .int .i64 0, .slice none 0 0, .slice none 0 0, .string ⟨#[]⟩, .int .i64 0] 65)).setCells wz.heap.size 0 ua.toList).heap[wz.heap.size]? = some (.cells ua 65)) := fresh_cells _ _ _ _ (by rw [hus9]; rfl)
        clear hul hus9
        obtain ⟨ea0, ea1, ea2, ea3, ⟨ea4, ea5, ea6, ea7, ea8, ea9, ea10, ea11, ea12, ea13, ea14, ea15⟩, ea16, ea17⟩ := z
        obtain ⟨vv6, vv7, vv8, vv9, vv16, vv17, hua, jj6, jj7, jj8, jj9, jj16, jj17, _⟩ := mRec_form hrep
        obtain ⟨Aa6, ca6, rfl⟩ := jj6.form
        obtain ⟨Aa7, ca7, rfl⟩ := jj7.form
        obtain ⟨Aa8, ca8, rfl⟩ := jj8.form
        obtain ⟨Aa9, ca9, rfl⟩ := jj9.form
        obtain ⟨Aa16, ca16, rfl⟩ := jj16.form
        obtain ⟨Aa17, ca17, rfl⟩ := jj17.form
        obtain ⟨ta0, ht0⟩ : ∃ t, sW cRec q1 x1 k = t := ⟨_, rfl⟩
        have a0 : ta0.rd = false := by rw [← ht0]; exact zy0
        have a1 : ta0.bad = false := by rw [← ht0]; exact zy1
        rw [ht0] at hfit hstep hW
        have ra0 := a0
        have ba0 := a1
        have fa0 : Fits cRec ta0 (ea0, ea1, ea2, ea3, (ea4, ea5, ea6, ea7, ea8, ea9, ea10, ea11, ea12, ea13, ea14, ea15), ea16, ea17) := hfit
        have ra1 : (pC cRec ta0 (ea0, ea1, ea2, ea3, (ea4, ea5, ea6, ea7, ea8, ea9, ea10, ea11, ea12, ea13, ea14, ea15), ea16, ea17)).2.rd = false := (pC_rd _ _ _).trans ra0
        have ba1 : (pC cRec ta0 (ea0, ea1, ea2, ea3, (ea4, ea5, ea6, ea7, ea8, ea9, ea10, ea11, ea12, ea13, ea14, ea15), ea16, ea17)).2.bad = false := (pC_bad ra0).trans ba0
        obtain ⟨sa1, ka0⟩ : ∃ s, (pC cRec ta0 (ea0, ea1, ea2, ea3, (ea4, ea5, ea6, ea7, ea8, ea9, ea10, ea11, ea12, ea13, ea14, ea15), ea16, ea17)).2 = s := ⟨_, rfl⟩
        rw [ka0] at ra1 ba1
        have HEa : Hid ((pC cRec ta0 (ea0, ea1, ea2, ea3, (ea4, ea5, ea6, ea7, ea8, ea9, ea10, ea11, ea12, ea13, ea14, ea15), ea16, ea17)).2 = sa1) := ka0
        have Fa0 := Lib.hid fa0
        have Ka0 := Lib.hid ka0
        have oa0 := hox
        have ma0 := hmx
        have Oa0 := Lib.hid oa0
        have Ma0 := Lib.hid ma0
        clear oa0 ma0
        clear fa0 ka0 
        have HTa : Hid (sa1 = sW cRec q1 x1 (k + 1)) := by show _ = _; exact HEa.out.symm.trans (congrArg Prod.snd hstep)
        clear hfit hstep ht0 a0 a1 hmem hox hmx hus hrep HEa
        have HUA := Lib.hid (Array.ext' (ys := (#[.string ea0, .string ea1, .string ea4, .int .i64 ea5, .slice Aa6 (ea6).length ca6, .slice Aa7 (ea7).length ca7, .slice Aa8 (ea8).length ca8, .slice Aa9 (ea9).length ca9, .bool ea10, .bool ea11, .int .i64 ea12, .int .i64 ea13, .int .i64 ea14, .int .i64 ea15, .slice Aa16 (ea16).length ca16, .slice Aa17 (ea17).length ca17, .string ea2, .int .i64 ea3] : Array Value)) hua)
        clear hua
        have hgea : wz.heap.size ≠ p := by have := hW.pst.lt; omega
        have hbga : base ≤ wz.heap.size := by have := hW.pst.lt; omega
        have HGa : Hid (((wz.alloc (.cells #[.string ⟨#[]⟩, .string ⟨#[]⟩, .string ⟨#[]⟩, .int .i64 0, .slice none 0 0, .slice none 0 0, .slice none 0 0, .slice none 0 0, .bool false, .bool false, .int .i64 0, .int .i64 0, .int .i64 0, .int .i64 0, .slice none 0 0, .slice none 0 0, .string ⟨#[]⟩, .int .i64 0] 65)).setCells wz.heap.size 0 ua.toList).heap[wz.heap.size]? = some (.cells #[.string ea0, .string ea1, .string ea4, .int .i64 ea5, .slice Aa6 (ea6).length ca6, .slice Aa7 (ea7).length ca7, .slice Aa8 (ea8).length ca8, .slice Aa9 (ea9).length ca9, .bool ea10, .bool ea11, .int .i64 ea12, .int .i64 ea13, .int .i64 ea14, .int .i64 ea15, .slice Aa16 (ea16).length ca16, .slice Aa17 (ea17).length ca17, .string ea2, .int .i64 ea3] 65)) := by show _ = _; rw [← HUA.out]; exact HNEW.out
        clear HNEW HUA
        have Ca0 : Hid (WrSt base p vk vk ta0 ((wz.alloc (.cells #[.string ⟨#[]⟩, .string ⟨#[]⟩, .string ⟨#[]⟩, .int .i64 0, .slice none 0 0, .slice none 0 0, .slice none 0 0, .slice none 0 0, .bool false, .bool false, .int .i64 0, .int .i64 0, .int .i64 0, .int .i64 0, .slice none 0 0, .slice none 0 0, .string ⟨#[]⟩, .int .i64 0] 65)).setCells wz.heap.size 0 ua.toList) ((wz.alloc (.cells #[.string ⟨#[]⟩, .string ⟨#[]⟩, .string ⟨#[]⟩, .int .i64 0, .slice none 0 0, .slice none 0 0, .slice none 0 0, .slice none 0 0, .bool false, .bool false, .int .i64 0, .int .i64 0, .int .i64 0, .int .i64 0, .slice none 0 0, .slice none 0 0, .string ⟨#[]⟩, .int .i64 0] 65)).setCells wz.heap.size 0 ua.toList)) := ⟨hW.pst.below HBL.out, Chg.refl _ _ _, NewV.refl _ _⟩
        have CAa : Hid (WrSt base p v vk ta0 _ ((wz.alloc (.cells #[.string ⟨#[]⟩, .string ⟨#[]⟩, .string ⟨#[]⟩, .int .i64 0, .slice none 0 0, .slice none 0 0, .slice none 0 0, .slice none 0 0, .bool false, .bool false, .int .i64 0, .int .i64 0, .int .i64 0, .int .i64 0, .slice none 0 0, .slice none 0 0, .string ⟨#[]⟩, .int .i64 0] 65)).setCells wz.heap.size 0 ua.toList)) := ⟨hW.pst.below HBL.out, hW.chg.trans (Chg.of_below HBL.out), hW.nv⟩
        have VGa : Hid (∀ k, Value.readBlock vk = some k → k ≠ wz.heap.size) := fun k hk => by have := hW.pst.ok.blkLt k hk; omega
        have gla := blk_lt HGa.out
        have Ja6 : Hid (LRep mCmd base ((wz.alloc (.cells #[.string ⟨#[]⟩, .string ⟨#[]⟩, .string ⟨#[]⟩, .int .i64 0, .slice none 0 0, .slice none 0 0, .slice none 0 0, .slice none 0 0, .bool false, .bool false, .int .i64 0, .int .i64 0, .int .i64 0, .int .i64 0, .slice none 0 0, .slice none 0 0, .string ⟨#[]⟩, .int .i64 0] 65)).setCells wz.heap.size 0 ua.toList) (.slice Aa6 (ea6).length ca6) ea6) := jj6.keep mCmd_law (HBL.out.mono hbga)
        have Ja7 : Hid (LRep mI base ((wz.alloc (.cells #[.string ⟨#[]⟩, .string ⟨#[]⟩, .string ⟨#[]⟩, .int .i64 0, .slice none 0 0, .slice none 0 0, .slice none 0 0, .slice none 0 0, .bool false, .bool false, .int .i64 0, .int .i64 0, .int .i64 0, .int .i64 0, .slice none 0 0, .slice none 0 0, .string ⟨#[]⟩, .int .i64 0] 65)).setCells wz.heap.size 0 ua.toList) (.slice Aa7 (ea7).length ca7) ea7) := jj7.keep mI_law (HBL.out.mono hbga)
        have Ja8 : Hid (LRep mKnown base ((wz.alloc (.cells #[.string ⟨#[]⟩, .string ⟨#[]⟩, .string ⟨#[]⟩, .int .i64 0, .slice none 0 0, .slice none 0 0, .slice none 0 0, .slice none 0 0, .bool false, .bool false, .int .i64 0, .int .i64 0, .int .i64 0, .int .i64 0, .slice none 0 0, .slice none 0 0, .string ⟨#[]⟩, .int .i64 0] 65)).setCells wz.heap.size 0 ua.toList) (.slice Aa8 (ea8).length ca8) ea8) := jj8.keep mKnown_law (HBL.out.mono hbga)
        have Ja9 : Hid (LRep mI base ((wz.alloc (.cells #[.string ⟨#[]⟩, .string ⟨#[]⟩, .string ⟨#[]⟩, .int .i64 0, .slice none 0 0, .slice none 0 0, .slice none 0 0, .slice none 0 0, .bool false, .bool false, .int .i64 0, .int .i64 0, .int .i64 0, .int .i64 0, .slice none 0 0, .slice none 0 0, .string ⟨#[]⟩, .int .i64 0] 65)).setCells wz.heap.size 0 ua.toList) (.slice Aa9 (ea9).length ca9) ea9) := jj9.keep mI_law (HBL.out.mono hbga)
        have Ja16 : Hid (LRep mAct base ((wz.alloc (.cells #[.string ⟨#[]⟩, .string ⟨#[]⟩, .string ⟨#[]⟩, .int .i64 0, .slice none 0 0, .slice none 0 0, .slice none 0 0, .slice none 0 0, .bool false, .bool false, .int .i64 0, .int .i64 0, .int .i64 0, .int .i64 0, .slice none 0 0, .slice none 0 0, .string ⟨#[]⟩, .int .i64 0] 65)).setCells wz.heap.size 0 ua.toList) (.slice Aa16 (ea16).length ca16) ea16) := jj16.keep mAct_law (HBL.out.mono hbga)
        have Ja17 : Hid (LRep mSleep base ((wz.alloc (.cells #[.string ⟨#[]⟩, .string ⟨#[]⟩, .string ⟨#[]⟩, .int .i64 0, .slice none 0 0, .slice none 0 0, .slice none 0 0, .slice none 0 0, .bool false, .bool false, .int .i64 0, .int .i64 0, .int .i64 0, .int .i64 0, .slice none 0 0, .slice none 0 0, .string ⟨#[]⟩, .int .i64 0] 65)).setCells wz.heap.size 0 ua.toList) (.slice Aa17 (ea17).length ca17) ea17) := jj17.keep mSleep_law (HBL.out.mono hbga)
        have pba : base ≤ ((wz.alloc (.cells #[.string ⟨#[]⟩, .string ⟨#[]⟩, .string ⟨#[]⟩, .int .i64 0, .slice none 0 0, .slice none 0 0, .slice none 0 0, .slice none 0 0, .bool false, .bool false, .int .i64 0, .int .i64 0, .int .i64 0, .int .i64 0, .slice none 0 0, .slice none 0 0, .string ⟨#[]⟩, .int .i64 0] 65)).setCells wz.heap.size 0 ua.toList).heap.size := by have := HBL.out.size; omega
        clear HBL
        clear jj6 jj7 jj8 jj9 jj16 jj17
        clear hx hW
        as_aux_lemma =>
          obtain ⟨wy, hwy⟩ : ∃ z, z = ((wz.alloc (.cells #[.string ⟨#[]⟩, .string ⟨#[]⟩, .string ⟨#[]⟩, .int .i64 0, .slice none 0 0, .slice none 0 0, .slice none 0 0, .slice none 0 0, .bool false, .bool false, .int .i64 0, .int .i64 0, .int .i64 0, .int .i64 0, .slice none 0 0, .slice none 0 0, .string ⟨#[]⟩, .int .i64 0] 65)).setCells wz.heap.size 0 ua.toList) := ⟨_, rfl⟩
          rw [← hwy] at HGa Ca0 CAa gla pba Ja6 Ja7 Ja8 Ja9 Ja16 Ja17
          go_wp2_with (first | (with_reducible refine wpList_load_mid rfl 65 (.tmp 56) rfl ba (oa + k * 18) rfl ua.toList _ HRG.out Tryz.underlying65 rfl hi1.out ?_) | (with_reducible refine wpList_store_mid rfl 65 (.tmp 6) (.tmp 57) rfl wz.heap.size 0 ua rfl rfl HTH.out hi2.out hone.out ?_))
          rw [← hwy]
          clear hwy HRG HTH hi1 hi2 hone
          refine (penRec_wr Ca0.out ra0 ba0 (Ca0.out.blk HGa.out hgea) (Ja6.out.keep mCmd_law (Ca0.out.chg.below hbp hbp pba)) (Ja7.out.keep mI_law (Ca0.out.chg.below hbp hbp pba)) (Ja8.out.keep mKnown_law (Ca0.out.chg.below hbp hbp pba)) (Ja9.out.keep mI_law (Ca0.out.chg.below hbp hbp pba)) (Ja16.out.keep mAct_law (Ca0.out.chg.below hbp hbp pba)) (Ja17.out.keep mSleep_law (Ca0.out.chg.below hbp hbp pba)) Oa0.out Ma0.out Fa0.out hgea hbga (Ca0.out.nv.vd VGa.out gla)).mono ?_
          rintro e wa1 ⟨rfl, va1x, hc⟩
          rw [Ka0.out] at hc
          have Ca1 := Lib.hid hc
          clear hc
          have tr2 := blk_cell Ca1.out.pst.pn 2
          simp [ra1] at tr2
          have CN := Lib.hid (CAa.out.trans Ca1.out)
          rw [HTa.out] at CN
          go_wp2
          go_roundw
          case rel => exact ⟨k + 1, by go_num, by omega, ⟨_, CN.out⟩⟩
          case measure => simp [intOf] <;> omega
    · obtain rfl : k = (x1).length := by omega
      have C2 : Hid (WrSt base p v vk s2 w wz) := by show WrSt _ _ _ _ _ _ _; rw [← K1.out, zy3.out]; exact CW.out
      clear CW hW cl tb tr zy0 zy1 zy2 zy3 Q1 C1
      as_aux_lemma =>
        go_wp2_with fail
        refine (penDesk_wr C2.out r2 b2 (C2.out.blk HD.out hne) (Hy1.out.keep mTurn_law (C2.out.chg.below hbp hbp hpb)) (Hy4.out.keep mLine_law (C2.out.chg.below hbp hbp hpb)) O2.out M2.out F2.out hne hbd (C2.out.nv.vd HV.out hdl)).mono ?_
        rintro e w3 ⟨rfl, v3x, hc⟩
        rw [K2.out] at hc
        have C3 := Lib.hid hc
        clear hc
        have cl := blk_cell (C3.out.blk HD.out hne) 7
        simp at cl
        go_wp2_with fail
        refine (wrMany (n := (x3).length) C3.out r3 (C3.out.blk HD.out hne) (by omega) (by have := F3.out; unfold Fits at this; omega) hne (C3.out.nv.vd HV.out hdl)).mono ?_
        rintro e w4 ⟨rfl, v4x, hc⟩
        have Q3 := Lib.hid hc
        clear hc cl
        have zy0 : (pM s3 (x3).length).2.rd = false := (pM_rd _ _).trans r3
        have zy1 : (pM s3 (x3).length).2.bad = false := (pM_bad r3).trans b3
        have zy2 := Lib.hid (fun (k : Nat) z (h : (x3)[k]? = some z) => sW_fits r3 F3.out h)
        have zy3 := Lib.hid (sW_end (c := cJob) (xs := x3) r3)
        obtain ⟨q3, hq⟩ : ∃ q, (pM s3 (x3).length).2 = q := ⟨_, rfl⟩
        rw [hq] at Q3 zy0 zy1 zy2 zy3
        clear hq
        go_wp2
        go_loopw [7] (fun ix wl => ∃ k : Nat, ix = .int .i64 k ∧ k ≤ (x3).length ∧ Hid (∃ v1, WrSt base p v v1 (sW cJob q3 x3 k) w wl)) (fun ix _ => (x3).length - (intOf ix).toNat)
        case atStart => exact ⟨0, rfl, by omega, ⟨_, by rw [sW_zero]; exact Q3.out⟩⟩
        case round =>
          obtain ⟨k, rfl, hk, HW⟩ := hrel
          obtain ⟨vk, hW⟩ := HW.out
          obtain ⟨wz, hwr⟩ : ∃ z, z = wr := ⟨_, rfl⟩
          subst hwr
          have tb : wz.cell? ⟨p, 3, none⟩ = some (.bool false) := by rw [blk_cell hW.pst.pn]; show some (Value.bool q3.bad) = _; rw [zy1]
          have tr : wz.cell? ⟨p, 2, none⟩ = some (.bool false) := by rw [blk_cell hW.pst.pn]; show some (Value.bool q3.rd) = _; rw [zy0]
          have cl := blk_cell (hW.blk HD.out hne) 7
          simp at cl
          have CW := Lib.hid hW
          clear HW
          by_cases hlt : k < (x3).length
          · obtain ⟨z, hx⟩ : ∃ n, (x3)[k]? = some n := ⟨(x3)[k], List.getElem?_eq_getElem hlt⟩
            as_aux_lemma =>
              have hmem := List.mem_of_getElem? hx
              have hox := O3.out z hmem
              have hmx := M3.out z hmem
              obtain ⟨ba, oa, us, hA, hbba, hus, hrep⟩ := (Hx3.out.keep mJob_law (hW.chg.below hbp hbp hpb)).at hx
              subst hA
              have hfit := zy2.out k z hx
              have hstep := sW_step (c := cJob) (st := q3) zy0 hx
              obtain ⟨ea0, ea1, ea2⟩ := z
              obtain rfl := mJob_form hrep
              have d0 := hus 0 _ rfl
              have d1 := hus 1 _ rfl
              have d2 := hus 2 _ rfl
              rw [show mJob.n = 3 from rfl] at d0 d1 d2
              rw [Nat.add_zero] at d0
              obtain ⟨ta0, ht0⟩ : ∃ t, sW cJob q3 x3 k = t := ⟨_, rfl⟩
              have a0 : ta0.rd = false := by rw [← ht0]; exact zy0
              have a1 : ta0.bad = false := by rw [← ht0]; exact zy1
              rw [ht0] at hfit hstep hW
              have ra0 := a0
              have ba0 := a1
              have fa0 : Fits cI ta0 ea0 := hfit.left
              have hla1 := hfit.right
              have ra1 : (pC cI ta0 ea0).2.rd = false := (pC_rd _ _ _).trans ra0
              have ba1 : (pC cI ta0 ea0).2.bad = false := (pC_bad ra0).trans ba0
              obtain ⟨sa1, ka0⟩ : ∃ s, (pC cI ta0 ea0).2 = s := ⟨_, rfl⟩
              rw [ka0] at ra1 ba1 hla1
              have fa1 : Fits cS sa1 ea1 := hla1.left
              have hla2 := hla1.right
              have ra2 : (pC cS sa1 ea1).2.rd = false := (pC_rd _ _ _).trans ra1
              have ba2 : (pC cS sa1 ea1).2.bad = false := (pC_bad ra1).trans ba1
              obtain ⟨sa2, ka1⟩ : ∃ s, (pC cS sa1 ea1).2 = s := ⟨_, rfl⟩
              rw [ka1] at ra2 ba2 hla2
              have fa2 : Fits cI sa2 ea2 := hla2
              have ra3 : (pC cI sa2 ea2).2.rd = false := (pC_rd _ _ _).trans ra2
              have ba3 : (pC cI sa2 ea2).2.bad = false := (pC_bad ra2).trans ba2
              obtain ⟨sa3, ka2⟩ : ∃ s, (pC cI sa2 ea2).2 = s := ⟨_, rfl⟩
              rw [ka2] at ra3 ba3
              have HEa : Hid ((pC cJob ta0 (ea0, ea1, ea2)).2 = sa3) := by show _ = _; unfold cJob; simp only [pC_seq, ka0, ka1, ka2]
              have Fa0 := Lib.hid fa0
              have Ka0 := Lib.hid ka0
              have oa0 := hox.1
              have Fa1 := Lib.hid fa1
              have Ka1 := Lib.hid ka1
              have oa1 := hox.2.1
              have ma1 := hmx.2.1
              have Fa2 := Lib.hid fa2
              have Ka2 := Lib.hid ka2
              have oa2 := hox.2.2
              clear fa0 ka0 fa1 ka1 fa2 ka2 hla1 hla2
              have HTa : Hid (sa3 = sW cJob q3 x3 (k + 1)) := by show _ = _; exact HEa.out.symm.trans (congrArg Prod.snd hstep)
              clear hfit hstep ht0 a0 a1 hmem hox hmx hus hrep HEa
              have hgea : wz.heap.size ≠ p := by have := hW.pst.lt; omega
              have hbga : base ≤ wz.heap.size := by have := hW.pst.lt; omega
              have HGa : Hid ((wz.alloc (.cells #[.int .i64 ea0, .string ea1, .int .i64 ea2] 67)).heap[wz.heap.size]? = some (.cells #[.int .i64 ea0, .string ea1, .int .i64 ea2] 67)) := alloc_at wz _
              have Ca0 : Hid (WrSt base p vk vk ta0 (wz.alloc (.cells #[.int .i64 ea0, .string ea1, .int .i64 ea2] 67)) (wz.alloc (.cells #[.int .i64 ea0, .string ea1, .int .i64 ea2] 67))) := ⟨own_new hW.pst _, Chg.refl _ _ _, NewV.refl _ _⟩
              have CAa : Hid (WrSt base p v vk ta0 _ (wz.alloc (.cells #[.int .i64 ea0, .string ea1, .int .i64 ea2] 67))) := hW.alloc _
              have VGa : Hid (∀ k, Value.readBlock vk = some k → k ≠ wz.heap.size) := fun k hk => by have := hW.pst.ok.blkLt k hk; omega
              have gla := blk_lt HGa.out
              have pba : base ≤ (wz.alloc (.cells #[.int .i64 ea0, .string ea1, .int .i64 ea2] 67)).heap.size := by simp; omega
              clear hx hW
              go_wp2_with fail
              refine (wrWhole (o := 0) Ca0.out ra0 (Ca0.out.blk HGa.out hgea) rfl oa0 Fa0.out hgea hbga (Ca0.out.nv.vd VGa.out gla)).mono ?_
              rintro e wa1 ⟨rfl, va1x, hc⟩
              rw [Ka0.out] at hc
              have Ca1 := Lib.hid hc
              clear hc
              go_wp2_with fail
              refine (wrText (o := 1) Ca1.out ra1 (Ca1.out.blk HGa.out hgea) rfl ma1 Fa1.out hgea (Ca1.out.nv.vd VGa.out gla)).mono ?_
              rintro e wa2 ⟨rfl, va2x, hc⟩
              rw [Ka1.out] at hc
              have Ca2 := Lib.hid hc
              clear hc
              go_wp2_with fail
              refine (wrWhole (o := 2) Ca2.out ra2 (Ca2.out.blk HGa.out hgea) rfl oa2 Fa2.out hgea hbga (Ca2.out.nv.vd VGa.out gla)).mono ?_
              rintro e wa3 ⟨rfl, va3x, hc⟩
              rw [Ka2.out] at hc
              have Ca3 := Lib.hid hc
              clear hc
              have tr2 := blk_cell Ca3.out.pst.pn 2
              simp [ra3] at tr2
              have CN := Lib.hid (CAa.out.trans Ca3.out)
              rw [HTa.out] at CN
              go_wp2
              go_roundw
              case rel => exact ⟨k + 1, by go_num, by omega, ⟨_, CN.out⟩⟩
              case measure => simp [intOf] <;> omega
          · obtain rfl : k = (x3).length := by omega
            have C4 : Hid (WrSt base p v vk s4 w wz) := by show WrSt _ _ _ _ _ _ _; rw [← K3.out, zy3.out]; exact CW.out
            clear CW hW cl tb tr zy0 zy1 zy2 zy3 Q3 C3
            as_aux_lemma =>
              go_wp2_with fail
              refine (wrWhole (o := 8) C4.out r4 (C4.out.blk HD.out hne) rfl o4 F4.out hne hbd (C4.out.nv.vd HV.out hdl)).mono ?_
              rintro e w5 ⟨rfl, v5x, hc⟩
              rw [K4.out] at hc
              have C5 := Lib.hid hc
              clear hc
              have cl := blk_cell (C5.out.blk HD.out hne) 9
              simp at cl
              go_wp2_with fail
              refine (wrMany (n := (x5).length) C5.out r5 (C5.out.blk HD.out hne) (by omega) (by have := F5.out; unfold Fits at this; omega) hne (C5.out.nv.vd HV.out hdl)).mono ?_
              rintro e w6 ⟨rfl, v6x, hc⟩
              have Q5 := Lib.hid hc
              clear hc cl
              have zy0 : (pM s5 (x5).length).2.rd = false := (pM_rd _ _).trans r5
              have zy1 : (pM s5 (x5).length).2.bad = false := (pM_bad r5).trans b5
              have zy2 := Lib.hid (fun (k : Nat) z (h : (x5)[k]? = some z) => sW_fits r5 F5.out h)
              have zy3 := Lib.hid (sW_end (c := cWorker) (xs := x5) r5)
              obtain ⟨q5, hq⟩ : ∃ q, (pM s5 (x5).length).2 = q := ⟨_, rfl⟩
              rw [hq] at Q5 zy0 zy1 zy2 zy3
              clear hq
              go_wp2
              go_loopw [10] (fun ix wl => ∃ k : Nat, ix = .int .i64 k ∧ k ≤ (x5).length ∧ Hid (∃ v1, WrSt base p v v1 (sW cWorker q5 x5 k) w wl)) (fun ix _ => (x5).length - (intOf ix).toNat)
              case atStart => exact ⟨0, rfl, by omega, ⟨_, by rw [sW_zero]; exact Q5.out⟩⟩
              case round =>
                obtain ⟨k, rfl, hk, HW⟩ := hrel
                obtain ⟨vk, hW⟩ := HW.out
                obtain ⟨wz, hwr⟩ : ∃ z, z = wr := ⟨_, rfl⟩
                subst hwr
                have tb : wz.cell? ⟨p, 3, none⟩ = some (.bool false) := by rw [blk_cell hW.pst.pn]; show some (Value.bool q5.bad) = _; rw [zy1]
                have tr : wz.cell? ⟨p, 2, none⟩ = some (.bool false) := by rw [blk_cell hW.pst.pn]; show some (Value.bool q5.rd) = _; rw [zy0]
                have cl := blk_cell (hW.blk HD.out hne) 9
                simp at cl
                have CW := Lib.hid hW
                clear HW
                by_cases hlt : k < (x5).length
                · obtain ⟨z, hx⟩ : ∃ n, (x5)[k]? = some n := ⟨(x5)[k], List.getElem?_eq_getElem hlt⟩
                  as_aux_lemma =>
                    have hmem := List.mem_of_getElem? hx
                    have hox := O5.out z hmem
                    have hmx := M5.out z hmem
                    obtain ⟨ba, oa, us, hA, hbba, hus, hrep⟩ := (Hx5.out.keep mWorker_law (hW.chg.below hbp hbp hpb)).at hx
                    subst hA
                    have hfit := zy2.out k z hx
                    have hstep := sW_step (c := cWorker) (st := q5) zy0 hx
                    obtain ⟨ea0, ea1⟩ := z
                    obtain rfl := mWorker_form hrep
                    have d0 := hus 0 _ rfl
                    have d1 := hus 1 _ rfl
                    rw [show mWorker.n = 2 from rfl] at d0 d1
                    rw [Nat.add_zero] at d0
                    obtain ⟨ta0, ht0⟩ : ∃ t, sW cWorker q5 x5 k = t := ⟨_, rfl⟩
                    have a0 : ta0.rd = false := by rw [← ht0]; exact zy0
                    have a1 : ta0.bad = false := by rw [← ht0]; exact zy1
                    rw [ht0] at hfit hstep hW
                    have ra0 := a0
                    have ba0 := a1
                    have fa0 : Fits cI ta0 ea0 := hfit.left
                    have hla1 := hfit.right
                    have ra1 : (pC cI ta0 ea0).2.rd = false := (pC_rd _ _ _).trans ra0
                    have ba1 : (pC cI ta0 ea0).2.bad = false := (pC_bad ra0).trans ba0
                    obtain ⟨sa1, ka0⟩ : ∃ s, (pC cI ta0 ea0).2 = s := ⟨_, rfl⟩
                    rw [ka0] at ra1 ba1 hla1
                    have fa1 : Fits cI sa1 ea1 := hla1
                    have ra2 : (pC cI sa1 ea1).2.rd = false := (pC_rd _ _ _).trans ra1
                    have ba2 : (pC cI sa1 ea1).2.bad = false := (pC_bad ra1).trans ba1
                    obtain ⟨sa2, ka1⟩ : ∃ s, (pC cI sa1 ea1).2 = s := ⟨_, rfl⟩
                    rw [ka1] at ra2 ba2
                    have HEa : Hid ((pC cWorker ta0 (ea0, ea1)).2 = sa2) := by show _ = _; unfold cWorker; simp only [pC_seq, ka0, ka1]
                    have Fa0 := Lib.hid fa0
                    have Ka0 := Lib.hid ka0
                    have oa0 := hox.1
                    have Fa1 := Lib.hid fa1
                    have Ka1 := Lib.hid ka1
                    have oa1 := hox.2
                    clear fa0 ka0 fa1 ka1 hla1
                    have HTa : Hid (sa2 = sW cWorker q5 x5 (k + 1)) := by show _ = _; exact HEa.out.symm.trans (congrArg Prod.snd hstep)
                    clear hfit hstep ht0 a0 a1 hmem hox hmx hus hrep HEa
                    have hgea : wz.heap.size ≠ p := by have := hW.pst.lt; omega
                    have hbga : base ≤ wz.heap.size := by have := hW.pst.lt; omega
                    have HGa : Hid ((wz.alloc (.cells #[.int .i64 ea0, .int .i64 ea1] 87)).heap[wz.heap.size]? = some (.cells #[.int .i64 ea0, .int .i64 ea1] 87)) := alloc_at wz _
                    have Ca0 : Hid (WrSt base p vk vk ta0 (wz.alloc (.cells #[.int .i64 ea0, .int .i64 ea1] 87)) (wz.alloc (.cells #[.int .i64 ea0, .int .i64 ea1] 87))) := ⟨own_new hW.pst _, Chg.refl _ _ _, NewV.refl _ _⟩
                    have CAa : Hid (WrSt base p v vk ta0 _ (wz.alloc (.cells #[.int .i64 ea0, .int .i64 ea1] 87))) := hW.alloc _
                    have VGa : Hid (∀ k, Value.readBlock vk = some k → k ≠ wz.heap.size) := fun k hk => by have := hW.pst.ok.blkLt k hk; omega
                    have gla := blk_lt HGa.out
                    have pba : base ≤ (wz.alloc (.cells #[.int .i64 ea0, .int .i64 ea1] 87)).heap.size := by simp; omega
                    clear hx hW
                    go_wp2_with fail
                    refine (wrWhole (o := 0) Ca0.out ra0 (Ca0.out.blk HGa.out hgea) rfl oa0 Fa0.out hgea hbga (Ca0.out.nv.vd VGa.out gla)).mono ?_
                    rintro e wa1 ⟨rfl, va1x, hc⟩
                    rw [Ka0.out] at hc
                    have Ca1 := Lib.hid hc
                    clear hc
                    go_wp2_with fail
                    refine (wrNum (o := 1) Ca1.out ra1 (Ca1.out.blk HGa.out hgea) rfl oa1 Fa1.out hgea hbga (Ca1.out.nv.vd VGa.out gla)).mono ?_
                    rintro e wa2 ⟨rfl, va2x, hc⟩
                    rw [Ka1.out] at hc
                    have Ca2 := Lib.hid hc
                    clear hc
                    have tr2 := blk_cell Ca2.out.pst.pn 2
                    simp [ra2] at tr2
                    have CN := Lib.hid (CAa.out.trans Ca2.out)
                    rw [HTa.out] at CN
                    go_wp2
                    go_roundw
                    case rel => exact ⟨k + 1, by go_num, by omega, ⟨_, CN.out⟩⟩
                    case measure => simp [intOf] <;> omega
                · obtain rfl : k = (x5).length := by omega
                  have C6 : Hid (WrSt base p v vk s6 w wz) := by show WrSt _ _ _ _ _ _ _; rw [← K5.out, zy3.out]; exact CW.out
                  clear CW hW cl tb tr zy0 zy1 zy2 zy3 Q5 C5
                  as_aux_lemma =>
                    go_wp2_with fail
                    refine (wrFlag (o := 10) C6.out r6 (C6.out.blk HD.out hne) rfl  F6.out hne hbd (C6.out.nv.vd HV.out hdl)).mono ?_
                    rintro e w7 ⟨rfl, v7x, hc⟩
                    rw [K6.out] at hc
                    have C7 := Lib.hid hc
                    clear hc
                    go_wp2
                    exact bodyPost_ret (v := .tuple #[]) (by simp [results]) rfl ⟨rfl, _, C7.out⟩
end Go.Proofs.YtckooioikcenmaaGreat

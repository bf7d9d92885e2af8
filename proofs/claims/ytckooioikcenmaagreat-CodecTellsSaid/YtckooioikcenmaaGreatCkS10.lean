/- Shops of equal data are the same. Conditions: sizes a machine can have. -/
import Derived.Test.YtckooioikcenmaaGreatCkS8
import Derived.Test.YtckooioikcenmaaGreatCkS9
import Derived.Test.YtckooioikcenmaaGreatCkG5
import Derived.StillTailTactics
namespace Go.Proofs.YtckooioikcenmaaGreat
open Go.RowKit
set_option maxRecDepth 20000 in
set_option maxHeartbeats 8000000 in
theorem same22_any (x : DShop) (B : Nat) (w : World) (us vs : List Value) (hu : mShop.rep B w us x) (hv : mShop.rep B w vs x) (hB : B ≤ w.heap.size) : Calls Tryz.prog 15 #[.agg us.toArray, .agg vs.toArray] w (SPost w) := by
  obtain ⟨qnow, qrs, ⟨qq, qqs, qat, qhad, qls⟩, qjs, qla, qws, qdr⟩ := x
  obtain ⟨v1, v2, v3, v4, v5, rfl, hu1, hu2, hu3, hu4, hu5, _⟩ := mShop_form hu
  obtain ⟨z1, z2, z3, z4, z5, rfl, hv1, hv2, hv3, hv4, hv5, _⟩ := mShop_form hv
  obtain ⟨A1, c1, rfl⟩ := hu1.form
  obtain ⟨A2, c2, rfl⟩ := hu2.form
  obtain ⟨A3, c3, rfl⟩ := hu3.form
  obtain ⟨A4, c4, rfl⟩ := hu4.form
  obtain ⟨A5, c5, rfl⟩ := hu5.form
  obtain ⟨D1, e1, rfl⟩ := hv1.form
  obtain ⟨D2, e2, rfl⟩ := hv2.form
  obtain ⟨D3, e3, rfl⟩ := hv3.form
  obtain ⟨D4, e4, rfl⟩ := hv4.form
  obtain ⟨D5, e5, rfl⟩ := hv5.form
  have hm1 := hu1.max
  have hm4 := hu4.max
  clear hu hv
  have hb : Below w.heap.size w (((w.alloc (.cells #[.int .i64 qnow, .slice A1 qrs.length c1, .int .i64 qq, .slice A2 qqs.length c2, .int .i64 qat, .bool qhad, .slice A3 qls.length c3, .slice A4 qjs.length c4, .int .i64 qla, .slice A5 qws.length c5, .bool qdr] 35)).alloc (.cells #[.int .i64 qnow, .slice D1 qrs.length e1, .int .i64 qq, .slice D2 qqs.length e2, .int .i64 qat, .bool qhad, .slice D3 qls.length e3, .slice D4 qjs.length e4, .int .i64 qla, .slice D5 qws.length e5, .bool qdr] 35))) := ((Below.refl _ _).alloc (Nat.le_refl _) _).alloc (by simp) _
  have hbB := hb.mono hB
  have hA1 := blk_below ((Below.refl (w.alloc (.cells #[.int .i64 qnow, .slice A1 qrs.length c1, .int .i64 qq, .slice A2 qqs.length c2, .int .i64 qat, .bool qhad, .slice A3 qls.length c3, .slice A4 qjs.length c4, .int .i64 qla, .slice A5 qws.length c5, .bool qdr] 35)).heap.size (w.alloc (.cells #[.int .i64 qnow, .slice A1 qrs.length c1, .int .i64 qq, .slice A2 qqs.length c2, .int .i64 qat, .bool qhad, .slice A3 qls.length c3, .slice A4 qjs.length c4, .int .i64 qla, .slice A5 qws.length c5, .bool qdr] 35))).alloc (Nat.le_refl _) (.cells #[.int .i64 qnow, .slice D1 qrs.length e1, .int .i64 qq, .slice D2 qqs.length e2, .int .i64 qat, .bool qhad, .slice D3 qls.length e3, .slice D4 qjs.length e4, .int .i64 qla, .slice D5 qws.length e5, .bool qdr] 35)) (alloc_at w (.cells #[.int .i64 qnow, .slice A1 qrs.length c1, .int .i64 qq, .slice A2 qqs.length c2, .int .i64 qat, .bool qhad, .slice A3 qls.length c3, .slice A4 qjs.length c4, .int .i64 qla, .slice A5 qws.length c5, .bool qdr] 35))
  have hA2 := alloc_at (w.alloc (.cells #[.int .i64 qnow, .slice A1 qrs.length c1, .int .i64 qq, .slice A2 qqs.length c2, .int .i64 qat, .bool qhad, .slice A3 qls.length c3, .slice A4 qjs.length c4, .int .i64 qla, .slice A5 qws.length c5, .bool qdr] 35)) (.cells #[.int .i64 qnow, .slice D1 qrs.length e1, .int .i64 qq, .slice D2 qqs.length e2, .int .i64 qat, .bool qhad, .slice D3 qls.length e3, .slice D4 qjs.length e4, .int .i64 qla, .slice D5 qws.length e5, .bool qdr] 35)
  rw [show (w.alloc (.cells #[.int .i64 qnow, .slice A1 qrs.length c1, .int .i64 qq, .slice A2 qqs.length c2, .int .i64 qat, .bool qhad, .slice A3 qls.length c3, .slice A4 qjs.length c4, .int .i64 qla, .slice A5 qws.length c5, .bool qdr] 35)).heap.size = w.heap.size + 1 by simp] at hA2
  have HC := Lib.hid (same18_any B qq qat qhad _ _ _ _ qqs qls _ (hu2.keep mTurn_law hbB) (hu3.keep mLine_law hbB) (hv2.keep mTurn_law hbB) (hv3.keep mLine_law hbB) (Nat.le_trans hB hb.size))
  have HA1 := Lib.hid hA1
  have HA2 := Lib.hid hA2
  have HB1 := Lib.hid hb
  have HU1 := Lib.hid hu1
  have HU4 := Lib.hid hu4
  have HU5 := Lib.hid hu5
  have HV1 := Lib.hid hv1
  have HV4 := Lib.hid hv4
  have HV5 := Lib.hid hv5
  clear hu1 hu2 hu3 hu4 hu5 hv1 hv2 hv3 hv4 hv5 hb hbB hA1 hA2
  obtain ⟨nr, hnr⟩ : ∃ n, qrs.length = n := ⟨_, rfl⟩
  obtain ⟨nj, hnj⟩ : ∃ n, qjs.length = n := ⟨_, rfl⟩
  obtain ⟨nw, hnw⟩ : ∃ n, qws.length = n := ⟨_, rfl⟩
  have HN1 := Lib.hid hnr
  have HN4 := Lib.hid hnj
  rw [hnr] at hm1
  rw [hnj] at hm4
  simp only [hnr, hnj, hnw] at HC HA1 HA2 HB1 HU1 HU4 HU5 HV1 HV4 HV5 ⊢
  clear hnr hnj hnw
  go_enter Tryz.func15, Tryz.ntmps15
  go_wp2_with fail
  refine HC.out.mono ?_
  rintro e w1 ⟨rfl, hbl⟩
  have hK1 := blk_below hbl HA1.out
  have hK2 := blk_below hbl HA2.out
  have HB := Lib.hid (HB1.out.trans (hbl.mono HB1.out.size))
  have HC5 := Lib.hid (sameWorkers_any B _ _ qws _ (HU5.out.keep mWorker_law (HB.out.mono hB)) (HV5.out.keep mWorker_law (HB.out.mono hB)))
  have b1 := blk_cell hK1 1
  have b7 := blk_cell hK1 7
  have b8 := blk_cell hK1 8
  have b9 := blk_cell hK1 9
  have f1 := blk_cell hK2 1
  have f7 := blk_cell hK2 7
  have f8 := blk_cell hK2 8
  have f9 := blk_cell hK2 9
  simp at b1 b7 b8 b9 f1 f7 f8 f9
  have HK1 := Lib.hid hK1
  have HK2 := Lib.hid hK2
  clear hK1 hK2 HC HA1 HA2 HB1 hbl HU5 HV5
  go_wp2_with fail
  refine HC5.out.mono ?_
  rintro e w2 ⟨rfl, n1, rfl⟩
  clear HC5
  have HB2 := Lib.hid (below_drewN HB.out n1)
  have HK3 : Hid ((w1.drewN n1).heap[w.heap.size]? = some (.cells #[.int .i64 qnow, .slice A1 nr c1, .int .i64 qq, .slice A2 qqs.length c2, .int .i64 qat, .bool qhad, .slice A3 qls.length c3, .slice A4 nj c4, .int .i64 qla, .slice A5 nw c5, .bool qdr] 35)) := HK1.out
  have HK4 : Hid ((w1.drewN n1).heap[w.heap.size + 1]? = some (.cells #[.int .i64 qnow, .slice D1 nr e1, .int .i64 qq, .slice D2 qqs.length e2, .int .i64 qat, .bool qhad, .slice D3 qls.length e3, .slice D4 nj e4, .int .i64 qla, .slice D5 nw e5, .bool qdr] 35)) := HK2.out
  clear HB HK1 HK2
  go_wp2
  clear b1 b7 b8 b9 f1 f7 f8 f9
  go_loopw [5, 63] (fun _ i wr => ∃ (k : Nat), i = .int .i64 k ∧ k ≤ nr ∧ Hid (Below w.heap.size w wr) ∧ Hid (wr.heap[w.heap.size]? = some (.cells #[.int .i64 qnow, .slice A1 nr c1, .int .i64 qq, .slice A2 qqs.length c2, .int .i64 qat, .bool qhad, .slice A3 qls.length c3, .slice A4 nj c4, .int .i64 qla, .slice A5 nw c5, .bool qdr] 35)) ∧ Hid (wr.heap[w.heap.size + 1]? = some (.cells #[.int .i64 qnow, .slice D1 nr e1, .int .i64 qq, .slice D2 qqs.length e2, .int .i64 qat, .bool qhad, .slice D3 qls.length e3, .slice D4 nj e4, .int .i64 qla, .slice D5 nw e5, .bool qdr] 35))) (fun _ i _ => nr - (intOf i).toNat)
  case atStart => exact ⟨0, rfl, by omega, HB2, HK3, HK4⟩
  case round =>
    clear HB2 HK3 HK4
    obtain ⟨k, rfl, hk, HB, HK1, HK2⟩ := hrel
    have b1 := blk_cell HK1.out 1
    have f1 := blk_cell HK2.out 1
    simp at b1 f1
    by_cases hk4 : k < nr
    · obtain ⟨x, hxk⟩ : ∃ x, qrs[k]? = some x := ⟨qrs[k]'(by rw [HN1.out]; exact hk4), List.getElem?_eq_getElem _⟩
      obtain ⟨b, o, us, rfl, hbb, hus, hrep⟩ := (HU1.out.keep mRec_law (HB.out.mono hB)).at hxk
      obtain ⟨b', o', us', rfl, hbb', hus', hrep'⟩ := (HV1.out.keep mRec_law (HB.out.mono hB)).at hxk
      obtain ⟨qi, qq2, qpa, qn, ⟨qp, qa, qcs, qts, qks, qss, qst, qcl, qo, qov, qln, qlx⟩, qas, qsl⟩ := x
      obtain ⟨u1, u2, u3, u4, u5, u6, rfl, l1, l2, l3, l4, l5, l6, _⟩ := mRec_form hrep
      obtain ⟨y1, y2, y3, y4, y5, y6, rfl, t1, t2, t3, t4, t5, t6, _⟩ := mRec_form hrep'
      obtain ⟨q, HQ⟩ : ∃ q, Hid (q = wr) := ⟨wr, rfl⟩
      have HC := Lib.hid (fun n => same21_any B qi qq2 qp qa qo qov qln qlx qst qcl u1 u2 u3 u4 u5 u6 y1 y2 y3 y4 y5 y6 qcs qts qks qss qas qsl (wr.drewN n) (l1.keep mCmd_law (below_drewN (Below.refl _ _) n)) (l2.keep mI_law (below_drewN (Below.refl _ _) n)) (l3.keep mKnown_law (below_drewN (Below.refl _ _) n)) (l4.keep mI_law (below_drewN (Below.refl _ _) n)) (l5.keep mAct_law (below_drewN (Below.refl _ _) n)) (l6.keep mSleep_law (below_drewN (Below.refl _ _) n)) (t1.keep mCmd_law (below_drewN (Below.refl _ _) n)) (t2.keep mI_law (below_drewN (Below.refl _ _) n)) (t3.keep mKnown_law (below_drewN (Below.refl _ _) n)) (t4.keep mI_law (below_drewN (Below.refl _ _) n)) (t5.keep mAct_law (below_drewN (Below.refl _ _) n)) (t6.keep mSleep_law (below_drewN (Below.refl _ _) n)) (Nat.le_trans hB HB.out.size))
      clear l1 l2 l3 l4 l5 l6 t1 t2 t3 t4 t5 t6
      have d0 := hus 0 _ rfl
      change World.cell? _ ⟨b, o + k * 18, none⟩ = some (.string qi) at d0
      have g0 := hus' 0 _ rfl
      change World.cell? _ ⟨b', o' + k * 18, none⟩ = some (.string qi) at g0
      have d1 := hus 1 _ rfl
      change World.cell? _ ⟨b, o + k * 18 + 1, none⟩ = some (.string qq2) at d1
      have g1 := hus' 1 _ rfl
      change World.cell? _ ⟨b', o' + k * 18 + 1, none⟩ = some (.string qq2) at g1
      have d2 := hus 2 _ rfl
      change World.cell? _ ⟨b, o + k * 18 + 2, none⟩ = some (.string qp) at d2
      have g2 := hus' 2 _ rfl
      change World.cell? _ ⟨b', o' + k * 18 + 2, none⟩ = some (.string qp) at g2
      have d3 := hus 3 _ rfl
      change World.cell? _ ⟨b, o + k * 18 + 3, none⟩ = some (.int .i64 qa) at d3
      have g3 := hus' 3 _ rfl
      change World.cell? _ ⟨b', o' + k * 18 + 3, none⟩ = some (.int .i64 qa) at g3
      have d4 := hus 4 _ rfl
      change World.cell? _ ⟨b, o + k * 18 + 4, none⟩ = some (u1) at d4
      have g4 := hus' 4 _ rfl
      change World.cell? _ ⟨b', o' + k * 18 + 4, none⟩ = some (y1) at g4
      have d5 := hus 5 _ rfl
      change World.cell? _ ⟨b, o + k * 18 + 5, none⟩ = some (u2) at d5
      have g5 := hus' 5 _ rfl
      change World.cell? _ ⟨b', o' + k * 18 + 5, none⟩ = some (y2) at g5
      have d6 := hus 6 _ rfl
      change World.cell? _ ⟨b, o + k * 18 + 6, none⟩ = some (u3) at d6
      have g6 := hus' 6 _ rfl
      change World.cell? _ ⟨b', o' + k * 18 + 6, none⟩ = some (y3) at g6
      have d7 := hus 7 _ rfl
      change World.cell? _ ⟨b, o + k * 18 + 7, none⟩ = some (u4) at d7
      have g7 := hus' 7 _ rfl
      change World.cell? _ ⟨b', o' + k * 18 + 7, none⟩ = some (y4) at g7
      have d8 := hus 8 _ rfl
      change World.cell? _ ⟨b, o + k * 18 + 8, none⟩ = some (.bool qst) at d8
      have g8 := hus' 8 _ rfl
      change World.cell? _ ⟨b', o' + k * 18 + 8, none⟩ = some (.bool qst) at g8
      have d9 := hus 9 _ rfl
      change World.cell? _ ⟨b, o + k * 18 + 9, none⟩ = some (.bool qcl) at d9
      have g9 := hus' 9 _ rfl
      change World.cell? _ ⟨b', o' + k * 18 + 9, none⟩ = some (.bool qcl) at g9
      have d10 := hus 10 _ rfl
      change World.cell? _ ⟨b, o + k * 18 + 10, none⟩ = some (.int .i64 qo) at d10
      have g10 := hus' 10 _ rfl
      change World.cell? _ ⟨b', o' + k * 18 + 10, none⟩ = some (.int .i64 qo) at g10
      have d11 := hus 11 _ rfl
      change World.cell? _ ⟨b, o + k * 18 + 11, none⟩ = some (.int .i64 qov) at d11
      have g11 := hus' 11 _ rfl
      change World.cell? _ ⟨b', o' + k * 18 + 11, none⟩ = some (.int .i64 qov) at g11
      have d12 := hus 12 _ rfl
      change World.cell? _ ⟨b, o + k * 18 + 12, none⟩ = some (.int .i64 qln) at d12
      have g12 := hus' 12 _ rfl
      change World.cell? _ ⟨b', o' + k * 18 + 12, none⟩ = some (.int .i64 qln) at g12
      have d13 := hus 13 _ rfl
      change World.cell? _ ⟨b, o + k * 18 + 13, none⟩ = some (.int .i64 qlx) at d13
      have g13 := hus' 13 _ rfl
      change World.cell? _ ⟨b', o' + k * 18 + 13, none⟩ = some (.int .i64 qlx) at g13
      have d14 := hus 14 _ rfl
      change World.cell? _ ⟨b, o + k * 18 + 14, none⟩ = some (u5) at d14
      have g14 := hus' 14 _ rfl
      change World.cell? _ ⟨b', o' + k * 18 + 14, none⟩ = some (y5) at g14
      have d15 := hus 15 _ rfl
      change World.cell? _ ⟨b, o + k * 18 + 15, none⟩ = some (u6) at d15
      have g15 := hus' 15 _ rfl
      change World.cell? _ ⟨b', o' + k * 18 + 15, none⟩ = some (y6) at g15
      have d16 := hus 16 _ rfl
      change World.cell? _ ⟨b, o + k * 18 + 16, none⟩ = some (.string qpa) at d16
      have g16 := hus' 16 _ rfl
      change World.cell? _ ⟨b', o' + k * 18 + 16, none⟩ = some (.string qpa) at g16
      have d17 := hus 17 _ rfl
      change World.cell? _ ⟨b, o + k * 18 + 17, none⟩ = some (.int .i64 qn) at d17
      have g17 := hus' 17 _ rfl
      change World.cell? _ ⟨b', o' + k * 18 + 17, none⟩ = some (.int .i64 qn) at g17
      clear hus hus' hrep hrep' hxk
      go_wp2
      go_still_tail 41, (by kernel_rfl)
      change wpList _ _ _ _ _ (wr.drewN 1)
      clear d0 d1 d2 d3 d4 d5 d6 d7 d8 d9 d10 d11 d12 d13 d14 d15 d16 d17 g0 g1 g2 g3 g4 g5 g6 g7 g8 g9 g10 g11 g12 g13 g14 g15 g16 g17
      have HBD := Lib.hid (below_drewN HB.out 1)
      have HKD1 : Hid ((wr.drewN 1).heap[w.heap.size]? = _) := HK1.out
      have HKD2 : Hid ((wr.drewN 1).heap[w.heap.size + 1]? = _) := HK2.out
      go_wp2_with fail
      refine (HC.out 1).mono ?_
      rintro e w3 ⟨rfl, hbl⟩
      have HB3 := Lib.hid (HBD.out.trans (hbl.mono HBD.out.size))
      have HK3 := Lib.hid (blk_below hbl HKD1.out)
      have HK4 := Lib.hid (blk_below hbl HKD2.out)
      clear HB HK1 HK2 HBD HKD1 HKD2 HC hbl b1 f1
      go_wp2
      go_roundw
      case rel => exact ⟨k + 1, by go_num, by omega, HB3, HK3, HK4⟩
      case measure => simp [intOf]; omega
    · obtain rfl : k = nr := by omega
      have b7 := blk_cell HK1.out 7
      have f7 := blk_cell HK2.out 7
      simp at b7 f7
      have hsz := HB.out.mono hB
      have HU4' := Lib.hid (HU4.out.keep mJob_law hsz)
      have HV4' := Lib.hid (HV4.out.keep mJob_law hsz)
      clear hsz HU4 HV4 HK1 HK2 HU1 HV1 b1 f1
      go_wp2
      go_loopw [6, 114] (fun _ i wi => ∃ j nq : Nat, i = .int .i64 j ∧ wi = wr.drewN nq ∧ j ≤ nj) (fun _ i _ => nj - (intOf i).toNat)
      case atStart => exact ⟨0, 0, rfl, rfl, by omega⟩
      case round =>
        obtain ⟨j, nq, rfl, rfl, hj⟩ := hrel
        by_cases hj4 : j < nj
        · obtain ⟨x, hxk⟩ : ∃ x, qjs[j]? = some x := ⟨qjs[j]'(by rw [HN4.out]; exact hj4), List.getElem?_eq_getElem _⟩
          obtain ⟨b, o, us, rfl, _, hus, hrep⟩ := HU4'.out.at hxk
          obtain ⟨b', o', us', rfl, _, hus', hrep'⟩ := HV4'.out.at hxk
          obtain ⟨q1, q2, q3⟩ := x
          have ex1 := mJob_form hrep
          have ex2 := mJob_form hrep'
          subst ex1; subst ex2
          have d0 := hus 0 _ rfl
          change World.cell? _ ⟨b, o + j * 3, none⟩ = some (.int .i64 q1) at d0
          have d1 := hus 1 _ rfl
          change World.cell? _ ⟨b, o + j * 3 + 1, none⟩ = some (.string q2) at d1
          have d2 := hus 2 _ rfl
          change World.cell? _ ⟨b, o + j * 3 + 2, none⟩ = some (.int .i64 q3) at d2
          have g0 := hus' 0 _ rfl
          change World.cell? _ ⟨b', o' + j * 3, none⟩ = some (.int .i64 q1) at g0
          have g1 := hus' 1 _ rfl
          change World.cell? _ ⟨b', o' + j * 3 + 1, none⟩ = some (.string q2) at g1
          have g2 := hus' 2 _ rfl
          change World.cell? _ ⟨b', o' + j * 3 + 2, none⟩ = some (.int .i64 q3) at g2
          have hq := neqJob q1 q2 q3
          clear hxk hus hus' hrep hrep'
          go_wp2
          go_quiet (fail)
          go_wp2
          go_roundw
          case rel => exact ⟨j + 1, _, by go_num, rfl, by omega⟩
          case measure => simp [intOf]; omega
        · obtain rfl : j = nj := by omega
          go_wp2
          go_ret
          exact ⟨rfl, below_drewN HB.out _⟩
end Go.Proofs.YtckooioikcenmaaGreat

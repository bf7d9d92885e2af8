/- Flows of equal data are the same. Conditions: sizes a machine can have. -/
import Derived.Test.YtckooioikcenmaaGreatCkS6
import Derived.Test.YtckooioikcenmaaGreatCkG4
namespace Go.Proofs.YtckooioikcenmaaGreat
open Go.RowKit
set_option maxRecDepth 20000 in
set_option maxHeartbeats 4000000 in
theorem same21_any (B : Nat) (qi qq qp : ByteArray) (qa qo qov qln qla : Int) (qst qcl : Bool) (u1 u2 u3 u4 u5 u6 v1 v2 v3 v4 v5 v6 : Value) (qcs : List DCmd) (qts : List Int) (qks : List DKnown) (qss : List Int) (qas : List DAct) (qsl : List DSleep) (w : World)
    (hu1 : LRep mCmd B w u1 qcs) (hu2 : LRep mI B w u2 qts) (hu3 : LRep mKnown B w u3 qks) (hu4 : LRep mI B w u4 qss) (hu5 : LRep mAct B w u5 qas) (hu6 : LRep mSleep B w u6 qsl) (hv1 : LRep mCmd B w v1 qcs) (hv2 : LRep mI B w v2 qts) (hv3 : LRep mKnown B w v3 qks) (hv4 : LRep mI B w v4 qss) (hv5 : LRep mAct B w v5 qas) (hv6 : LRep mSleep B w v6 qsl) (hB : B ≤ w.heap.size) :
    Calls Tryz.prog 46 #[.agg #[.string qi, .string qq, .string qp, .int .i64 qa, u1, u2, u3, u4, .bool qst, .bool qcl, .int .i64 qo, .int .i64 qov, .int .i64 qln, .int .i64 qla, u5, u6], .agg #[.string qi, .string qq, .string qp, .int .i64 qa, v1, v2, v3, v4, .bool qst, .bool qcl, .int .i64 qo, .int .i64 qov, .int .i64 qln, .int .i64 qla, v5, v6]] w (SPost w) := by
  obtain ⟨A1, c1, rfl⟩ := hu1.form
  obtain ⟨A2, c2, rfl⟩ := hu2.form
  obtain ⟨A3, c3, rfl⟩ := hu3.form
  obtain ⟨A4, c4, rfl⟩ := hu4.form
  obtain ⟨A5, c5, rfl⟩ := hu5.form
  obtain ⟨A6, c6, rfl⟩ := hu6.form
  obtain ⟨D1, e1, rfl⟩ := hv1.form
  obtain ⟨D2, e2, rfl⟩ := hv2.form
  obtain ⟨D3, e3, rfl⟩ := hv3.form
  obtain ⟨D4, e4, rfl⟩ := hv4.form
  obtain ⟨D5, e5, rfl⟩ := hv5.form
  obtain ⟨D6, e6, rfl⟩ := hv6.form
  have hm5 := hu5.max
  have hm6 := hu6.max
  have hb : Below w.heap.size w (((w.alloc (.cells #[.string qi, .string qq, .string qp, .int .i64 qa, .slice A1 qcs.length c1, .slice A2 qts.length c2, .slice A3 qks.length c3, .slice A4 qss.length c4, .bool qst, .bool qcl, .int .i64 qo, .int .i64 qov, .int .i64 qln, .int .i64 qla, .slice A5 qas.length c5, .slice A6 qsl.length c6] 63)).alloc (.cells #[.string qi, .string qq, .string qp, .int .i64 qa, .slice D1 qcs.length e1, .slice D2 qts.length e2, .slice D3 qks.length e3, .slice D4 qss.length e4, .bool qst, .bool qcl, .int .i64 qo, .int .i64 qov, .int .i64 qln, .int .i64 qla, .slice D5 qas.length e5, .slice D6 qsl.length e6] 63))) := ((Below.refl _ _).alloc (Nat.le_refl _) _).alloc (by simp) _
  have hbB := hb.mono hB
  have hA1 := blk_below ((Below.refl (w.alloc (.cells #[.string qi, .string qq, .string qp, .int .i64 qa, .slice A1 qcs.length c1, .slice A2 qts.length c2, .slice A3 qks.length c3, .slice A4 qss.length c4, .bool qst, .bool qcl, .int .i64 qo, .int .i64 qov, .int .i64 qln, .int .i64 qla, .slice A5 qas.length c5, .slice A6 qsl.length c6] 63)).heap.size (w.alloc (.cells #[.string qi, .string qq, .string qp, .int .i64 qa, .slice A1 qcs.length c1, .slice A2 qts.length c2, .slice A3 qks.length c3, .slice A4 qss.length c4, .bool qst, .bool qcl, .int .i64 qo, .int .i64 qov, .int .i64 qln, .int .i64 qla, .slice A5 qas.length c5, .slice A6 qsl.length c6] 63))).alloc (Nat.le_refl _) (.cells #[.string qi, .string qq, .string qp, .int .i64 qa, .slice D1 qcs.length e1, .slice D2 qts.length e2, .slice D3 qks.length e3, .slice D4 qss.length e4, .bool qst, .bool qcl, .int .i64 qo, .int .i64 qov, .int .i64 qln, .int .i64 qla, .slice D5 qas.length e5, .slice D6 qsl.length e6] 63)) (alloc_at w (.cells #[.string qi, .string qq, .string qp, .int .i64 qa, .slice A1 qcs.length c1, .slice A2 qts.length c2, .slice A3 qks.length c3, .slice A4 qss.length c4, .bool qst, .bool qcl, .int .i64 qo, .int .i64 qov, .int .i64 qln, .int .i64 qla, .slice A5 qas.length c5, .slice A6 qsl.length c6] 63))
  have hA2 := alloc_at (w.alloc (.cells #[.string qi, .string qq, .string qp, .int .i64 qa, .slice A1 qcs.length c1, .slice A2 qts.length c2, .slice A3 qks.length c3, .slice A4 qss.length c4, .bool qst, .bool qcl, .int .i64 qo, .int .i64 qov, .int .i64 qln, .int .i64 qla, .slice A5 qas.length c5, .slice A6 qsl.length c6] 63)) (.cells #[.string qi, .string qq, .string qp, .int .i64 qa, .slice D1 qcs.length e1, .slice D2 qts.length e2, .slice D3 qks.length e3, .slice D4 qss.length e4, .bool qst, .bool qcl, .int .i64 qo, .int .i64 qov, .int .i64 qln, .int .i64 qla, .slice D5 qas.length e5, .slice D6 qsl.length e6] 63)
  rw [show (w.alloc (.cells #[.string qi, .string qq, .string qp, .int .i64 qa, .slice A1 qcs.length c1, .slice A2 qts.length c2, .slice A3 qks.length c3, .slice A4 qss.length c4, .bool qst, .bool qcl, .int .i64 qo, .int .i64 qov, .int .i64 qln, .int .i64 qla, .slice A5 qas.length c5, .slice A6 qsl.length c6] 63)).heap.size = w.heap.size + 1 by simp] at hA2
  have HC := Lib.hid (same12_any B qp qa qo qov qln qla qst qcl _ _ _ _ _ _ _ _ qcs qts qks qss _ (hu1.keep mCmd_law hbB) (hu2.keep mI_law hbB) (hu3.keep mKnown_law hbB) (hu4.keep mI_law hbB) (hv1.keep mCmd_law hbB) (hv2.keep mI_law hbB) (hv3.keep mKnown_law hbB) (hv4.keep mI_law hbB) (Nat.le_trans hB hb.size))
  have HR1 := Lib.hid (range_mid (pre := [.string qi, .string qq]) (cs := [.string qp, .int .i64 qa, .slice A1 qcs.length c1, .slice A2 qts.length c2, .slice A3 qks.length c3, .slice A4 qss.length c4, .bool qst, .bool qcl, .int .i64 qo, .int .i64 qov, .int .i64 qln, .int .i64 qla]) (post := [.slice A5 qas.length c5, .slice A6 qsl.length c6]) hA1)
  have HR2 := Lib.hid (range_mid (pre := [.string qi, .string qq]) (cs := [.string qp, .int .i64 qa, .slice D1 qcs.length e1, .slice D2 qts.length e2, .slice D3 qks.length e3, .slice D4 qss.length e4, .bool qst, .bool qcl, .int .i64 qo, .int .i64 qov, .int .i64 qln, .int .i64 qla]) (post := [.slice D5 qas.length e5, .slice D6 qsl.length e6]) hA2)
  have hi : Hid ((Tryz.prog.info? 59).map (·.size) = some 12) := by show _ = _; kernel_rfl
  have HA1 := Lib.hid hA1
  have HA2 := Lib.hid hA2
  have HB1 := Lib.hid hb
  have HU5 := Lib.hid (hu5.keep mAct_law hbB)
  have HU6 := Lib.hid (hu6.keep mSleep_law hbB)
  have HV5 := Lib.hid (hv5.keep mAct_law hbB)
  have HV6 := Lib.hid (hv6.keep mSleep_law hbB)
  clear hu1 hu2 hu3 hu4 hu5 hu6 hv1 hv2 hv3 hv4 hv5 hv6 hb hbB hA1 hA2
  obtain ⟨na, hna⟩ : ∃ n, qas.length = n := ⟨_, rfl⟩
  obtain ⟨ns, hns⟩ : ∃ n, qsl.length = n := ⟨_, rfl⟩
  have HN1 := Lib.hid hna
  have HN2 := Lib.hid hns
  rw [hna] at hm5
  rw [hns] at hm6
  simp only [hna, hns] at HC HR1 HR2 HA1 HA2 HB1 HU5 HU6 HV5 HV6 ⊢
  clear hna hns
  go_enter Tryz.func46, Tryz.ntmps46
  go_wp2_with (with_reducible refine wpList_load_mid rfl 59 (.tmp 20) rfl w.heap.size 2 rfl _ _ HR1.out Tryz.underlying59 rfl hi.out ?_)
  refine HC.out.mono ?_
  rintro e w1 ⟨rfl, hbl⟩
  have hK1 := blk_below hbl HA1.out
  have hK2 := blk_below hbl HA2.out
  have b14 := blk_cell hK1 14
  have b15 := blk_cell hK1 15
  have f14 := blk_cell hK2 14
  have f15 := blk_cell hK2 15
  simp at b14 b15 f14 f15
  have hsz : B ≤ ((w.alloc (.cells #[.string qi, .string qq, .string qp, .int .i64 qa, .slice A1 qcs.length c1, .slice A2 qts.length c2, .slice A3 qks.length c3, .slice A4 qss.length c4, .bool qst, .bool qcl, .int .i64 qo, .int .i64 qov, .int .i64 qln, .int .i64 qla, .slice A5 na c5, .slice A6 ns c6] 63)).alloc (.cells #[.string qi, .string qq, .string qp, .int .i64 qa, .slice D1 qcs.length e1, .slice D2 qts.length e2, .slice D3 qks.length e3, .slice D4 qss.length e4, .bool qst, .bool qcl, .int .i64 qo, .int .i64 qov, .int .i64 qln, .int .i64 qla, .slice D5 na e5, .slice D6 ns e6] 63)).heap.size := Nat.le_trans hB HB1.out.size
  have HB := Lib.hid (HB1.out.trans (hbl.mono HB1.out.size))
  have HU5' := Lib.hid (HU5.out.keep mAct_law (hbl.mono hsz))
  have HU6' := Lib.hid (HU6.out.keep mSleep_law (hbl.mono hsz))
  have HV5' := Lib.hid (HV5.out.keep mAct_law (hbl.mono hsz))
  have HV6' := Lib.hid (HV6.out.keep mSleep_law (hbl.mono hsz))
  clear hK1 hK2 hsz HC HR1 HR2 HA1 HA2 HB1 HU5 HU6 HV5 HV6 hbl hi
  go_wp2
  go_loopw [5, 48] (fun _ i wr => ∃ k nq : Nat, i = .int .i64 k ∧ wr = w1.drewN nq ∧ k ≤ na) (fun _ i _ => na - (intOf i).toNat)
  case atStart => exact ⟨0, 0, rfl, rfl, by omega⟩
  case round =>
    obtain ⟨k, nq, rfl, rfl, hk⟩ := hrel
    by_cases hk4 : k < na
    · obtain ⟨x, hxk⟩ : ∃ x, qas[k]? = some x := ⟨qas[k]'(by rw [HN1.out]; exact hk4), List.getElem?_eq_getElem _⟩
      obtain ⟨b, o, us, rfl, _, hus, hrep⟩ := HU5'.out.at hxk
      obtain ⟨b', o', us', rfl, _, hus', hrep'⟩ := HV5'.out.at hxk
      obtain ⟨qn, qt1, qt2, qt3, qt4, qt5, qt6, qt7, qt8, qt9, qt10⟩ := x
      have ex1 := (mAct_form hrep).1
      have ex2 := (mAct_form hrep').1
      subst ex1; subst ex2
      have d0 := hus 0 _ rfl
      change World.cell? _ ⟨b, o + k * 11, none⟩ = some (.int .i64 qn) at d0
      have g0 := hus' 0 _ rfl
      change World.cell? _ ⟨b', o' + k * 11, none⟩ = some (.int .i64 qn) at g0
      have d1 := hus 1 _ rfl
      change World.cell? _ ⟨b, o + k * 11 + 1, none⟩ = some (.int .i64 qt1) at d1
      have g1 := hus' 1 _ rfl
      change World.cell? _ ⟨b', o' + k * 11 + 1, none⟩ = some (.int .i64 qt1) at g1
      have d2 := hus 2 _ rfl
      change World.cell? _ ⟨b, o + k * 11 + 2, none⟩ = some (.int .i64 qt2) at d2
      have g2 := hus' 2 _ rfl
      change World.cell? _ ⟨b', o' + k * 11 + 2, none⟩ = some (.int .i64 qt2) at g2
      have d3 := hus 3 _ rfl
      change World.cell? _ ⟨b, o + k * 11 + 3, none⟩ = some (.int .u8 qt3) at d3
      have g3 := hus' 3 _ rfl
      change World.cell? _ ⟨b', o' + k * 11 + 3, none⟩ = some (.int .u8 qt3) at g3
      have d4 := hus 4 _ rfl
      change World.cell? _ ⟨b, o + k * 11 + 4, none⟩ = some (.int .i64 qt4) at d4
      have g4 := hus' 4 _ rfl
      change World.cell? _ ⟨b', o' + k * 11 + 4, none⟩ = some (.int .i64 qt4) at g4
      have d5 := hus 5 _ rfl
      change World.cell? _ ⟨b, o + k * 11 + 5, none⟩ = some (.int .i64 qt5) at d5
      have g5 := hus' 5 _ rfl
      change World.cell? _ ⟨b', o' + k * 11 + 5, none⟩ = some (.int .i64 qt5) at g5
      have d6 := hus 6 _ rfl
      change World.cell? _ ⟨b, o + k * 11 + 6, none⟩ = some (.int .i64 qt6) at d6
      have g6 := hus' 6 _ rfl
      change World.cell? _ ⟨b', o' + k * 11 + 6, none⟩ = some (.int .i64 qt6) at g6
      have d7 := hus 7 _ rfl
      change World.cell? _ ⟨b, o + k * 11 + 7, none⟩ = some (.int .i64 qt7) at d7
      have g7 := hus' 7 _ rfl
      change World.cell? _ ⟨b', o' + k * 11 + 7, none⟩ = some (.int .i64 qt7) at g7
      have d8 := hus 8 _ rfl
      change World.cell? _ ⟨b, o + k * 11 + 8, none⟩ = some (.int .i64 qt8) at d8
      have g8 := hus' 8 _ rfl
      change World.cell? _ ⟨b', o' + k * 11 + 8, none⟩ = some (.int .i64 qt8) at g8
      have d9 := hus 9 _ rfl
      change World.cell? _ ⟨b, o + k * 11 + 9, none⟩ = some (.int .i64 qt9) at d9
      have g9 := hus' 9 _ rfl
      change World.cell? _ ⟨b', o' + k * 11 + 9, none⟩ = some (.int .i64 qt9) at g9
      have d10 := hus 10 _ rfl
      change World.cell? _ ⟨b, o + k * 11 + 10, none⟩ = some (.int .i64 qt10) at d10
      have g10 := hus' 10 _ rfl
      change World.cell? _ ⟨b', o' + k * 11 + 10, none⟩ = some (.int .i64 qt10) at g10
      have hq := neqAct qn qt1 qt2 qt3 qt4 qt5 qt6 qt7 qt8 qt9 qt10
      clear hxk hus hus' hrep hrep'
      go_wp2
      go_quiet (fail)
      go_wp2
      go_roundw
      case rel => exact ⟨k + 1, _, by go_num, rfl, by omega⟩
      case measure => simp [intOf]; omega
    · obtain rfl : k = na := by omega
      go_wp2
      go_loopw [6, 66] (fun _ i wr => ∃ k nq : Nat, i = .int .i64 k ∧ wr = w1.drewN nq ∧ k ≤ ns) (fun _ i _ => ns - (intOf i).toNat)
      case atStart => exact ⟨0, nq, rfl, rfl, by omega⟩
      case round =>
        obtain ⟨k, nq, rfl, rfl, hk⟩ := hrel
        by_cases hk4 : k < ns
        · obtain ⟨x, hxk⟩ : ∃ x, qsl[k]? = some x := ⟨qsl[k]'(by rw [HN2.out]; exact hk4), List.getElem?_eq_getElem _⟩
          obtain ⟨b, o, us, rfl, _, hus, hrep⟩ := HU6'.out.at hxk
          obtain ⟨b', o', us', rfl, _, hus', hrep'⟩ := HV6'.out.at hxk
          obtain ⟨qn, qt⟩ := x
          have ex1 := mSleep_form hrep
          have ex2 := mSleep_form hrep'
          subst ex1; subst ex2
          have d0 := hus 0 _ rfl
          change World.cell? _ ⟨b, o + k * 2, none⟩ = some (.int .i64 qn) at d0
          have g0 := hus' 0 _ rfl
          change World.cell? _ ⟨b', o' + k * 2, none⟩ = some (.int .i64 qn) at g0
          have d1 := hus 1 _ rfl
          change World.cell? _ ⟨b, o + k * 2 + 1, none⟩ = some (.int .i64 qt) at d1
          have g1 := hus' 1 _ rfl
          change World.cell? _ ⟨b', o' + k * 2 + 1, none⟩ = some (.int .i64 qt) at g1
          have hq := neqSleep qn qt
          clear hxk hus hus' hrep hrep'
          go_wp2
          go_quiet (fail)
          go_wp2
          go_roundw
          case rel => exact ⟨k + 1, _, by go_num, rfl, by omega⟩
          case measure => simp [intOf]; omega
        · obtain rfl : k = ns := by omega
          go_wp2
          go_ret
          exact ⟨rfl, below_drewN HB.out _⟩
end Go.Proofs.YtckooioikcenmaaGreat

/- Desks of equal data are the same. Conditions: sizes a machine can have. -/
import Derived.Test.YtckooioikcenmaaGreatCkS6
import Derived.Test.YtckooioikcenmaaGreatCkG3
namespace Go.Proofs.YtckooioikcenmaaGreat
open Go.RowKit
section
attribute [local go_sem] frozen?_alloc_cells World.cell?_alloc_some
set_option maxRecDepth 20000 in
set_option maxHeartbeats 4000000 in
theorem same18_any (B : Nat) (qq qat : Int) (qhad : Bool) (u1 u2 v1 v2 : Value) (qqs : List DTurn) (qls : List DLine) (w : World) (hu1 : LRep mTurn B w u1 qqs) (hu2 : LRep mLine B w u2 qls) (hv1 : LRep mTurn B w v1 qqs) (hv2 : LRep mLine B w v2 qls) (hB : B ≤ w.heap.size) :
    Calls Tryz.prog 44 #[.agg #[.int .i64 qq, u1, .int .i64 qat, .bool qhad, u2], .agg #[.int .i64 qq, v1, .int .i64 qat, .bool qhad, v2]] w (SPost w) := by
  obtain ⟨A1, c1, rfl⟩ := hu1.form
  obtain ⟨A2, c2, rfl⟩ := hu2.form
  obtain ⟨A3, c3, rfl⟩ := hv1.form
  obtain ⟨A4, c4, rfl⟩ := hv2.form
  have hm := hu2.max
  have hb : Below w.heap.size w ((w.alloc (.cells #[.int .i64 qq, .slice A1 qqs.length c1, .int .i64 qat, .bool qhad, .slice A2 qls.length c2] 31)).alloc (.cells #[.int .i64 qq, .slice A3 qqs.length c3, .int .i64 qat, .bool qhad, .slice A4 qls.length c4] 31)) := ((Below.refl _ _).alloc (Nat.le_refl _) _).alloc (by simp) _
  have HC := Lib.hid (same17_any B qq qat qhad _ _ qqs _ (hu1.keep mTurn_law (hb.mono hB)) (hv1.keep mTurn_law (hb.mono hB)) (Nat.le_trans hB hb.size))
  have HB1 := Lib.hid hb
  have HU1 := Lib.hid (hu2.keep mLine_law (hb.mono hB))
  have HV1 := Lib.hid (hv2.keep mLine_law (hb.mono hB))
  have HA1 := Lib.hid (blk_below ((Below.refl (w.alloc (.cells #[.int .i64 qq, .slice A1 qqs.length c1, .int .i64 qat, .bool qhad, .slice A2 qls.length c2] 31)).heap.size (w.alloc (.cells #[.int .i64 qq, .slice A1 qqs.length c1, .int .i64 qat, .bool qhad, .slice A2 qls.length c2] 31))).alloc (Nat.le_refl _) (.cells #[.int .i64 qq, .slice A3 qqs.length c3, .int .i64 qat, .bool qhad, .slice A4 qls.length c4] 31)) (alloc_at w (.cells #[.int .i64 qq, .slice A1 qqs.length c1, .int .i64 qat, .bool qhad, .slice A2 qls.length c2] 31)))
  have HA2 := Lib.hid (alloc_at (w.alloc (.cells #[.int .i64 qq, .slice A1 qqs.length c1, .int .i64 qat, .bool qhad, .slice A2 qls.length c2] 31)) (.cells #[.int .i64 qq, .slice A3 qqs.length c3, .int .i64 qat, .bool qhad, .slice A4 qls.length c4] 31))
  rw [show (w.alloc (.cells #[.int .i64 qq, .slice A1 qqs.length c1, .int .i64 qat, .bool qhad, .slice A2 qls.length c2] 31)).heap.size = w.heap.size + 1 by simp] at HA2
  clear hu1 hu2 hv1 hv2 hb
  obtain ⟨ln, hln⟩ : ∃ ln, qls.length = ln := ⟨_, rfl⟩
  have HL := Lib.hid hln
  rw [hln] at hm HU1 HV1 HB1 HC HA1 HA2 ⊢
  clear hln
  go_enter Tryz.func44, Tryz.ntmps44
  go_wp2_with fail
  refine HC.out.mono ?_
  rintro e w1 ⟨rfl, hbl⟩
  have hB3 : Below B w w1 := (HB1.out.trans (hbl.mono HB1.out.size)).mono hB
  have HBs := Lib.hid (HB1.out.trans (hbl.mono HB1.out.size))
  have HU := Lib.hid (HU1.out.keep mLine_law (hbl.mono (Nat.le_trans hB HB1.out.size)))
  have HV := Lib.hid (HV1.out.keep mLine_law (hbl.mono (Nat.le_trans hB HB1.out.size)))
  have HK1 := Lib.hid (blk_below hbl HA1.out)
  have HK2 := Lib.hid (blk_below hbl HA2.out)
  have b1 := blk_cell HK1.out 4
  have b2 := blk_cell HK2.out 4
  simp at b1 b2
  clear HC HU1 HV1 HB1 HA1 HA2 hbl
  go_wp2
  clear b1 b2 hB3
  have HSZ : Hid (B ≤ w1.heap.size) := Nat.le_trans hB HBs.out.size
  go_loopw [5, 27] (fun _ i wr => ∃ (k : Nat), i = .int .i64 k ∧ k ≤ ln ∧ Hid (Below w.heap.size w wr) ∧ Hid (wr.heap[w.heap.size]? = some (.cells #[.int .i64 qq, .slice A1 qqs.length c1, .int .i64 qat, .bool qhad, .slice A2 ln c2] 31)) ∧ Hid (wr.heap[w.heap.size + 1]? = some (.cells #[.int .i64 qq, .slice A3 qqs.length c3, .int .i64 qat, .bool qhad, .slice A4 ln c4] 31)) ∧ Hid (Below w1.heap.size w1 wr)) (fun _ i _ => ln - (intOf i).toNat)
  case atStart => exact ⟨0, rfl, by omega, HBs, HK1, HK2, Lib.hid (Below.refl _ _)⟩
  case round =>
    clear HBs HK1 HK2
    obtain ⟨k, rfl, hk, HB, HK1, HK2, HBW⟩ := hrel
    have hsz := HSZ.out
    have b1 := blk_cell HK1.out 4
    have b2 := blk_cell HK2.out 4
    simp at b1 b2
    by_cases hk4 : k < ln
    · obtain ⟨x, hxk⟩ : ∃ n, qls[k]? = some n := ⟨qls[k]'(by rw [HL.out]; exact hk4), List.getElem?_eq_getElem _⟩
      obtain ⟨b, o, us, rfl, hbb, hus, hrep⟩ := (HU.out.keep mLine_law (HBW.out.mono hsz)).at hxk
      obtain ⟨b', o', us', rfl, hbb', hus', hrep'⟩ := (HV.out.keep mLine_law (HBW.out.mono hsz)).at hxk
      obtain ⟨qs, qn, ql⟩ := x
      obtain ⟨vl, rfl, hl⟩ := mLine_form hrep
      obtain ⟨vl', rfl, hl'⟩ := mLine_form hrep'
      have hlm := hl.max
      obtain ⟨Al, cl, rfl⟩ := hl.form
      obtain ⟨Al', cl', rfl⟩ := hl'.form
      have d0 := hus 0 _ rfl
      change World.cell? _ ⟨b, o + k * 3, none⟩ = some (.string qs) at d0
      have d1 := hus 1 _ rfl
      change World.cell? _ ⟨b, o + k * 3 + 1, none⟩ = some (.int .i64 qn) at d1
      have d2 := hus 2 _ rfl
      change World.cell? _ ⟨b, o + k * 3 + 2, none⟩ = some (.slice Al ql.length cl) at d2
      have g0 := hus' 0 _ rfl
      change World.cell? _ ⟨b', o' + k * 3, none⟩ = some (.string qs) at g0
      have g1 := hus' 1 _ rfl
      change World.cell? _ ⟨b', o' + k * 3 + 1, none⟩ = some (.int .i64 qn) at g1
      have g2 := hus' 2 _ rfl
      change World.cell? _ ⟨b', o' + k * 3 + 2, none⟩ = some (.slice Al' ql.length cl') at g2
      have HX := Lib.hid hl
      have HX' := Lib.hid hl'
      clear hxk hus hrep hus' hrep' hl hl' hbb hbb'
      obtain ⟨m, hm2⟩ : ∃ m, ql.length = m := ⟨_, rfl⟩
      have HM := Lib.hid hm2
      rw [hm2] at HX HX' d2 g2 hlm
      clear hm2
      go_wp2
      go_region
      · have HXB : Hid (Below wr.heap.size wr (((wr.alloc (.cells #[.string qs, .int .i64 qn, .slice Al m cl] 120)).alloc (.cells #[.string qs, .int .i64 qn, .slice Al' m cl'] 120)))) := (((Below.refl _ _).alloc (Nat.le_refl _) _).alloc (by simp) _)
        go_wp2
        go_loopw [8, 64] (fun _ i wi => ∃ j nq : Nat, i = .int .i64 j ∧ wi = World.drewN (((wr.alloc (.cells #[.string qs, .int .i64 qn, .slice Al m cl] 120)).alloc (.cells #[.string qs, .int .i64 qn, .slice Al' m cl'] 120))) nq ∧ j ≤ m) (fun _ i _ => m - (intOf i).toNat)
        case atStart => exact ⟨0, 1, rfl, rfl, by omega⟩
        case round =>
          obtain ⟨j, nq, rfl, rfl, hj⟩ := hrel
          by_cases hj4 : j < m
          · obtain ⟨x, hxk⟩ : ∃ x, ql[j]? = some x := ⟨ql[j]'(by rw [HM.out]; exact hj4), List.getElem?_eq_getElem _⟩
            obtain ⟨bi, oi, us, rfl, _, hus, hrep⟩ := HX.out.at hxk
            obtain ⟨bj, oj, us', rfl, _, hus', hrep'⟩ := HX'.out.at hxk
            obtain ⟨qi, qc⟩ := x
            have e1 := mItem_form hrep
            have e2 := mItem_form hrep'
            subst e1; subst e2
            have d5 := hus 0 _ rfl
            change World.cell? _ ⟨bi, oi + j * 2, none⟩ = some (.int .i64 qi) at d5
            have d6 := hus 1 _ rfl
            change World.cell? _ ⟨bi, oi + j * 2 + 1, none⟩ = some (.int .i64 qc) at d6
            have g5 := hus' 0 _ rfl
            change World.cell? _ ⟨bj, oj + j * 2, none⟩ = some (.int .i64 qi) at g5
            have g6 := hus' 1 _ rfl
            change World.cell? _ ⟨bj, oj + j * 2 + 1, none⟩ = some (.int .i64 qc) at g6
            have hq := neqItem qi qc
            clear hxk hus hus' hrep hrep'
            go_wp2
            go_quiet (fail)
            go_wp2
            go_roundw
            case rel => exact ⟨j + 1, _, by go_num, rfl, by omega⟩
            case measure => simp [intOf]; omega
          · obtain rfl : j = m := by omega
            have HXN := Lib.hid (below_drewN HXB.out nq)
            go_wp2
            go_roundw
            case rel => exact ⟨k + 1, by go_num, by omega, Lib.hid (HB.out.trans (HXN.out.mono HB.out.size)), Lib.hid (blk_below HXN.out HK1.out), Lib.hid (blk_below HXN.out HK2.out), Lib.hid (HBW.out.trans (HXN.out.mono HBW.out.size))⟩
            case measure => simp [intOf]; omega
      · have HXB : Hid (Below wr.heap.size wr (((wr.alloc (.cells #[.string qs, .int .i64 qn, .slice Al' m cl'] 120)).alloc (.cells #[.string qs, .int .i64 qn, .slice Al m cl] 120)))) := (((Below.refl _ _).alloc (Nat.le_refl _) _).alloc (by simp) _)
        go_wp2
        go_loopw [8, 64] (fun _ i wi => ∃ j nq : Nat, i = .int .i64 j ∧ wi = World.drewN (((wr.alloc (.cells #[.string qs, .int .i64 qn, .slice Al' m cl'] 120)).alloc (.cells #[.string qs, .int .i64 qn, .slice Al m cl] 120))) nq ∧ j ≤ m) (fun _ i _ => m - (intOf i).toNat)
        case atStart => exact ⟨0, 1, rfl, rfl, by omega⟩
        case round =>
          obtain ⟨j, nq, rfl, rfl, hj⟩ := hrel
          by_cases hj4 : j < m
          · obtain ⟨x, hxk⟩ : ∃ x, ql[j]? = some x := ⟨ql[j]'(by rw [HM.out]; exact hj4), List.getElem?_eq_getElem _⟩
            obtain ⟨bi, oi, us, rfl, _, hus, hrep⟩ := HX.out.at hxk
            obtain ⟨bj, oj, us', rfl, _, hus', hrep'⟩ := HX'.out.at hxk
            obtain ⟨qi, qc⟩ := x
            have e1 := mItem_form hrep
            have e2 := mItem_form hrep'
            subst e1; subst e2
            have d5 := hus 0 _ rfl
            change World.cell? _ ⟨bi, oi + j * 2, none⟩ = some (.int .i64 qi) at d5
            have d6 := hus 1 _ rfl
            change World.cell? _ ⟨bi, oi + j * 2 + 1, none⟩ = some (.int .i64 qc) at d6
            have g5 := hus' 0 _ rfl
            change World.cell? _ ⟨bj, oj + j * 2, none⟩ = some (.int .i64 qi) at g5
            have g6 := hus' 1 _ rfl
            change World.cell? _ ⟨bj, oj + j * 2 + 1, none⟩ = some (.int .i64 qc) at g6
            have hq := neqItem qi qc
            clear hxk hus hus' hrep hrep'
            go_wp2
            go_quiet (fail)
            go_wp2
            go_roundw
            case rel => exact ⟨j + 1, _, by go_num, rfl, by omega⟩
            case measure => simp [intOf]; omega
          · obtain rfl : j = m := by omega
            have HXN := Lib.hid (below_drewN HXB.out nq)
            go_wp2
            go_roundw
            case rel => exact ⟨k + 1, by go_num, by omega, Lib.hid (HB.out.trans (HXN.out.mono HB.out.size)), Lib.hid (blk_below HXN.out HK1.out), Lib.hid (blk_below HXN.out HK2.out), Lib.hid (HBW.out.trans (HXN.out.mono HBW.out.size))⟩
            case measure => simp [intOf]; omega
    · obtain rfl : k = ln := by omega
      go_wp2
      go_ret
      exact ⟨rfl, HB.out⟩
end
end Go.Proofs.YtckooioikcenmaaGreat

/- Great of a desk. Conditions: sizes a machine can have. -/
import Derived.Test.YtckooioikcenmaaGreatCkG1
namespace Go.Proofs.YtckooioikcenmaaGreat
open Go.RowKit
def bigLine (x : DLine) : Bool := decide (60 < x.2.2.length ∨ 3000 < x.1.size)
def gDesk (qqs : List DTurn) (qls : List DLine) : Bool := gFair qqs || decide (30 < qls.length) || qls.any bigLine
set_option maxRecDepth 20000 in
set_option maxHeartbeats 2000000 in
theorem great18_any (B : Nat) (qq qat : Int) (qhad : Bool) (v1 v2 : Value) (qqs : List DTurn) (qls : List DLine) (w : World) (hv1 : LRep mTurn B w v1 qqs) (hv2 : LRep mLine B w v2 qls) (hB : B ≤ w.heap.size) :
    Calls Tryz.prog 16 #[.agg #[.int .i64 qq, v1, .int .i64 qat, .bool qhad, v2]] w (GPost (gDesk qqs qls) w) := by
  obtain ⟨A1, c1, rfl⟩ := hv1.form
  obtain ⟨A2, c2, rfl⟩ := hv2.form
  have hm := hv2.max
  have hb : Below w.heap.size w (w.alloc (.cells #[.int .i64 qq, .slice A1 qqs.length c1, .int .i64 qat, .bool qhad, .slice A2 qls.length c2] 31)) := (Below.refl _ _).alloc (Nat.le_refl _) _
  have HC := Lib.hid (great17_any B qq qat qhad _ qqs _ (hv1.keep mTurn_law (hb.mono hB)) (Nat.le_trans hB hb.size))
  have HB1 := Lib.hid hb
  have HV1 := Lib.hid (hv2.keep mLine_law (hb.mono hB))
  have HA := Lib.hid (alloc_at w (.cells #[.int .i64 qq, .slice A1 qqs.length c1, .int .i64 qat, .bool qhad, .slice A2 qls.length c2] 31))
  clear hv1 hv2 hb
  obtain ⟨ln, hln⟩ : ∃ ln, qls.length = ln := ⟨_, rfl⟩
  have HL := Lib.hid hln
  have HD : Hid (gDesk qqs qls = (gFair qqs || decide (30 < ln) || qls.any bigLine)) := by show _ = _; rw [← hln]; rfl
  rw [hln] at hm HV1 HB1 HC HA ⊢
  clear hln
  go_enter Tryz.func16, Tryz.ntmps16
  go_wp2_with fail
  refine HC.out.mono ?_
  rintro e w1 ⟨rfl, hbl⟩
  have HB := Lib.hid (HB1.out.trans (hbl.mono HB1.out.size))
  have HV := Lib.hid (HV1.out.keep mLine_law (hbl.mono (Nat.le_trans hB HB1.out.size)))
  have HK := Lib.hid (blk_below hbl HA.out)
  have b1 := blk_cell HK.out 4
  simp at b1
  clear hbl HB1 HV1 HC HA
  generalize gFair qqs = gf at *
  cases gf with
  | true =>
    have HT : Hid (gDesk qqs qls = true) := by show _ = _; rw [HD.out]; simp
    go_wp2
    go_ret
    exact ⟨by rw [HT.out]; rfl, HB.out⟩
  | false =>
    by_cases h30 : 30 < ln
    · have HT : Hid (gDesk qqs qls = true) := by show _ = _; rw [HD.out]; simp [h30]
      go_wp2
      go_ret
      exact ⟨by rw [HT.out]; rfl, HB.out⟩
    · have HT : Hid (gDesk qqs qls = qls.any bigLine) := by show _ = _; rw [HD.out]; simp [h30]
      clear HD
      go_wp2
      go_loopw [3, 16] (fun _ i wr => ∃ (k : Nat), i = .int .i64 k ∧ wr = w1 ∧ k ≤ ln ∧ Hid ((qls.take k).any bigLine = false)) (fun _ i _ => ln - (intOf i).toNat)
      case atStart => exact ⟨0, rfl, rfl, by omega, rfl⟩
      case round =>
        obtain ⟨k, rfl, rfl, hk, HE⟩ := hrel
        by_cases hk4 : k < ln
        · obtain ⟨x, hxk⟩ : ∃ n, qls[k]? = some n := ⟨qls[k]'(by rw [HL.out]; exact hk4), List.getElem?_eq_getElem _⟩
          obtain ⟨b, o, us, rfl, hbb, hus, hrep⟩ := HV.out.at hxk
          obtain ⟨qs, qn, ql⟩ := x
          obtain ⟨vl, rfl, hl⟩ := mLine_form hrep
          have hlm := hl.max
          obtain ⟨Al, cl, rfl⟩ := hl.form
          have d0 := hus 0 _ rfl
          change World.cell? _ ⟨b, o + k * 3, none⟩ = some (.string qs) at d0
          have d2 := hus 2 _ rfl
          change World.cell? _ ⟨b, o + k * 3 + 2, none⟩ = some (.slice Al ql.length cl) at d2
          have HX := Lib.hid hxk
          have HP : Hid (bigLine (qs, qn, ql) = decide (60 < ql.length ∨ 3000 < qs.size)) := rfl
          clear hxk hus hrep hl
          generalize ql.length = m at *
          by_cases h1 : 60 < m
          · have HT2 : Hid (gDesk qqs qls = true) := by show _ = _; rw [HT.out]; exact any_at HX.out (by rw [HP.out]; simp [h1])
            go_wp2
            go_ret
            exact ⟨by rw [HT2.out]; rfl, HB.out⟩
          · by_cases h2 : 3000 < qs.size
            · have HT2 : Hid (gDesk qqs qls = true) := by show _ = _; rw [HT.out]; exact any_at HX.out (by rw [HP.out]; simp [h2])
              go_wp2
              go_ret
              exact ⟨by rw [HT2.out]; rfl, HB.out⟩
            · have HE2 := Lib.hid (any_take HX.out HE.out (by rw [HP.out]; simp; omega))
              go_wp2
              go_roundw
              case rel => exact ⟨k + 1, by go_num, by first | trivial | rfl, by omega, HE2⟩
              case measure => simp [intOf]; omega
        · obtain rfl : k = ln := by omega
          have HT2 : Hid (gDesk qqs qls = false) := by show _ = _; rw [HT.out]; exact any_all (by rw [HL.out]; exact Nat.le_refl _) HE.out
          go_wp2
          go_ret
          exact ⟨by rw [HT2.out]; rfl, HB.out⟩
end Go.Proofs.YtckooioikcenmaaGreat

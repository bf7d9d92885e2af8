/- Great of a workflow's flow. Conditions: sizes a machine can have. -/
import Derived.Test.YtckooioikcenmaaGreatCkG2
import Derived.Test.YtckooioikcenmaaGreatCkG3
namespace Go.Proofs.YtckooioikcenmaaGreat
open Go.RowKit
theorem range_mid {w : World} {b : Nat} {T : TypeId} {pre cs post : List Value} (h : w.heap[b]? = some (.cells (pre ++ (cs ++ post)).toArray T)) : w.rangeAt b pre.length cs := fun j u hj => by
  rw [blk_cell h]
  have hlt := (List.getElem?_eq_some_iff.1 hj).1
  simp only [List.getElem?_toArray]
  rw [List.getElem?_append_right (by omega), show pre.length + j - pre.length = j by omega, List.getElem?_append_left hlt]
  exact hj
def gFlow (qi qq : ByteArray) (g : Bool) (na ns : Nat) : Bool := decide (g = true ∨ 250 < na ∨ 250 < ns ∨ 3000 < qi.size ∨ 3000 < qq.size)
set_option maxRecDepth 20000 in
set_option maxHeartbeats 4000000 in
theorem great21_any (B : Nat) (qi qq qp : ByteArray) (qa qo qov qln qla : Int) (qst qcl : Bool) (v1 v2 v3 v4 v5 v6 : Value) (qcs : List DCmd) (qts : List Int) (qks : List DKnown) (qss : List Int) (qas : List DAct) (qsl : List DSleep) (w : World)
    (hv1 : LRep mCmd B w v1 qcs) (hv2 : LRep mI B w v2 qts) (hv3 : LRep mKnown B w v3 qks) (hv4 : LRep mI B w v4 qss) (hv5 : LRep mAct B w v5 qas) (hv6 : LRep mSleep B w v6 qsl) (hB : B ≤ w.heap.size) (hsz : ∀ x ∈ qcs, x.2.2.1.size ≤ 140737488351232) :
    Calls Tryz.prog 17 #[.agg #[.string qi, .string qq, .string qp, .int .i64 qa, v1, v2, v3, v4, .bool qst, .bool qcl, .int .i64 qo, .int .i64 qov, .int .i64 qln, .int .i64 qla, v5, v6]] w (GPost (gFlow qi qq (gHist qp qcs qts qks qss) qas.length qsl.length) w) := by
  obtain ⟨A5, c5, rfl⟩ := hv5.form
  obtain ⟨A6, c6, rfl⟩ := hv6.form
  obtain ⟨A1, c1, rfl⟩ := hv1.form
  obtain ⟨A2, c2, rfl⟩ := hv2.form
  obtain ⟨A3, c3, rfl⟩ := hv3.form
  obtain ⟨A4, c4, rfl⟩ := hv4.form
  have hA := alloc_at w (.cells #[.string qi, .string qq, .string qp, .int .i64 qa, .slice A1 qcs.length c1, .slice A2 qts.length c2, .slice A3 qks.length c3, .slice A4 qss.length c4, .bool qst, .bool qcl, .int .i64 qo, .int .i64 qov, .int .i64 qln, .int .i64 qla, .slice A5 qas.length c5, .slice A6 qsl.length c6] 63)
  have hb : Below w.heap.size w (w.alloc (.cells #[.string qi, .string qq, .string qp, .int .i64 qa, .slice A1 qcs.length c1, .slice A2 qts.length c2, .slice A3 qks.length c3, .slice A4 qss.length c4, .bool qst, .bool qcl, .int .i64 qo, .int .i64 qov, .int .i64 qln, .int .i64 qla, .slice A5 qas.length c5, .slice A6 qsl.length c6] 63)) := (Below.refl _ _).alloc (Nat.le_refl _) _
  have HC := Lib.hid (great12_any B qp qa qo qov qln qla qst qcl _ _ _ _ qcs qts qks qss _ (hv1.keep mCmd_law (hb.mono hB)) (hv2.keep mI_law (hb.mono hB)) (hv3.keep mKnown_law (hb.mono hB)) (hv4.keep mI_law (hb.mono hB)) (Nat.le_trans hB hb.size) hsz)
  have HR := Lib.hid (range_mid (pre := [.string qi, .string qq]) (cs := [.string qp, .int .i64 qa, .slice A1 qcs.length c1, .slice A2 qts.length c2, .slice A3 qks.length c3, .slice A4 qss.length c4, .bool qst, .bool qcl, .int .i64 qo, .int .i64 qov, .int .i64 qln, .int .i64 qla]) (post := [.slice A5 qas.length c5, .slice A6 qsl.length c6]) hA)
  have HB1 := Lib.hid hb
  have HA := Lib.hid hA
  have hi : Hid ((Tryz.prog.info? 59).map (·.size) = some 12) := by show _ = _; kernel_rfl
  clear hv1 hv2 hv3 hv4 hv5 hv6 hb hA hsz
  go_enter Tryz.func17, Tryz.ntmps17
  go_wp2_with (with_reducible refine wpList_load_mid rfl 59 (.tmp 3) rfl w.heap.size 2 rfl _ _ HR.out Tryz.underlying59 rfl hi.out ?_)
  refine HC.out.mono ?_
  rintro e w1 ⟨rfl, hbl⟩
  have HB := Lib.hid (HB1.out.trans (hbl.mono HB1.out.size))
  have HK := Lib.hid (blk_below hbl HA.out)
  have b0 := blk_cell HK.out 0
  have b1 := blk_cell HK.out 1
  have b14 := blk_cell HK.out 14
  have b15 := blk_cell HK.out 15
  simp at b0 b1 b14 b15
  clear hbl HB1 HC HA HK HR
  generalize gHist qp qcs qts qks qss = g at *
  generalize qas.length = na at *
  generalize qsl.length = ns at *
  cases g with
  | true =>
    have HT : Hid (gFlow qi qq true na ns = true) := by show _ = _; simp [gFlow]
    go_wp2
    go_ret
    exact ⟨by rw [HT.out]; rfl, HB.out⟩
  | false =>
    by_cases e1 : 250 < na
    · have HT : Hid (gFlow qi qq false na ns = true) := by show _ = _; simp [gFlow, e1]
      go_wp2
      go_ret
      exact ⟨by rw [HT.out]; (simp <;> omega), HB.out⟩
    by_cases e2 : 250 < ns
    · have HT : Hid (gFlow qi qq false na ns = true) := by show _ = _; simp [gFlow, e2]
      go_wp2
      go_ret
      exact ⟨by rw [HT.out]; (simp <;> omega), HB.out⟩
    by_cases e3 : 3000 < qi.size
    · have HT : Hid (gFlow qi qq false na ns = true) := by show _ = _; simp [gFlow, e3]
      go_wp2
      go_ret
      exact ⟨by rw [HT.out]; (simp <;> omega), HB.out⟩
    by_cases e4 : 3000 < qq.size
    · have HT : Hid (gFlow qi qq false na ns = true) := by show _ = _; simp [gFlow, e4]
      go_wp2
      go_ret
      exact ⟨by rw [HT.out]; (simp <;> omega), HB.out⟩
    have HT : Hid (gFlow qi qq false na ns = false) := by show _ = _; simp [gFlow]; omega
    go_wp2
    go_ret
    exact ⟨by rw [HT.out]; (simp <;> omega), HB.out⟩
end Go.Proofs.YtckooioikcenmaaGreat

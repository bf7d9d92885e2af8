/- Histories of equal data are the same. Conditions: sizes a machine can have. -/
import Derived.Test.YtckooioikcenmaaGreatCkM6
namespace Go.Proofs.YtckooioikcenmaaGreat
open Go.RowKit
set_option maxRecDepth 20000 in
set_option maxHeartbeats 4000000 in
theorem same12_any (B : Nat) (qp : ByteArray) (qa qo qov qln qla : Int) (qst qcl : Bool) (u1 u2 u3 u4 v1 v2 v3 v4 : Value) (qcs : List DCmd) (qts : List Int) (qks : List DKnown) (qss : List Int) (w : World)
    (hu1 : LRep mCmd B w u1 qcs) (hu2 : LRep mI B w u2 qts) (hu3 : LRep mKnown B w u3 qks) (hu4 : LRep mI B w u4 qss) (hv1 : LRep mCmd B w v1 qcs) (hv2 : LRep mI B w v2 qts) (hv3 : LRep mKnown B w v3 qks) (hv4 : LRep mI B w v4 qss) (hB : B ≤ w.heap.size) :
    Calls Tryz.prog 88 #[.agg #[.string qp, .int .i64 qa, u1, u2, u3, u4, .bool qst, .bool qcl, .int .i64 qo, .int .i64 qov, .int .i64 qln, .int .i64 qla], .agg #[.string qp, .int .i64 qa, v1, v2, v3, v4, .bool qst, .bool qcl, .int .i64 qo, .int .i64 qov, .int .i64 qln, .int .i64 qla]] w (SPost w) := by
  have k1 := LRep.form hu1
  have k2 := LRep.form hu2
  have k3 := LRep.form hu3
  have k4 := LRep.form hu4
  have k5 := LRep.form hv1
  have k6 := LRep.form hv2
  have k7 := LRep.form hv3
  have k8 := LRep.form hv4
  obtain ⟨A1, c1, rfl⟩ := k1
  obtain ⟨A2, c2, rfl⟩ := k2
  obtain ⟨A3, c3, rfl⟩ := k3
  obtain ⟨A4, c4, rfl⟩ := k4
  obtain ⟨A5, c5, rfl⟩ := k5
  obtain ⟨A6, c6, rfl⟩ := k6
  obtain ⟨A7, c7, rfl⟩ := k7
  obtain ⟨A8, c8, rfl⟩ := k8
  have hb : Below w.heap.size w ((w.alloc (.cells #[.string qp, .int .i64 qa, .slice A1 qcs.length c1, .slice A2 qts.length c2, .slice A3 qks.length c3, .slice A4 qss.length c4, .bool qst, .bool qcl, .int .i64 qo, .int .i64 qov, .int .i64 qln, .int .i64 qla] 59)).alloc (.cells #[.string qp, .int .i64 qa, .slice A5 qcs.length c5, .slice A6 qts.length c6, .slice A7 qks.length c7, .slice A8 qss.length c8, .bool qst, .bool qcl, .int .i64 qo, .int .i64 qov, .int .i64 qln, .int .i64 qla] 59)) := ((Below.refl _ _).alloc (Nat.le_refl _) _).alloc (by simp) _
  have HB := Lib.hid hb
  have hbB := hb.mono hB
  have hB2 : ∀ q, Below B w (World.drewN ((w.alloc (.cells #[.string qp, .int .i64 qa, .slice A1 qcs.length c1, .slice A2 qts.length c2, .slice A3 qks.length c3, .slice A4 qss.length c4, .bool qst, .bool qcl, .int .i64 qo, .int .i64 qov, .int .i64 qln, .int .i64 qla] 59)).alloc (.cells #[.string qp, .int .i64 qa, .slice A5 qcs.length c5, .slice A6 qts.length c6, .slice A7 qks.length c7, .slice A8 qss.length c8, .bool qst, .bool qcl, .int .i64 qo, .int .i64 qov, .int .i64 qln, .int .i64 qla] 59)) q) := fun q => below_drewN hbB q
  have H1 := Lib.hid (sameCmds_any B _ _ qcs _ (hu1.keep mCmd_law hbB) (hv1.keep mCmd_law hbB))
  have H2 := Lib.hid (fun q => sameInts_any B _ _ qts _ (hu2.keep mI_law (hB2 q)) (hv2.keep mI_law (hB2 q)))
  have H3 := Lib.hid (fun q => sameKnowns_any B _ _ qks _ (hu3.keep mKnown_law (hB2 q)) (hv3.keep mKnown_law (hB2 q)))
  have H4 := Lib.hid (fun q => sameNums_any B _ _ qss _ (hu4.keep mI_law (hB2 q)) (hv4.keep mI_law (hB2 q)))
  have hq := eqlOut qo qov
  clear hu1 hu2 hu3 hu4 hv1 hv2 hv3 hv4 hb hbB hB2
  go_enter Tryz.func88, Tryz.ntmps88
  go_wp2_with fail
  refine H1.out.mono ?_
  rintro e w1 ⟨rfl, n1, rfl⟩
  go_wp2_with fail
  refine (H2.out _).mono ?_
  rintro e w1 ⟨rfl, n2, rfl⟩
  go_wp2_with fail
  refine (H3.out _).mono ?_
  rintro e w1 ⟨rfl, n3, rfl⟩
  go_wp2_with fail
  refine (H4.out _).mono ?_
  rintro e w1 ⟨rfl, n4, rfl⟩
  go_wp2
  go_ret
  exact ⟨rfl, by first | exact below_drewN HB.out _ | exact below_drewN (below_drewN HB.out _) _⟩
end Go.Proofs.YtckooioikcenmaaGreat

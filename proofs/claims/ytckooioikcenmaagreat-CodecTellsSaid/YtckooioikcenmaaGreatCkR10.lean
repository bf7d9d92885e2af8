/- What the reader of a history makes. Conditions: sizes a machine can have. -/
import Derived.Test.YtckooioikcenmaaGreatCkL1
import Derived.Test.YtckooioikcenmaaGreatCkL2
import Derived.Test.YtckooioikcenmaaGreatCkL3
namespace Go.Proofs.YtckooioikcenmaaGreat
open Go.RowKit
set_option maxRecDepth 20000 in
set_option maxHeartbeats 2000000 in
theorem rHist_any (base r K : Nat) (v : Value) (ys : List UInt8) (s : Rd) (u0 u1 u14 u15 u16 u17 : Value) (w : World) (hs : RSt base r w v ys s) (hK : w.heap[K]? = some (.cells #[u0, u1, .string ⟨#[]⟩, .int .i64 0, .slice none 0 0, .slice none 0 0, .slice none 0 0, .slice none 0 0, .bool false, .bool false, .int .i64 0, .int .i64 0, .int .i64 0, .int .i64 0, u14, u15, u16, u17] 65)) (hb : base ≤ K) :
    Calls Tryz.prog 75 #[.pointer (some ⟨r, 0, none⟩), .pointer (some ⟨K, 2, none⟩)] w fun e w' => e = .returned (.tuple #[]) ∧ RSt base r w' v ys (cHist.rd ys s).2 ∧ (∃ g0 g1 g2 g3 g4 g5 g6 g7 g8 g9 g10 g11 : Value, w'.heap[K]? = some (.cells #[u0, u1, g0, g1, g2, g3, g4, g5, g6, g7, g8, g9, g10, g11, u14, u15, u16, u17] 65) ∧ mHist.own base w' [g0, g1, g2, g3, g4, g5, g6, g7, g8, g9, g10, g11] (cHist.rd ys s).1) ∧ Chg r K w w' := by
  have hne : r ≠ K := ne_type hs.rd hK (by decide)
  have HRB0 := Lib.hid (alloc_at w (.cells #[.pointer (some ⟨r, 0, none⟩)] 92))
  have HS0 := Lib.hid (hs.alloc (.cells #[.pointer (some ⟨r, 0, none⟩)] 92))
  have HK0 := Lib.hid (blk_alloc hK (.cells #[.pointer (some ⟨r, 0, none⟩)] 92))
  have HC0 : Hid (Chg r K w (w.alloc (.cells #[.pointer (some ⟨r, 0, none⟩)] 92))) := (Chg.refl _ _ _).alloc _
  have hrr : w.heap.size ≠ r := by have := hs.lt; omega
  have hrK : w.heap.size ≠ K := by have := blk_lt hK; omega
  clear hs hK
  go_enter Tryz.func75, Tryz.ntmps75
  have z0 := blk_cell HRB0.out 0
  simp at z0
  have HSA : Hid (RSt base r (World.drew (World.alloc (w.alloc (.cells #[.pointer (some ⟨r, 0, none⟩)] 92)) (.cells #[.pointer (some ⟨K, 2, none⟩)] 97))) v ys s) := RSt.drew (HS0.out.alloc _)
  have HKA : Hid ((World.heap (World.drew (World.alloc (w.alloc (.cells #[.pointer (some ⟨r, 0, none⟩)] 92)) (.cells #[.pointer (some ⟨K, 2, none⟩)] 97))))[K]? = some (.cells #[u0, u1, .string ⟨#[]⟩, .int .i64 0, .slice none 0 0, .slice none 0 0, .slice none 0 0, .slice none 0 0, .bool false, .bool false, .int .i64 0, .int .i64 0, .int .i64 0, .int .i64 0, u14, u15, u16, u17] 65)) := blk_alloc (w := (w.alloc (.cells #[.pointer (some ⟨r, 0, none⟩)] 92))) HK0.out _
  have HEL : Hid (ElemsAt (World.drew (World.alloc (w.alloc (.cells #[.pointer (some ⟨r, 0, none⟩)] 92)) (.cells #[.pointer (some ⟨K, 2, none⟩)] 97))) (World.heap (w.alloc (.cells #[.pointer (some ⟨r, 0, none⟩)] 92))).size 97 (ptrs K [2])) := elems_alloc (w.alloc (.cells #[.pointer (some ⟨r, 0, none⟩)] 92)) 97 [.pointer (some ⟨K, 2, none⟩)]
  have HBR : Hid ((World.heap (w.alloc (.cells #[.pointer (some ⟨r, 0, none⟩)] 92))).size ≠ r) := by have := HS0.out.lt; show _ ≠ _; omega
  have HBK : Hid ((World.heap (w.alloc (.cells #[.pointer (some ⟨r, 0, none⟩)] 92))).size ≠ K) := by have := blk_lt HK0.out; show _ ≠ _; omega
  rw [show (World.heap (w.alloc (.cells #[.pointer (some ⟨r, 0, none⟩)] 92))).size = w.heap.size + 1 by simp] at HEL HBR HBK
  go_wp2
  go_region_held3 (fun w' => w'.cell? ⟨w.heap.size, 0, none⟩ = some (.pointer (some ⟨r, 0, none⟩))) (go_keep) ((go_at_call 33; refine (textsR_any base r K _ v ys s 65 #[u0, u1, .string ⟨#[]⟩, .int .i64 0, .slice none 0 0, .slice none 0 0, .slice none 0 0, .slice none 0 0, .bool false, .bool false, .int .i64 0, .int .i64 0, .int .i64 0, .int .i64 0, u14, u15, u16, u17] [2] 1 rfl _ HSA.out HKA.out hb hne HEL.out HBR.out HBK.out (all1 rfl) (by decide) (by omega)).mono ?_; rintro e y1 ⟨rfl, hst, hk, hc⟩; have HRB1 := Lib.hid (hc.blk (blk_alloc (w := (w.alloc (.cells #[.pointer (some ⟨r, 0, none⟩)] 92))) HRB0.out _) hrr hrK); have z1 := blk_cell HRB1.out 0; simp at z1))
  clear z0 z1
  have hst2 : RSt base r y1 v ys ((cS.rd ys (s)).2) := hst
  have hk2 : y1.heap[K]? = some (.cells #[u0, u1, .string ((cS.rd ys (s)).1), .int .i64 0, .slice none 0 0, .slice none 0 0, .slice none 0 0, .slice none 0 0, .bool false, .bool false, .int .i64 0, .int .i64 0, .int .i64 0, .int .i64 0, u14, u15, u16, u17] 65) := hk
  obtain ⟨qp, e1⟩ : ∃ z, (cS.rd ys (s)).1 = z := ⟨_, rfl⟩
  obtain ⟨s0, e2⟩ : ∃ z, (cS.rd ys (s)).2 = z := ⟨_, rfl⟩
  simp only [e1, e2] at hst2 hk2
  have F0 := Lib.hid e1
  have G0 := Lib.hid e2
  clear e1 e2
  have HS1 := Lib.hid hst2
  have HK1 := Lib.hid hk2
  have HCs : Hid (Chg r K (w.alloc (.cells #[.pointer (some ⟨r, 0, none⟩)] 92)) y1) := (((Chg.refl r K (w.alloc (.cells #[.pointer (some ⟨r, 0, none⟩)] 92))).alloc _).drew).trans hc
  have HC1 := Lib.hid (HC0.out.trans HCs.out)
  clear hst hst2 hk hk2 hc HCs HSA HKA HEL HBR HBK HS0 HK0 HC0 HRB0
  have z0 := blk_cell HRB1.out 0
  simp at z0
  have HSA : Hid (RSt base r (World.drew (World.alloc y1 (.cells #[.pointer (some ⟨K, 3, none⟩)] 99))) v ys s0) := RSt.drew (HS1.out.alloc _)
  have HKA : Hid ((World.heap (World.drew (World.alloc y1 (.cells #[.pointer (some ⟨K, 3, none⟩)] 99))))[K]? = some (.cells #[u0, u1, .string qp, .int .i64 0, .slice none 0 0, .slice none 0 0, .slice none 0 0, .slice none 0 0, .bool false, .bool false, .int .i64 0, .int .i64 0, .int .i64 0, .int .i64 0, u14, u15, u16, u17] 65)) := blk_alloc (w := y1) HK1.out _
  have HEL : Hid (ElemsAt (World.drew (World.alloc y1 (.cells #[.pointer (some ⟨K, 3, none⟩)] 99))) (World.heap y1).size 99 (ptrs K [3])) := elems_alloc y1 99 [.pointer (some ⟨K, 3, none⟩)]
  have HBR : Hid ((World.heap y1).size ≠ r) := by have := HS1.out.lt; show _ ≠ _; omega
  have HBK : Hid ((World.heap y1).size ≠ K) := by have := blk_lt HK1.out; show _ ≠ _; omega
  go_wp2
  go_region_held3 (fun w' => w'.cell? ⟨w.heap.size, 0, none⟩ = some (.pointer (some ⟨r, 0, none⟩))) (go_keep) ((go_at_call 34; refine (numbersR_any base r K _ v ys s0 65 #[u0, u1, .string qp, .int .i64 0, .slice none 0 0, .slice none 0 0, .slice none 0 0, .slice none 0 0, .bool false, .bool false, .int .i64 0, .int .i64 0, .int .i64 0, .int .i64 0, u14, u15, u16, u17] [3] 1 rfl _ HSA.out HKA.out hb hne HEL.out HBR.out HBK.out (all1 ⟨_, rfl⟩) (by decide) (by omega)).mono ?_; rintro e y2 ⟨rfl, hst, hk, hc⟩; have HRB2 := Lib.hid (hc.blk (blk_alloc (w := y1) HRB1.out _) hrr hrK); have z1 := blk_cell HRB2.out 0; simp at z1))
  clear z0 z1
  have hst2 : RSt base r y2 v ys ((cI.rd ys (s0)).2) := hst
  have hk2 : y2.heap[K]? = some (.cells #[u0, u1, .string qp, .int .i64 ((cI.rd ys (s0)).1), .slice none 0 0, .slice none 0 0, .slice none 0 0, .slice none 0 0, .bool false, .bool false, .int .i64 0, .int .i64 0, .int .i64 0, .int .i64 0, u14, u15, u16, u17] 65) := hk
  obtain ⟨qa, e1⟩ : ∃ z, (cI.rd ys (s0)).1 = z := ⟨_, rfl⟩
  obtain ⟨s1, e2⟩ : ∃ z, (cI.rd ys (s0)).2 = z := ⟨_, rfl⟩
  simp only [e1, e2] at hst2 hk2
  have F1 := Lib.hid e1
  have G1 := Lib.hid e2
  clear e1 e2
  have HS2 := Lib.hid hst2
  have HK2 := Lib.hid hk2
  have HCs : Hid (Chg r K y1 y2) := (((Chg.refl r K y1).alloc _).drew).trans hc
  have HC2 := Lib.hid (HC1.out.trans HCs.out)
  clear hst hst2 hk hk2 hc HCs HSA HKA HEL HBR HBK HS1 HK1 HC1 HRB1
  have z0 := blk_cell HRB2.out 0
  simp at z0
  go_wp2_with fail
  refine (rlCmd_any base r (w.heap.size) v ys s1 _ HS2.out HRB2.out).mono ?_
  rintro e y3 ⟨Aqcs, cqcs, rfl, hst2, hown, hg⟩
  obtain ⟨qcs, e1⟩ : ∃ z, ((cL cCmd).rd ys s1).1 = z := ⟨_, rfl⟩
  obtain ⟨s2, e2⟩ : ∃ z, ((cL cCmd).rd ys s1).2 = z := ⟨_, rfl⟩
  rw [e1] at hown ⊢
  rw [e2] at hst2
  have F2 := Lib.hid e1
  have G2 := Lib.hid e2
  clear e1 e2
  have hk := (Chg.grown (K := K) hg)
  have hk2 : y3.heap[K]? = some (.cells #[u0, u1, .string qp, .int .i64 qa, .slice none 0 0, .slice none 0 0, .slice none 0 0, .slice none 0 0, .bool false, .bool false, .int .i64 0, .int .i64 0, .int .i64 0, .int .i64 0, u14, u15, u16, u17] 65) := (hg.block K (blk_lt HK2.out) (fun e => hne (by injection e with e; exact e.symm))).trans HK2.out
  have q := blk_cell hk2 4
  have qf := blk_free hk2 4
  simp at q
  have HS3 : Hid (RSt base r (y3.setCell ⟨K, 4, none⟩ (.slice Aqcs qcs.length cqcs)) v ys s2) := hst2.set hb hne _ _
  have HK3 : Hid ((World.heap (y3.setCell ⟨K, 4, none⟩ (.slice Aqcs qcs.length cqcs)))[K]? = some (.cells #[u0, u1, .string qp, .int .i64 qa, .slice Aqcs qcs.length cqcs, .slice none 0 0, .slice none 0 0, .slice none 0 0, .bool false, .bool false, .int .i64 0, .int .i64 0, .int .i64 0, .int .i64 0, u14, u15, u16, u17] 65)) := blk_set hk2 4 _
  have HCs : Hid (Chg r K y2 (y3.setCell ⟨K, 4, none⟩ (.slice Aqcs qcs.length cqcs))) := (Chg.grown hg).setK _ _
  have HC3 := Lib.hid (HC2.out.trans HCs.out)
  have HRB3 : Hid ((World.heap (y3.setCell ⟨K, 4, none⟩ (.slice Aqcs qcs.length cqcs)))[w.heap.size]? = some (.cells #[.pointer (some ⟨r, 0, none⟩)] 92)) := HCs.out.blk HRB2.out hrr hrK
  have HOqcs := Lib.hid (hown.keep mCmd_law (Chg.stay ((Chg.refl r K y3).setK 4 (.slice Aqcs qcs.length cqcs)) hst2.rd hk2 (by decide) (by decide)))
  clear hown
  clear hst2 hg hk hk2 HCs HS2 HK2 HC2 HRB2 z0
  have z0 := blk_cell HRB3.out 0
  simp at z0
  go_wp2_with fail
  refine (rlInt_any base r (w.heap.size) v ys s2 _ HS3.out HRB3.out).mono ?_
  rintro e y4 ⟨Aqts, cqts, rfl, hst2, hown, hg⟩
  obtain ⟨qts, e1⟩ : ∃ z, ((cL cI).rd ys s2).1 = z := ⟨_, rfl⟩
  obtain ⟨s3, e2⟩ : ∃ z, ((cL cI).rd ys s2).2 = z := ⟨_, rfl⟩
  rw [e1] at hown ⊢
  rw [e2] at hst2
  have F3 := Lib.hid e1
  have G3 := Lib.hid e2
  clear e1 e2
  have hk := (Chg.grown (K := K) hg)
  have hk2 : y4.heap[K]? = some (.cells #[u0, u1, .string qp, .int .i64 qa, .slice Aqcs qcs.length cqcs, .slice none 0 0, .slice none 0 0, .slice none 0 0, .bool false, .bool false, .int .i64 0, .int .i64 0, .int .i64 0, .int .i64 0, u14, u15, u16, u17] 65) := (hg.block K (blk_lt HK3.out) (fun e => hne (by injection e with e; exact e.symm))).trans HK3.out
  have q := blk_cell hk2 5
  have qf := blk_free hk2 5
  simp at q
  have HS4 : Hid (RSt base r (y4.setCell ⟨K, 5, none⟩ (.slice Aqts qts.length cqts)) v ys s3) := hst2.set hb hne _ _
  have HK4 : Hid ((World.heap (y4.setCell ⟨K, 5, none⟩ (.slice Aqts qts.length cqts)))[K]? = some (.cells #[u0, u1, .string qp, .int .i64 qa, .slice Aqcs qcs.length cqcs, .slice Aqts qts.length cqts, .slice none 0 0, .slice none 0 0, .bool false, .bool false, .int .i64 0, .int .i64 0, .int .i64 0, .int .i64 0, u14, u15, u16, u17] 65)) := blk_set hk2 5 _
  have HCs : Hid (Chg r K (y3.setCell ⟨K, 4, none⟩ (.slice Aqcs qcs.length cqcs)) (y4.setCell ⟨K, 5, none⟩ (.slice Aqts qts.length cqts))) := (Chg.grown hg).setK _ _
  have HC4 := Lib.hid (HC3.out.trans HCs.out)
  have HRB4 : Hid ((World.heap (y4.setCell ⟨K, 5, none⟩ (.slice Aqts qts.length cqts)))[w.heap.size]? = some (.cells #[.pointer (some ⟨r, 0, none⟩)] 92)) := HCs.out.blk HRB3.out hrr hrK
  have HOqcs := Lib.hid (HOqcs.out.keep mCmd_law (Chg.stay HCs.out HS3.out.rd HK3.out (by decide) (by decide)))
  have HOqts := Lib.hid (hown.keep mI_law (Chg.stay ((Chg.refl r K y4).setK 5 (.slice Aqts qts.length cqts)) hst2.rd hk2 (by decide) (by decide)))
  clear hown
  clear hst2 hg hk hk2 HCs HS3 HK3 HC3 HRB3 z0
  have z0 := blk_cell HRB4.out 0
  simp at z0
  go_wp2_with fail
  refine (rlKnown_any base r (w.heap.size) v ys s3 _ HS4.out HRB4.out).mono ?_
  rintro e y5 ⟨Aqks, cqks, rfl, hst2, hown, hg⟩
  obtain ⟨qks, e1⟩ : ∃ z, ((cL cKnown).rd ys s3).1 = z := ⟨_, rfl⟩
  obtain ⟨s4, e2⟩ : ∃ z, ((cL cKnown).rd ys s3).2 = z := ⟨_, rfl⟩
  rw [e1] at hown ⊢
  rw [e2] at hst2
  have F4 := Lib.hid e1
  have G4 := Lib.hid e2
  clear e1 e2
  have hk := (Chg.grown (K := K) hg)
  have hk2 : y5.heap[K]? = some (.cells #[u0, u1, .string qp, .int .i64 qa, .slice Aqcs qcs.length cqcs, .slice Aqts qts.length cqts, .slice none 0 0, .slice none 0 0, .bool false, .bool false, .int .i64 0, .int .i64 0, .int .i64 0, .int .i64 0, u14, u15, u16, u17] 65) := (hg.block K (blk_lt HK4.out) (fun e => hne (by injection e with e; exact e.symm))).trans HK4.out
  have q := blk_cell hk2 6
  have qf := blk_free hk2 6
  simp at q
  have HS5 : Hid (RSt base r (y5.setCell ⟨K, 6, none⟩ (.slice Aqks qks.length cqks)) v ys s4) := hst2.set hb hne _ _
  have HK5 : Hid ((World.heap (y5.setCell ⟨K, 6, none⟩ (.slice Aqks qks.length cqks)))[K]? = some (.cells #[u0, u1, .string qp, .int .i64 qa, .slice Aqcs qcs.length cqcs, .slice Aqts qts.length cqts, .slice Aqks qks.length cqks, .slice none 0 0, .bool false, .bool false, .int .i64 0, .int .i64 0, .int .i64 0, .int .i64 0, u14, u15, u16, u17] 65)) := blk_set hk2 6 _
  have HCs : Hid (Chg r K (y4.setCell ⟨K, 5, none⟩ (.slice Aqts qts.length cqts)) (y5.setCell ⟨K, 6, none⟩ (.slice Aqks qks.length cqks))) := (Chg.grown hg).setK _ _
  have HC5 := Lib.hid (HC4.out.trans HCs.out)
  have HRB5 : Hid ((World.heap (y5.setCell ⟨K, 6, none⟩ (.slice Aqks qks.length cqks)))[w.heap.size]? = some (.cells #[.pointer (some ⟨r, 0, none⟩)] 92)) := HCs.out.blk HRB4.out hrr hrK
  have HOqcs := Lib.hid (HOqcs.out.keep mCmd_law (Chg.stay HCs.out HS4.out.rd HK4.out (by decide) (by decide)))
  have HOqts := Lib.hid (HOqts.out.keep mI_law (Chg.stay HCs.out HS4.out.rd HK4.out (by decide) (by decide)))
  have HOqks := Lib.hid (hown.keep mKnown_law (Chg.stay ((Chg.refl r K y5).setK 6 (.slice Aqks qks.length cqks)) hst2.rd hk2 (by decide) (by decide)))
  clear hown
  clear hst2 hg hk hk2 HCs HS4 HK4 HC4 HRB4 z0
  have z0 := blk_cell HRB5.out 0
  simp at z0
  go_wp2_with fail
  refine (rlNum_any base r (w.heap.size) v ys s4 _ HS5.out HRB5.out).mono ?_
  rintro e y6 ⟨Aqss, cqss, rfl, hst2, hown, hg⟩
  obtain ⟨qss, e1⟩ : ∃ z, ((cL cI).rd ys s4).1 = z := ⟨_, rfl⟩
  obtain ⟨s5, e2⟩ : ∃ z, ((cL cI).rd ys s4).2 = z := ⟨_, rfl⟩
  rw [e1] at hown ⊢
  rw [e2] at hst2
  have F5 := Lib.hid e1
  have G5 := Lib.hid e2
  clear e1 e2
  have hk := (Chg.grown (K := K) hg)
  have hk2 : y6.heap[K]? = some (.cells #[u0, u1, .string qp, .int .i64 qa, .slice Aqcs qcs.length cqcs, .slice Aqts qts.length cqts, .slice Aqks qks.length cqks, .slice none 0 0, .bool false, .bool false, .int .i64 0, .int .i64 0, .int .i64 0, .int .i64 0, u14, u15, u16, u17] 65) := (hg.block K (blk_lt HK5.out) (fun e => hne (by injection e with e; exact e.symm))).trans HK5.out
  have q := blk_cell hk2 7
  have qf := blk_free hk2 7
  simp at q
  have HS6 : Hid (RSt base r (y6.setCell ⟨K, 7, none⟩ (.slice Aqss qss.length cqss)) v ys s5) := hst2.set hb hne _ _
  have HK6 : Hid ((World.heap (y6.setCell ⟨K, 7, none⟩ (.slice Aqss qss.length cqss)))[K]? = some (.cells #[u0, u1, .string qp, .int .i64 qa, .slice Aqcs qcs.length cqcs, .slice Aqts qts.length cqts, .slice Aqks qks.length cqks, .slice Aqss qss.length cqss, .bool false, .bool false, .int .i64 0, .int .i64 0, .int .i64 0, .int .i64 0, u14, u15, u16, u17] 65)) := blk_set hk2 7 _
  have HCs : Hid (Chg r K (y5.setCell ⟨K, 6, none⟩ (.slice Aqks qks.length cqks)) (y6.setCell ⟨K, 7, none⟩ (.slice Aqss qss.length cqss))) := (Chg.grown hg).setK _ _
  have HC6 := Lib.hid (HC5.out.trans HCs.out)
  have HRB6 : Hid ((World.heap (y6.setCell ⟨K, 7, none⟩ (.slice Aqss qss.length cqss)))[w.heap.size]? = some (.cells #[.pointer (some ⟨r, 0, none⟩)] 92)) := HCs.out.blk HRB5.out hrr hrK
  have HOqcs := Lib.hid (HOqcs.out.keep mCmd_law (Chg.stay HCs.out HS5.out.rd HK5.out (by decide) (by decide)))
  have HOqts := Lib.hid (HOqts.out.keep mI_law (Chg.stay HCs.out HS5.out.rd HK5.out (by decide) (by decide)))
  have HOqks := Lib.hid (HOqks.out.keep mKnown_law (Chg.stay HCs.out HS5.out.rd HK5.out (by decide) (by decide)))
  have HOqss := Lib.hid (hown.keep mI_law (Chg.stay ((Chg.refl r K y6).setK 7 (.slice Aqss qss.length cqss)) hst2.rd hk2 (by decide) (by decide)))
  clear hown
  clear hst2 hg hk hk2 HCs HS5 HK5 HC5 HRB5 z0
  have z0 := blk_cell HRB6.out 0
  simp at z0
  have HSA : Hid (RSt base r (World.drew (World.alloc (y6.setCell ⟨K, 7, none⟩ (.slice Aqss qss.length cqss)) (.cells #[.pointer (some ⟨K, 8, none⟩), .pointer (some ⟨K, 9, none⟩)] 113))) v ys s5) := RSt.drew (HS6.out.alloc _)
  have HKA : Hid ((World.heap (World.drew (World.alloc (y6.setCell ⟨K, 7, none⟩ (.slice Aqss qss.length cqss)) (.cells #[.pointer (some ⟨K, 8, none⟩), .pointer (some ⟨K, 9, none⟩)] 113))))[K]? = some (.cells #[u0, u1, .string qp, .int .i64 qa, .slice Aqcs qcs.length cqcs, .slice Aqts qts.length cqts, .slice Aqks qks.length cqks, .slice Aqss qss.length cqss, .bool false, .bool false, .int .i64 0, .int .i64 0, .int .i64 0, .int .i64 0, u14, u15, u16, u17] 65)) := blk_alloc (w := (y6.setCell ⟨K, 7, none⟩ (.slice Aqss qss.length cqss))) HK6.out _
  have HEL : Hid (ElemsAt (World.drew (World.alloc (y6.setCell ⟨K, 7, none⟩ (.slice Aqss qss.length cqss)) (.cells #[.pointer (some ⟨K, 8, none⟩), .pointer (some ⟨K, 9, none⟩)] 113))) (World.heap y6).size 113 (ptrs K [8, 9])) := by have q := elems_alloc (y6.setCell ⟨K, 7, none⟩ (.slice Aqss qss.length cqss)) 113 [.pointer (some ⟨K, 8, none⟩), .pointer (some ⟨K, 9, none⟩)]; rw [show (World.heap (y6.setCell ⟨K, 7, none⟩ (.slice Aqss qss.length cqss))).size = (World.heap y6).size by simp] at q; exact q
  have HBR : Hid ((World.heap y6).size ≠ r) := by have := HS6.out.lt; rw [show (World.heap (y6.setCell ⟨K, 7, none⟩ (.slice Aqss qss.length cqss))).size = (World.heap y6).size by simp] at this; show _ ≠ _; omega
  have HBK : Hid ((World.heap y6).size ≠ K) := by have := blk_lt HK6.out; rw [show (World.heap (y6.setCell ⟨K, 7, none⟩ (.slice Aqss qss.length cqss))).size = (World.heap y6).size by simp] at this; show _ ≠ _; omega
  go_wp2
  go_region_held3 (fun w' => w'.cell? ⟨w.heap.size, 0, none⟩ = some (.pointer (some ⟨r, 0, none⟩))) (go_keep) ((go_at_call 43; refine (flagsR_any base r K _ v ys s5 65 #[u0, u1, .string qp, .int .i64 qa, .slice Aqcs qcs.length cqcs, .slice Aqts qts.length cqts, .slice Aqks qks.length cqks, .slice Aqss qss.length cqss, .bool false, .bool false, .int .i64 0, .int .i64 0, .int .i64 0, .int .i64 0, u14, u15, u16, u17] [8, 9] 2 rfl _ HSA.out HKA.out hb hne HEL.out HBR.out HBK.out (all2 ⟨_, rfl⟩ ⟨_, rfl⟩) (by decide) (by omega)).mono ?_; rintro e y7 ⟨rfl, hst, hk, hc⟩; have HRB7 := Lib.hid (hc.blk (blk_alloc (w := (y6.setCell ⟨K, 7, none⟩ (.slice Aqss qss.length cqss))) HRB6.out _) hrr hrK); have z1 := blk_cell HRB7.out 0; simp at z1))
  clear z0 z1
  have hst2 : RSt base r y7 v ys ((cF.rd ys ((cF.rd ys (s5)).2)).2) := hst
  have hk2 : y7.heap[K]? = some (.cells #[u0, u1, .string qp, .int .i64 qa, .slice Aqcs qcs.length cqcs, .slice Aqts qts.length cqts, .slice Aqks qks.length cqks, .slice Aqss qss.length cqss, .bool ((cF.rd ys (s5)).1), .bool ((cF.rd ys ((cF.rd ys (s5)).2)).1), .int .i64 0, .int .i64 0, .int .i64 0, .int .i64 0, u14, u15, u16, u17] 65) := hk
  obtain ⟨qst, e1⟩ : ∃ z, (cF.rd ys (s5)).1 = z := ⟨_, rfl⟩
  obtain ⟨s6, e2⟩ : ∃ z, (cF.rd ys (s5)).2 = z := ⟨_, rfl⟩
  simp only [e1, e2] at hst2 hk2
  have F6 := Lib.hid e1
  have G6 := Lib.hid e2
  clear e1 e2
  obtain ⟨qcl, e1⟩ : ∃ z, (cF.rd ys (s6)).1 = z := ⟨_, rfl⟩
  obtain ⟨s7, e2⟩ : ∃ z, (cF.rd ys (s6)).2 = z := ⟨_, rfl⟩
  simp only [e1, e2] at hst2 hk2
  have F7 := Lib.hid e1
  have G7 := Lib.hid e2
  clear e1 e2
  have HS7 := Lib.hid hst2
  have HK7 := Lib.hid hk2
  have HCs : Hid (Chg r K (y6.setCell ⟨K, 7, none⟩ (.slice Aqss qss.length cqss)) y7) := (((Chg.refl r K (y6.setCell ⟨K, 7, none⟩ (.slice Aqss qss.length cqss))).alloc _).drew).trans hc
  have HC7 := Lib.hid (HC6.out.trans HCs.out)
  have HOqcs := Lib.hid (HOqcs.out.keep mCmd_law (Chg.stay HCs.out HS6.out.rd HK6.out (by decide) (by decide)))
  have HOqts := Lib.hid (HOqts.out.keep mI_law (Chg.stay HCs.out HS6.out.rd HK6.out (by decide) (by decide)))
  have HOqks := Lib.hid (HOqks.out.keep mKnown_law (Chg.stay HCs.out HS6.out.rd HK6.out (by decide) (by decide)))
  have HOqss := Lib.hid (HOqss.out.keep mI_law (Chg.stay HCs.out HS6.out.rd HK6.out (by decide) (by decide)))
  clear hst hst2 hk hk2 hc HCs HSA HKA HEL HBR HBK HS6 HK6 HC6 HRB6
  have z0 := blk_cell HRB7.out 0
  simp at z0
  have HSA : Hid (RSt base r (World.drew (World.alloc y7 (.cells #[.pointer (some ⟨K, 10, none⟩)] 101))) v ys s7) := RSt.drew (HS7.out.alloc _)
  have HKA : Hid ((World.heap (World.drew (World.alloc y7 (.cells #[.pointer (some ⟨K, 10, none⟩)] 101))))[K]? = some (.cells #[u0, u1, .string qp, .int .i64 qa, .slice Aqcs qcs.length cqcs, .slice Aqts qts.length cqts, .slice Aqks qks.length cqks, .slice Aqss qss.length cqss, .bool qst, .bool qcl, .int .i64 0, .int .i64 0, .int .i64 0, .int .i64 0, u14, u15, u16, u17] 65)) := blk_alloc (w := y7) HK7.out _
  have HEL : Hid (ElemsAt (World.drew (World.alloc y7 (.cells #[.pointer (some ⟨K, 10, none⟩)] 101))) (World.heap y7).size 101 (ptrs K [10])) := elems_alloc y7 101 [.pointer (some ⟨K, 10, none⟩)]
  have HBR : Hid ((World.heap y7).size ≠ r) := by have := HS7.out.lt; show _ ≠ _; omega
  have HBK : Hid ((World.heap y7).size ≠ K) := by have := blk_lt HK7.out; show _ ≠ _; omega
  go_wp2
  go_region_held3 (fun w' => w'.cell? ⟨w.heap.size, 0, none⟩ = some (.pointer (some ⟨r, 0, none⟩))) (go_keep) ((go_at_call 35; refine (intsR_any base r K _ v ys s7 65 #[u0, u1, .string qp, .int .i64 qa, .slice Aqcs qcs.length cqcs, .slice Aqts qts.length cqts, .slice Aqks qks.length cqks, .slice Aqss qss.length cqss, .bool qst, .bool qcl, .int .i64 0, .int .i64 0, .int .i64 0, .int .i64 0, u14, u15, u16, u17] [10] 1 rfl _ HSA.out HKA.out hb hne HEL.out HBR.out HBK.out (all1 ⟨_, rfl⟩) (by decide) (by omega)).mono ?_; rintro e y8 ⟨rfl, hst, hk, hc⟩; have HRB8 := Lib.hid (hc.blk (blk_alloc (w := y7) HRB7.out _) hrr hrK); have z1 := blk_cell HRB8.out 0; simp at z1))
  clear z0 z1
  have hst2 : RSt base r y8 v ys ((cI.rd ys (s7)).2) := hst
  have hk2 : y8.heap[K]? = some (.cells #[u0, u1, .string qp, .int .i64 qa, .slice Aqcs qcs.length cqcs, .slice Aqts qts.length cqts, .slice Aqks qks.length cqks, .slice Aqss qss.length cqss, .bool qst, .bool qcl, .int .i64 ((cI.rd ys (s7)).1), .int .i64 0, .int .i64 0, .int .i64 0, u14, u15, u16, u17] 65) := hk
  obtain ⟨qo, e1⟩ : ∃ z, (cI.rd ys (s7)).1 = z := ⟨_, rfl⟩
  obtain ⟨s8, e2⟩ : ∃ z, (cI.rd ys (s7)).2 = z := ⟨_, rfl⟩
  simp only [e1, e2] at hst2 hk2
  have F8 := Lib.hid e1
  have G8 := Lib.hid e2
  clear e1 e2
  have HS8 := Lib.hid hst2
  have HK8 := Lib.hid hk2
  have HCs : Hid (Chg r K y7 y8) := (((Chg.refl r K y7).alloc _).drew).trans hc
  have HC8 := Lib.hid (HC7.out.trans HCs.out)
  have HOqcs := Lib.hid (HOqcs.out.keep mCmd_law (Chg.stay HCs.out HS7.out.rd HK7.out (by decide) (by decide)))
  have HOqts := Lib.hid (HOqts.out.keep mI_law (Chg.stay HCs.out HS7.out.rd HK7.out (by decide) (by decide)))
  have HOqks := Lib.hid (HOqks.out.keep mKnown_law (Chg.stay HCs.out HS7.out.rd HK7.out (by decide) (by decide)))
  have HOqss := Lib.hid (HOqss.out.keep mI_law (Chg.stay HCs.out HS7.out.rd HK7.out (by decide) (by decide)))
  clear hst hst2 hk hk2 hc HCs HSA HKA HEL HBR HBK HS7 HK7 HC7 HRB7
  have z0 := blk_cell HRB8.out 0
  simp at z0
  have HSA : Hid (RSt base r (World.drew (World.alloc y8 (.cells #[.pointer (some ⟨K, 11, none⟩)] 99))) v ys s8) := RSt.drew (HS8.out.alloc _)
  have HKA : Hid ((World.heap (World.drew (World.alloc y8 (.cells #[.pointer (some ⟨K, 11, none⟩)] 99))))[K]? = some (.cells #[u0, u1, .string qp, .int .i64 qa, .slice Aqcs qcs.length cqcs, .slice Aqts qts.length cqts, .slice Aqks qks.length cqks, .slice Aqss qss.length cqss, .bool qst, .bool qcl, .int .i64 qo, .int .i64 0, .int .i64 0, .int .i64 0, u14, u15, u16, u17] 65)) := blk_alloc (w := y8) HK8.out _
  have HEL : Hid (ElemsAt (World.drew (World.alloc y8 (.cells #[.pointer (some ⟨K, 11, none⟩)] 99))) (World.heap y8).size 99 (ptrs K [11])) := elems_alloc y8 99 [.pointer (some ⟨K, 11, none⟩)]
  have HBR : Hid ((World.heap y8).size ≠ r) := by have := HS8.out.lt; show _ ≠ _; omega
  have HBK : Hid ((World.heap y8).size ≠ K) := by have := blk_lt HK8.out; show _ ≠ _; omega
  go_wp2
  go_region_held3 (fun w' => w'.cell? ⟨w.heap.size, 0, none⟩ = some (.pointer (some ⟨r, 0, none⟩))) (go_keep) ((go_at_call 34; refine (numbersR_any base r K _ v ys s8 65 #[u0, u1, .string qp, .int .i64 qa, .slice Aqcs qcs.length cqcs, .slice Aqts qts.length cqts, .slice Aqks qks.length cqks, .slice Aqss qss.length cqss, .bool qst, .bool qcl, .int .i64 qo, .int .i64 0, .int .i64 0, .int .i64 0, u14, u15, u16, u17] [11] 1 rfl _ HSA.out HKA.out hb hne HEL.out HBR.out HBK.out (all1 ⟨_, rfl⟩) (by decide) (by omega)).mono ?_; rintro e y9 ⟨rfl, hst, hk, hc⟩; have HRB9 := Lib.hid (hc.blk (blk_alloc (w := y8) HRB8.out _) hrr hrK); have z1 := blk_cell HRB9.out 0; simp at z1))
  clear z0 z1
  have hst2 : RSt base r y9 v ys ((cI.rd ys (s8)).2) := hst
  have hk2 : y9.heap[K]? = some (.cells #[u0, u1, .string qp, .int .i64 qa, .slice Aqcs qcs.length cqcs, .slice Aqts qts.length cqts, .slice Aqks qks.length cqks, .slice Aqss qss.length cqss, .bool qst, .bool qcl, .int .i64 qo, .int .i64 ((cI.rd ys (s8)).1), .int .i64 0, .int .i64 0, u14, u15, u16, u17] 65) := hk
  obtain ⟨qov, e1⟩ : ∃ z, (cI.rd ys (s8)).1 = z := ⟨_, rfl⟩
  obtain ⟨s9, e2⟩ : ∃ z, (cI.rd ys (s8)).2 = z := ⟨_, rfl⟩
  simp only [e1, e2] at hst2 hk2
  have F9 := Lib.hid e1
  have G9 := Lib.hid e2
  clear e1 e2
  have HS9 := Lib.hid hst2
  have HK9 := Lib.hid hk2
  have HCs : Hid (Chg r K y8 y9) := (((Chg.refl r K y8).alloc _).drew).trans hc
  have HC9 := Lib.hid (HC8.out.trans HCs.out)
  have HOqcs := Lib.hid (HOqcs.out.keep mCmd_law (Chg.stay HCs.out HS8.out.rd HK8.out (by decide) (by decide)))
  have HOqts := Lib.hid (HOqts.out.keep mI_law (Chg.stay HCs.out HS8.out.rd HK8.out (by decide) (by decide)))
  have HOqks := Lib.hid (HOqks.out.keep mKnown_law (Chg.stay HCs.out HS8.out.rd HK8.out (by decide) (by decide)))
  have HOqss := Lib.hid (HOqss.out.keep mI_law (Chg.stay HCs.out HS8.out.rd HK8.out (by decide) (by decide)))
  clear hst hst2 hk hk2 hc HCs HSA HKA HEL HBR HBK HS8 HK8 HC8 HRB8
  have z0 := blk_cell HRB9.out 0
  simp at z0
  have HSA : Hid (RSt base r (World.drew (World.alloc y9 (.cells #[.pointer (some ⟨K, 12, none⟩)] 101))) v ys s9) := RSt.drew (HS9.out.alloc _)
  have HKA : Hid ((World.heap (World.drew (World.alloc y9 (.cells #[.pointer (some ⟨K, 12, none⟩)] 101))))[K]? = some (.cells #[u0, u1, .string qp, .int .i64 qa, .slice Aqcs qcs.length cqcs, .slice Aqts qts.length cqts, .slice Aqks qks.length cqks, .slice Aqss qss.length cqss, .bool qst, .bool qcl, .int .i64 qo, .int .i64 qov, .int .i64 0, .int .i64 0, u14, u15, u16, u17] 65)) := blk_alloc (w := y9) HK9.out _
  have HEL : Hid (ElemsAt (World.drew (World.alloc y9 (.cells #[.pointer (some ⟨K, 12, none⟩)] 101))) (World.heap y9).size 101 (ptrs K [12])) := elems_alloc y9 101 [.pointer (some ⟨K, 12, none⟩)]
  have HBR : Hid ((World.heap y9).size ≠ r) := by have := HS9.out.lt; show _ ≠ _; omega
  have HBK : Hid ((World.heap y9).size ≠ K) := by have := blk_lt HK9.out; show _ ≠ _; omega
  go_wp2
  go_region_held3 (fun w' => w'.cell? ⟨w.heap.size, 0, none⟩ = some (.pointer (some ⟨r, 0, none⟩))) (go_keep) ((go_at_call 35; refine (intsR_any base r K _ v ys s9 65 #[u0, u1, .string qp, .int .i64 qa, .slice Aqcs qcs.length cqcs, .slice Aqts qts.length cqts, .slice Aqks qks.length cqks, .slice Aqss qss.length cqss, .bool qst, .bool qcl, .int .i64 qo, .int .i64 qov, .int .i64 0, .int .i64 0, u14, u15, u16, u17] [12] 1 rfl _ HSA.out HKA.out hb hne HEL.out HBR.out HBK.out (all1 ⟨_, rfl⟩) (by decide) (by omega)).mono ?_; rintro e y10 ⟨rfl, hst, hk, hc⟩; have HRB10 := Lib.hid (hc.blk (blk_alloc (w := y9) HRB9.out _) hrr hrK); have z1 := blk_cell HRB10.out 0; simp at z1))
  clear z0 z1
  have hst2 : RSt base r y10 v ys ((cI.rd ys (s9)).2) := hst
  have hk2 : y10.heap[K]? = some (.cells #[u0, u1, .string qp, .int .i64 qa, .slice Aqcs qcs.length cqcs, .slice Aqts qts.length cqts, .slice Aqks qks.length cqks, .slice Aqss qss.length cqss, .bool qst, .bool qcl, .int .i64 qo, .int .i64 qov, .int .i64 ((cI.rd ys (s9)).1), .int .i64 0, u14, u15, u16, u17] 65) := hk
  obtain ⟨qln, e1⟩ : ∃ z, (cI.rd ys (s9)).1 = z := ⟨_, rfl⟩
  obtain ⟨s10, e2⟩ : ∃ z, (cI.rd ys (s9)).2 = z := ⟨_, rfl⟩
  simp only [e1, e2] at hst2 hk2
  have F10 := Lib.hid e1
  have G10 := Lib.hid e2
  clear e1 e2
  have HS10 := Lib.hid hst2
  have HK10 := Lib.hid hk2
  have HCs : Hid (Chg r K y9 y10) := (((Chg.refl r K y9).alloc _).drew).trans hc
  have HC10 := Lib.hid (HC9.out.trans HCs.out)
  have HOqcs := Lib.hid (HOqcs.out.keep mCmd_law (Chg.stay HCs.out HS9.out.rd HK9.out (by decide) (by decide)))
  have HOqts := Lib.hid (HOqts.out.keep mI_law (Chg.stay HCs.out HS9.out.rd HK9.out (by decide) (by decide)))
  have HOqks := Lib.hid (HOqks.out.keep mKnown_law (Chg.stay HCs.out HS9.out.rd HK9.out (by decide) (by decide)))
  have HOqss := Lib.hid (HOqss.out.keep mI_law (Chg.stay HCs.out HS9.out.rd HK9.out (by decide) (by decide)))
  clear hst hst2 hk hk2 hc HCs HSA HKA HEL HBR HBK HS9 HK9 HC9 HRB9
  have z0 := blk_cell HRB10.out 0
  simp at z0
  have HSA : Hid (RSt base r (World.drew (World.alloc y10 (.cells #[.pointer (some ⟨K, 13, none⟩)] 99))) v ys s10) := RSt.drew (HS10.out.alloc _)
  have HKA : Hid ((World.heap (World.drew (World.alloc y10 (.cells #[.pointer (some ⟨K, 13, none⟩)] 99))))[K]? = some (.cells #[u0, u1, .string qp, .int .i64 qa, .slice Aqcs qcs.length cqcs, .slice Aqts qts.length cqts, .slice Aqks qks.length cqks, .slice Aqss qss.length cqss, .bool qst, .bool qcl, .int .i64 qo, .int .i64 qov, .int .i64 qln, .int .i64 0, u14, u15, u16, u17] 65)) := blk_alloc (w := y10) HK10.out _
  have HEL : Hid (ElemsAt (World.drew (World.alloc y10 (.cells #[.pointer (some ⟨K, 13, none⟩)] 99))) (World.heap y10).size 99 (ptrs K [13])) := elems_alloc y10 99 [.pointer (some ⟨K, 13, none⟩)]
  have HBR : Hid ((World.heap y10).size ≠ r) := by have := HS10.out.lt; show _ ≠ _; omega
  have HBK : Hid ((World.heap y10).size ≠ K) := by have := blk_lt HK10.out; show _ ≠ _; omega
  go_wp2
  go_region_held3 (fun w' => w'.cell? ⟨w.heap.size, 0, none⟩ = some (.pointer (some ⟨r, 0, none⟩))) (go_keep) ((go_at_call 34; refine (numbersR_any base r K _ v ys s10 65 #[u0, u1, .string qp, .int .i64 qa, .slice Aqcs qcs.length cqcs, .slice Aqts qts.length cqts, .slice Aqks qks.length cqks, .slice Aqss qss.length cqss, .bool qst, .bool qcl, .int .i64 qo, .int .i64 qov, .int .i64 qln, .int .i64 0, u14, u15, u16, u17] [13] 1 rfl _ HSA.out HKA.out hb hne HEL.out HBR.out HBK.out (all1 ⟨_, rfl⟩) (by decide) (by omega)).mono ?_; rintro e y11 ⟨rfl, hst, hk, hc⟩; have HRB11 := Lib.hid (hc.blk (blk_alloc (w := y10) HRB10.out _) hrr hrK); have z1 := blk_cell HRB11.out 0; simp at z1))
  clear z0 z1
  have hst2 : RSt base r y11 v ys ((cI.rd ys (s10)).2) := hst
  have hk2 : y11.heap[K]? = some (.cells #[u0, u1, .string qp, .int .i64 qa, .slice Aqcs qcs.length cqcs, .slice Aqts qts.length cqts, .slice Aqks qks.length cqks, .slice Aqss qss.length cqss, .bool qst, .bool qcl, .int .i64 qo, .int .i64 qov, .int .i64 qln, .int .i64 ((cI.rd ys (s10)).1), u14, u15, u16, u17] 65) := hk
  obtain ⟨qla, e1⟩ : ∃ z, (cI.rd ys (s10)).1 = z := ⟨_, rfl⟩
  obtain ⟨s11, e2⟩ : ∃ z, (cI.rd ys (s10)).2 = z := ⟨_, rfl⟩
  simp only [e1, e2] at hst2 hk2
  have F11 := Lib.hid e1
  have G11 := Lib.hid e2
  clear e1 e2
  have HS11 := Lib.hid hst2
  have HK11 := Lib.hid hk2
  have HCs : Hid (Chg r K y10 y11) := (((Chg.refl r K y10).alloc _).drew).trans hc
  have HC11 := Lib.hid (HC10.out.trans HCs.out)
  have HOqcs := Lib.hid (HOqcs.out.keep mCmd_law (Chg.stay HCs.out HS10.out.rd HK10.out (by decide) (by decide)))
  have HOqts := Lib.hid (HOqts.out.keep mI_law (Chg.stay HCs.out HS10.out.rd HK10.out (by decide) (by decide)))
  have HOqks := Lib.hid (HOqks.out.keep mKnown_law (Chg.stay HCs.out HS10.out.rd HK10.out (by decide) (by decide)))
  have HOqss := Lib.hid (HOqss.out.keep mI_law (Chg.stay HCs.out HS10.out.rd HK10.out (by decide) (by decide)))
  clear hst hst2 hk hk2 hc HCs HSA HKA HEL HBR HBK HS10 HK10 HC10 HRB10
  have HD : Hid (cHist.rd ys s = ((qp, qa, qcs, qts, qks, qss, qst, qcl, qo, qov, qln, qla), s11)) := by
    show _ = _
    simp only [cHist, cSeq, F0.out, G0.out, F1.out, G1.out, F2.out, G2.out, F3.out, G3.out, F4.out, G4.out, F5.out, G5.out, F6.out, G6.out, F7.out, G7.out, F8.out, G8.out, F9.out, G9.out, F10.out, G10.out, F11.out, G11.out]
  go_wp2
  refine bodyPost_end (v := .tuple #[]) (by simp [results]) rfl ?_
  show _ ∧ _ ∧ _ ∧ _
  rw [HD.out]
  exact ⟨rfl, HS11.out, ⟨_, _, _, _, _, _, _, _, _, _, _, _, HK11.out, mHist_mk HOqcs.out HOqts.out HOqks.out HOqss.out⟩, HC11.out⟩
end Go.Proofs.YtckooioikcenmaaGreat

/- What the reader of a desk makes. Conditions: sizes a machine can have. -/
import Derived.Test.YtckooioikcenmaaGreatCkL4
import Derived.Test.YtckooioikcenmaaGreatCkL7
namespace Go.Proofs.YtckooioikcenmaaGreat
open Go.RowKit
set_option maxRecDepth 20000 in
set_option maxHeartbeats 2000000 in
theorem rDesk_any (base r K : Nat) (v : Value) (ys : List UInt8) (s : Rd) (u0 u1 u7 u8 u9 u10 : Value) (w : World) (hs : RSt base r w v ys s) (hK : w.heap[K]? = some (.cells #[u0, u1, .int .i64 0, .slice none 0 0, .int .i64 0, .bool false, .slice none 0 0, u7, u8, u9, u10] 35)) (hb : base ≤ K) :
    Calls Tryz.prog 38 #[.pointer (some ⟨r, 0, none⟩), .pointer (some ⟨K, 2, none⟩)] w fun e w' => e = .returned (.tuple #[]) ∧ RSt base r w' v ys (cDesk.rd ys s).2 ∧ (∃ g0 g1 g2 g3 g4 : Value, w'.heap[K]? = some (.cells #[u0, u1, g0, g1, g2, g3, g4, u7, u8, u9, u10] 35) ∧ mDesk.own base w' [g0, g1, g2, g3, g4] (cDesk.rd ys s).1) ∧ Chg r K w w' := by
  have hne : r ≠ K := ne_type hs.rd hK (by decide)
  have HRB0 := Lib.hid (alloc_at w (.cells #[.pointer (some ⟨r, 0, none⟩)] 92))
  have HS0 := Lib.hid (hs.alloc (.cells #[.pointer (some ⟨r, 0, none⟩)] 92))
  have HK0 := Lib.hid (blk_alloc hK (.cells #[.pointer (some ⟨r, 0, none⟩)] 92))
  have HC0 : Hid (Chg r K w (w.alloc (.cells #[.pointer (some ⟨r, 0, none⟩)] 92))) := (Chg.refl _ _ _).alloc _
  have hrr : w.heap.size ≠ r := by have := hs.lt; omega
  have hrK : w.heap.size ≠ K := by have := blk_lt hK; omega
  clear hs hK
  go_enter Tryz.func38, Tryz.ntmps38
  have z0 := blk_cell HRB0.out 0
  simp at z0
  have HSA : Hid (RSt base r (World.drew (World.alloc (w.alloc (.cells #[.pointer (some ⟨r, 0, none⟩)] 92)) (.cells #[.pointer (some ⟨K, 2, none⟩)] 101))) v ys s) := RSt.drew (HS0.out.alloc _)
  have HKA : Hid ((World.heap (World.drew (World.alloc (w.alloc (.cells #[.pointer (some ⟨r, 0, none⟩)] 92)) (.cells #[.pointer (some ⟨K, 2, none⟩)] 101))))[K]? = some (.cells #[u0, u1, .int .i64 0, .slice none 0 0, .int .i64 0, .bool false, .slice none 0 0, u7, u8, u9, u10] 35)) := blk_alloc (w := (w.alloc (.cells #[.pointer (some ⟨r, 0, none⟩)] 92))) HK0.out _
  have HEL : Hid (ElemsAt (World.drew (World.alloc (w.alloc (.cells #[.pointer (some ⟨r, 0, none⟩)] 92)) (.cells #[.pointer (some ⟨K, 2, none⟩)] 101))) (World.heap (w.alloc (.cells #[.pointer (some ⟨r, 0, none⟩)] 92))).size 101 (ptrs K [2])) := elems_alloc (w.alloc (.cells #[.pointer (some ⟨r, 0, none⟩)] 92)) 101 [.pointer (some ⟨K, 2, none⟩)]
  have HBR : Hid ((World.heap (w.alloc (.cells #[.pointer (some ⟨r, 0, none⟩)] 92))).size ≠ r) := by have := HS0.out.lt; show _ ≠ _; omega
  have HBK : Hid ((World.heap (w.alloc (.cells #[.pointer (some ⟨r, 0, none⟩)] 92))).size ≠ K) := by have := blk_lt HK0.out; show _ ≠ _; omega
  rw [show (World.heap (w.alloc (.cells #[.pointer (some ⟨r, 0, none⟩)] 92))).size = w.heap.size + 1 by simp] at HEL HBR HBK
  go_wp2
  go_region_held3 (fun w' => w'.cell? ⟨w.heap.size, 0, none⟩ = some (.pointer (some ⟨r, 0, none⟩))) (go_keep) ((go_at_call 35; refine (intsR_any base r K _ v ys s 35 #[u0, u1, .int .i64 0, .slice none 0 0, .int .i64 0, .bool false, .slice none 0 0, u7, u8, u9, u10] [2] 1 rfl _ HSA.out HKA.out hb hne HEL.out HBR.out HBK.out (all1 ⟨_, rfl⟩) (by decide) (by omega)).mono ?_; rintro e y1 ⟨rfl, hst, hk, hc⟩; have HRB1 := Lib.hid (hc.blk (blk_alloc (w := (w.alloc (.cells #[.pointer (some ⟨r, 0, none⟩)] 92))) HRB0.out _) hrr hrK); have z1 := blk_cell HRB1.out 0; simp at z1))
  clear z0 z1
  have hst2 : RSt base r y1 v ys ((cI.rd ys (s)).2) := hst
  have hk2 : y1.heap[K]? = some (.cells #[u0, u1, .int .i64 ((cI.rd ys (s)).1), .slice none 0 0, .int .i64 0, .bool false, .slice none 0 0, u7, u8, u9, u10] 35) := hk
  obtain ⟨qq, e1⟩ : ∃ z, (cI.rd ys (s)).1 = z := ⟨_, rfl⟩
  obtain ⟨s0, e2⟩ : ∃ z, (cI.rd ys (s)).2 = z := ⟨_, rfl⟩
  simp only [e1, e2] at hst2 hk2
  have F0 := Lib.hid e1
  have G0 := Lib.hid e2
  clear e1 e2
  have HS1 := Lib.hid hst2
  have HK1 := Lib.hid hk2
  have HCs : Hid (Chg r K (w.alloc (.cells #[.pointer (some ⟨r, 0, none⟩)] 92)) y1) := (((Chg.refl r K (w.alloc (.cells #[.pointer (some ⟨r, 0, none⟩)] 92))).alloc _).drew).trans hc
  have HC1 := Lib.hid (HC0.out.trans HCs.out)
  clear hst hst2 hk hk2 hc HCs HSA HKA HEL HBR HBK HS0 HK0 HC0 HRB0
  have z0 := blk_cell HRB1.out 0
  simp at z0
  go_wp2_with fail
  refine (rlTurn_any base r (w.heap.size) v ys s0 _ HS1.out HRB1.out).mono ?_
  rintro e y2 ⟨Aqqs, cqqs, rfl, hst2, hown, hg⟩
  obtain ⟨qqs, e1⟩ : ∃ z, ((cL cTurn).rd ys s0).1 = z := ⟨_, rfl⟩
  obtain ⟨s1, e2⟩ : ∃ z, ((cL cTurn).rd ys s0).2 = z := ⟨_, rfl⟩
  rw [e1] at hown ⊢
  rw [e2] at hst2
  have F1 := Lib.hid e1
  have G1 := Lib.hid e2
  clear e1 e2
  have hk := (Chg.grown (K := K) hg)
  have hk2 : y2.heap[K]? = some (.cells #[u0, u1, .int .i64 qq, .slice none 0 0, .int .i64 0, .bool false, .slice none 0 0, u7, u8, u9, u10] 35) := (hg.block K (blk_lt HK1.out) (fun e => hne (by injection e with e; exact e.symm))).trans HK1.out
  have q := blk_cell hk2 3
  have qf := blk_free hk2 3
  simp at q
  have HS2 : Hid (RSt base r (y2.setCell ⟨K, 3, none⟩ (.slice Aqqs qqs.length cqqs)) v ys s1) := hst2.set hb hne _ _
  have HK2 : Hid ((World.heap (y2.setCell ⟨K, 3, none⟩ (.slice Aqqs qqs.length cqqs)))[K]? = some (.cells #[u0, u1, .int .i64 qq, .slice Aqqs qqs.length cqqs, .int .i64 0, .bool false, .slice none 0 0, u7, u8, u9, u10] 35)) := blk_set hk2 3 _
  have HCs : Hid (Chg r K y1 (y2.setCell ⟨K, 3, none⟩ (.slice Aqqs qqs.length cqqs))) := (Chg.grown hg).setK _ _
  have HC2 := Lib.hid (HC1.out.trans HCs.out)
  have HRB2 : Hid ((World.heap (y2.setCell ⟨K, 3, none⟩ (.slice Aqqs qqs.length cqqs)))[w.heap.size]? = some (.cells #[.pointer (some ⟨r, 0, none⟩)] 92)) := HCs.out.blk HRB1.out hrr hrK
  have HOqqs := Lib.hid (hown.keep mTurn_law (Chg.stay ((Chg.refl r K y2).setK 3 (.slice Aqqs qqs.length cqqs)) hst2.rd hk2 (by decide) (by decide)))
  clear hown
  clear hst2 hg hk hk2 HCs HS1 HK1 HC1 HRB1 z0
  have z0 := blk_cell HRB2.out 0
  simp at z0
  have HSA : Hid (RSt base r (World.drew (World.alloc (y2.setCell ⟨K, 3, none⟩ (.slice Aqqs qqs.length cqqs)) (.cells #[.pointer (some ⟨K, 4, none⟩)] 101))) v ys s1) := RSt.drew (HS2.out.alloc _)
  have HKA : Hid ((World.heap (World.drew (World.alloc (y2.setCell ⟨K, 3, none⟩ (.slice Aqqs qqs.length cqqs)) (.cells #[.pointer (some ⟨K, 4, none⟩)] 101))))[K]? = some (.cells #[u0, u1, .int .i64 qq, .slice Aqqs qqs.length cqqs, .int .i64 0, .bool false, .slice none 0 0, u7, u8, u9, u10] 35)) := blk_alloc (w := (y2.setCell ⟨K, 3, none⟩ (.slice Aqqs qqs.length cqqs))) HK2.out _
  have HEL : Hid (ElemsAt (World.drew (World.alloc (y2.setCell ⟨K, 3, none⟩ (.slice Aqqs qqs.length cqqs)) (.cells #[.pointer (some ⟨K, 4, none⟩)] 101))) (World.heap y2).size 101 (ptrs K [4])) := by have q := elems_alloc (y2.setCell ⟨K, 3, none⟩ (.slice Aqqs qqs.length cqqs)) 101 [.pointer (some ⟨K, 4, none⟩)]; rw [show (World.heap (y2.setCell ⟨K, 3, none⟩ (.slice Aqqs qqs.length cqqs))).size = (World.heap y2).size by simp] at q; exact q
  have HBR : Hid ((World.heap y2).size ≠ r) := by have := HS2.out.lt; rw [show (World.heap (y2.setCell ⟨K, 3, none⟩ (.slice Aqqs qqs.length cqqs))).size = (World.heap y2).size by simp] at this; show _ ≠ _; omega
  have HBK : Hid ((World.heap y2).size ≠ K) := by have := blk_lt HK2.out; rw [show (World.heap (y2.setCell ⟨K, 3, none⟩ (.slice Aqqs qqs.length cqqs))).size = (World.heap y2).size by simp] at this; show _ ≠ _; omega
  go_wp2
  go_region_held3 (fun w' => w'.cell? ⟨w.heap.size, 0, none⟩ = some (.pointer (some ⟨r, 0, none⟩))) (go_keep) ((go_at_call 35; refine (intsR_any base r K _ v ys s1 35 #[u0, u1, .int .i64 qq, .slice Aqqs qqs.length cqqs, .int .i64 0, .bool false, .slice none 0 0, u7, u8, u9, u10] [4] 1 rfl _ HSA.out HKA.out hb hne HEL.out HBR.out HBK.out (all1 ⟨_, rfl⟩) (by decide) (by omega)).mono ?_; rintro e y3 ⟨rfl, hst, hk, hc⟩; have HRB3 := Lib.hid (hc.blk (blk_alloc (w := (y2.setCell ⟨K, 3, none⟩ (.slice Aqqs qqs.length cqqs))) HRB2.out _) hrr hrK); have z1 := blk_cell HRB3.out 0; simp at z1))
  clear z0 z1
  have hst2 : RSt base r y3 v ys ((cI.rd ys (s1)).2) := hst
  have hk2 : y3.heap[K]? = some (.cells #[u0, u1, .int .i64 qq, .slice Aqqs qqs.length cqqs, .int .i64 ((cI.rd ys (s1)).1), .bool false, .slice none 0 0, u7, u8, u9, u10] 35) := hk
  obtain ⟨qat, e1⟩ : ∃ z, (cI.rd ys (s1)).1 = z := ⟨_, rfl⟩
  obtain ⟨s2, e2⟩ : ∃ z, (cI.rd ys (s1)).2 = z := ⟨_, rfl⟩
  simp only [e1, e2] at hst2 hk2
  have F2 := Lib.hid e1
  have G2 := Lib.hid e2
  clear e1 e2
  have HS3 := Lib.hid hst2
  have HK3 := Lib.hid hk2
  have HCs : Hid (Chg r K (y2.setCell ⟨K, 3, none⟩ (.slice Aqqs qqs.length cqqs)) y3) := (((Chg.refl r K (y2.setCell ⟨K, 3, none⟩ (.slice Aqqs qqs.length cqqs))).alloc _).drew).trans hc
  have HC3 := Lib.hid (HC2.out.trans HCs.out)
  have HOqqs := Lib.hid (HOqqs.out.keep mTurn_law (Chg.stay HCs.out HS2.out.rd HK2.out (by decide) (by decide)))
  clear hst hst2 hk hk2 hc HCs HSA HKA HEL HBR HBK HS2 HK2 HC2 HRB2
  have z0 := blk_cell HRB3.out 0
  simp at z0
  have HSA : Hid (RSt base r (World.drew (World.alloc y3 (.cells #[.pointer (some ⟨K, 5, none⟩)] 113))) v ys s2) := RSt.drew (HS3.out.alloc _)
  have HKA : Hid ((World.heap (World.drew (World.alloc y3 (.cells #[.pointer (some ⟨K, 5, none⟩)] 113))))[K]? = some (.cells #[u0, u1, .int .i64 qq, .slice Aqqs qqs.length cqqs, .int .i64 qat, .bool false, .slice none 0 0, u7, u8, u9, u10] 35)) := blk_alloc (w := y3) HK3.out _
  have HEL : Hid (ElemsAt (World.drew (World.alloc y3 (.cells #[.pointer (some ⟨K, 5, none⟩)] 113))) (World.heap y3).size 113 (ptrs K [5])) := elems_alloc y3 113 [.pointer (some ⟨K, 5, none⟩)]
  have HBR : Hid ((World.heap y3).size ≠ r) := by have := HS3.out.lt; show _ ≠ _; omega
  have HBK : Hid ((World.heap y3).size ≠ K) := by have := blk_lt HK3.out; show _ ≠ _; omega
  go_wp2
  go_region_held3 (fun w' => w'.cell? ⟨w.heap.size, 0, none⟩ = some (.pointer (some ⟨r, 0, none⟩))) (go_keep) ((go_at_call 43; refine (flagsR_any base r K _ v ys s2 35 #[u0, u1, .int .i64 qq, .slice Aqqs qqs.length cqqs, .int .i64 qat, .bool false, .slice none 0 0, u7, u8, u9, u10] [5] 1 rfl _ HSA.out HKA.out hb hne HEL.out HBR.out HBK.out (all1 ⟨_, rfl⟩) (by decide) (by omega)).mono ?_; rintro e y4 ⟨rfl, hst, hk, hc⟩; have HRB4 := Lib.hid (hc.blk (blk_alloc (w := y3) HRB3.out _) hrr hrK); have z1 := blk_cell HRB4.out 0; simp at z1))
  clear z0 z1
  have hst2 : RSt base r y4 v ys ((cF.rd ys (s2)).2) := hst
  have hk2 : y4.heap[K]? = some (.cells #[u0, u1, .int .i64 qq, .slice Aqqs qqs.length cqqs, .int .i64 qat, .bool ((cF.rd ys (s2)).1), .slice none 0 0, u7, u8, u9, u10] 35) := hk
  obtain ⟨qhad, e1⟩ : ∃ z, (cF.rd ys (s2)).1 = z := ⟨_, rfl⟩
  obtain ⟨s3, e2⟩ : ∃ z, (cF.rd ys (s2)).2 = z := ⟨_, rfl⟩
  simp only [e1, e2] at hst2 hk2
  have F3 := Lib.hid e1
  have G3 := Lib.hid e2
  clear e1 e2
  have HS4 := Lib.hid hst2
  have HK4 := Lib.hid hk2
  have HCs : Hid (Chg r K y3 y4) := (((Chg.refl r K y3).alloc _).drew).trans hc
  have HC4 := Lib.hid (HC3.out.trans HCs.out)
  have HOqqs := Lib.hid (HOqqs.out.keep mTurn_law (Chg.stay HCs.out HS3.out.rd HK3.out (by decide) (by decide)))
  clear hst hst2 hk hk2 hc HCs HSA HKA HEL HBR HBK HS3 HK3 HC3 HRB3
  have z0 := blk_cell HRB4.out 0
  simp at z0
  go_wp2_with fail
  refine (rlLine_any base r (w.heap.size) v ys s3 _ HS4.out HRB4.out).mono ?_
  rintro e y5 ⟨Aqls, cqls, rfl, hst2, hown, hg⟩
  obtain ⟨qls, e1⟩ : ∃ z, ((cL cLine).rd ys s3).1 = z := ⟨_, rfl⟩
  obtain ⟨s4, e2⟩ : ∃ z, ((cL cLine).rd ys s3).2 = z := ⟨_, rfl⟩
  rw [e1] at hown ⊢
  rw [e2] at hst2
  have F4 := Lib.hid e1
  have G4 := Lib.hid e2
  clear e1 e2
  have hk := (Chg.grown (K := K) hg)
  have hk2 : y5.heap[K]? = some (.cells #[u0, u1, .int .i64 qq, .slice Aqqs qqs.length cqqs, .int .i64 qat, .bool qhad, .slice none 0 0, u7, u8, u9, u10] 35) := (hg.block K (blk_lt HK4.out) (fun e => hne (by injection e with e; exact e.symm))).trans HK4.out
  have q := blk_cell hk2 6
  have qf := blk_free hk2 6
  simp at q
  have HS5 : Hid (RSt base r (y5.setCell ⟨K, 6, none⟩ (.slice Aqls qls.length cqls)) v ys s4) := hst2.set hb hne _ _
  have HK5 : Hid ((World.heap (y5.setCell ⟨K, 6, none⟩ (.slice Aqls qls.length cqls)))[K]? = some (.cells #[u0, u1, .int .i64 qq, .slice Aqqs qqs.length cqqs, .int .i64 qat, .bool qhad, .slice Aqls qls.length cqls, u7, u8, u9, u10] 35)) := blk_set hk2 6 _
  have HCs : Hid (Chg r K y4 (y5.setCell ⟨K, 6, none⟩ (.slice Aqls qls.length cqls))) := (Chg.grown hg).setK _ _
  have HC5 := Lib.hid (HC4.out.trans HCs.out)
  have HRB5 : Hid ((World.heap (y5.setCell ⟨K, 6, none⟩ (.slice Aqls qls.length cqls)))[w.heap.size]? = some (.cells #[.pointer (some ⟨r, 0, none⟩)] 92)) := HCs.out.blk HRB4.out hrr hrK
  have HOqqs := Lib.hid (HOqqs.out.keep mTurn_law (Chg.stay HCs.out HS4.out.rd HK4.out (by decide) (by decide)))
  have HOqls := Lib.hid (hown.keep mLine_law (Chg.stay ((Chg.refl r K y5).setK 6 (.slice Aqls qls.length cqls)) hst2.rd hk2 (by decide) (by decide)))
  clear hown
  clear hst2 hg hk hk2 HCs HS4 HK4 HC4 HRB4 z0
  have HD : Hid (cDesk.rd ys s = ((qq, qqs, qat, qhad, qls), s4)) := by
    show _ = _
    simp only [cDesk, cSeq, F0.out, G0.out, F1.out, G1.out, F2.out, G2.out, F3.out, G3.out, F4.out, G4.out]
  go_wp2
  refine bodyPost_end (v := .tuple #[]) (by simp [results]) rfl ?_
  show _ ∧ _ ∧ _ ∧ _
  rw [HD.out]
  exact ⟨rfl, HS5.out, ⟨_, _, _, _, _, HK5.out, mDesk_mk HOqqs.out HOqls.out⟩, HC5.out⟩
end Go.Proofs.YtckooioikcenmaaGreat

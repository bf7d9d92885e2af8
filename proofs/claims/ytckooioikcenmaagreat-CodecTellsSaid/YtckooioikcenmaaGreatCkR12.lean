/- What the reader of a workflow makes. Conditions: sizes a machine can have. -/
import Derived.Test.YtckooioikcenmaaGreatCkR10
import Derived.Test.YtckooioikcenmaaGreatCkL6
namespace Go.Proofs.YtckooioikcenmaaGreat
open Go.RowKit
set_option maxRecDepth 20000 in
set_option maxHeartbeats 2000000 in
theorem rRec_any (base r K : Nat) (v : Value) (ys : List UInt8) (s : Rd) (w : World) (hs : RSt base r w v ys s) (hK : w.heap[K]? = some (.cells #[.string ⟨#[]⟩, .string ⟨#[]⟩, .string ⟨#[]⟩, .int .i64 0, .slice none 0 0, .slice none 0 0, .slice none 0 0, .slice none 0 0, .bool false, .bool false, .int .i64 0, .int .i64 0, .int .i64 0, .int .i64 0, .slice none 0 0, .slice none 0 0, .string ⟨#[]⟩, .int .i64 0] 65)) (hb : base ≤ K) :
    Calls Tryz.prog 37 #[.pointer (some ⟨r, 0, none⟩), .pointer (some ⟨K, 0, none⟩)] w (EachPost base r K v ys cRec mRec 65 s w) := by
  have hne : r ≠ K := ne_type hs.rd hK (by decide)
  have HRB0 := Lib.hid (alloc_at w (.cells #[.pointer (some ⟨r, 0, none⟩)] 92))
  have HS0 := Lib.hid (hs.alloc (.cells #[.pointer (some ⟨r, 0, none⟩)] 92))
  have HK0 := Lib.hid (blk_alloc hK (.cells #[.pointer (some ⟨r, 0, none⟩)] 92))
  have HC0 : Hid (Chg r K w (w.alloc (.cells #[.pointer (some ⟨r, 0, none⟩)] 92))) := (Chg.refl _ _ _).alloc _
  have hrr : w.heap.size ≠ r := by have := hs.lt; omega
  have hrK : w.heap.size ≠ K := by have := blk_lt hK; omega
  clear hs hK
  go_enter Tryz.func37, Tryz.ntmps37
  have z0 := blk_cell HRB0.out 0
  simp at z0
  have HSA : Hid (RSt base r (World.drew (World.alloc (w.alloc (.cells #[.pointer (some ⟨r, 0, none⟩)] 92)) (.cells #[.pointer (some ⟨K, 0, none⟩), .pointer (some ⟨K, 1, none⟩), .pointer (some ⟨K, 16, none⟩)] 97))) v ys s) := RSt.drew (HS0.out.alloc _)
  have HKA : Hid ((World.heap (World.drew (World.alloc (w.alloc (.cells #[.pointer (some ⟨r, 0, none⟩)] 92)) (.cells #[.pointer (some ⟨K, 0, none⟩), .pointer (some ⟨K, 1, none⟩), .pointer (some ⟨K, 16, none⟩)] 97))))[K]? = some (.cells #[.string ⟨#[]⟩, .string ⟨#[]⟩, .string ⟨#[]⟩, .int .i64 0, .slice none 0 0, .slice none 0 0, .slice none 0 0, .slice none 0 0, .bool false, .bool false, .int .i64 0, .int .i64 0, .int .i64 0, .int .i64 0, .slice none 0 0, .slice none 0 0, .string ⟨#[]⟩, .int .i64 0] 65)) := blk_alloc (w := (w.alloc (.cells #[.pointer (some ⟨r, 0, none⟩)] 92))) HK0.out _
  have HEL : Hid (ElemsAt (World.drew (World.alloc (w.alloc (.cells #[.pointer (some ⟨r, 0, none⟩)] 92)) (.cells #[.pointer (some ⟨K, 0, none⟩), .pointer (some ⟨K, 1, none⟩), .pointer (some ⟨K, 16, none⟩)] 97))) (World.heap (w.alloc (.cells #[.pointer (some ⟨r, 0, none⟩)] 92))).size 97 (ptrs K [0, 1, 16])) := elems_alloc (w.alloc (.cells #[.pointer (some ⟨r, 0, none⟩)] 92)) 97 [.pointer (some ⟨K, 0, none⟩), .pointer (some ⟨K, 1, none⟩), .pointer (some ⟨K, 16, none⟩)]
  have HBR : Hid ((World.heap (w.alloc (.cells #[.pointer (some ⟨r, 0, none⟩)] 92))).size ≠ r) := by have := HS0.out.lt; show _ ≠ _; omega
  have HBK : Hid ((World.heap (w.alloc (.cells #[.pointer (some ⟨r, 0, none⟩)] 92))).size ≠ K) := by have := blk_lt HK0.out; show _ ≠ _; omega
  rw [show (World.heap (w.alloc (.cells #[.pointer (some ⟨r, 0, none⟩)] 92))).size = w.heap.size + 1 by simp] at HEL HBR HBK
  go_wp2
  go_region_held3 (fun w' => w'.cell? ⟨w.heap.size, 0, none⟩ = some (.pointer (some ⟨r, 0, none⟩))) (go_keep) ((go_at_call 33; refine (textsR_any base r K _ v ys s 65 #[.string ⟨#[]⟩, .string ⟨#[]⟩, .string ⟨#[]⟩, .int .i64 0, .slice none 0 0, .slice none 0 0, .slice none 0 0, .slice none 0 0, .bool false, .bool false, .int .i64 0, .int .i64 0, .int .i64 0, .int .i64 0, .slice none 0 0, .slice none 0 0, .string ⟨#[]⟩, .int .i64 0] [0, 1, 16] 3 rfl _ HSA.out HKA.out hb hne HEL.out HBR.out HBK.out (all3 rfl rfl rfl) (by decide) (by omega)).mono ?_; rintro e y1 ⟨rfl, hst, hk, hc⟩; have HRB1 := Lib.hid (hc.blk (blk_alloc (w := (w.alloc (.cells #[.pointer (some ⟨r, 0, none⟩)] 92))) HRB0.out _) hrr hrK); have z1 := blk_cell HRB1.out 0; simp at z1))
  clear z0 z1
  have hst2 : RSt base r y1 v ys ((cS.rd ys ((cS.rd ys ((cS.rd ys (s)).2)).2)).2) := hst
  have hk2 : y1.heap[K]? = some (.cells #[.string ((cS.rd ys (s)).1), .string ((cS.rd ys ((cS.rd ys (s)).2)).1), .string ⟨#[]⟩, .int .i64 0, .slice none 0 0, .slice none 0 0, .slice none 0 0, .slice none 0 0, .bool false, .bool false, .int .i64 0, .int .i64 0, .int .i64 0, .int .i64 0, .slice none 0 0, .slice none 0 0, .string ((cS.rd ys ((cS.rd ys ((cS.rd ys (s)).2)).2)).1), .int .i64 0] 65) := hk
  obtain ⟨qi, e1⟩ : ∃ z, (cS.rd ys (s)).1 = z := ⟨_, rfl⟩
  obtain ⟨s0, e2⟩ : ∃ z, (cS.rd ys (s)).2 = z := ⟨_, rfl⟩
  simp only [e1, e2] at hst2 hk2
  have F0 := Lib.hid e1
  have G0 := Lib.hid e2
  clear e1 e2
  obtain ⟨qq, e1⟩ : ∃ z, (cS.rd ys (s0)).1 = z := ⟨_, rfl⟩
  obtain ⟨s1, e2⟩ : ∃ z, (cS.rd ys (s0)).2 = z := ⟨_, rfl⟩
  simp only [e1, e2] at hst2 hk2
  have F1 := Lib.hid e1
  have G1 := Lib.hid e2
  clear e1 e2
  obtain ⟨qpa, e1⟩ : ∃ z, (cS.rd ys (s1)).1 = z := ⟨_, rfl⟩
  obtain ⟨s2, e2⟩ : ∃ z, (cS.rd ys (s1)).2 = z := ⟨_, rfl⟩
  simp only [e1, e2] at hst2 hk2
  have F2 := Lib.hid e1
  have G2 := Lib.hid e2
  clear e1 e2
  have HS1 := Lib.hid hst2
  have HK1 := Lib.hid hk2
  have HCs : Hid (Chg r K (w.alloc (.cells #[.pointer (some ⟨r, 0, none⟩)] 92)) y1) := (((Chg.refl r K (w.alloc (.cells #[.pointer (some ⟨r, 0, none⟩)] 92))).alloc _).drew).trans hc
  have HC1 := Lib.hid (HC0.out.trans HCs.out)
  clear hst hst2 hk hk2 hc HCs HSA HKA HEL HBR HBK HS0 HK0 HC0 HRB0
  have z0 := blk_cell HRB1.out 0
  simp at z0
  have HSA : Hid (RSt base r (World.drew (World.alloc y1 (.cells #[.pointer (some ⟨K, 17, none⟩)] 101))) v ys s2) := RSt.drew (HS1.out.alloc _)
  have HKA : Hid ((World.heap (World.drew (World.alloc y1 (.cells #[.pointer (some ⟨K, 17, none⟩)] 101))))[K]? = some (.cells #[.string qi, .string qq, .string ⟨#[]⟩, .int .i64 0, .slice none 0 0, .slice none 0 0, .slice none 0 0, .slice none 0 0, .bool false, .bool false, .int .i64 0, .int .i64 0, .int .i64 0, .int .i64 0, .slice none 0 0, .slice none 0 0, .string qpa, .int .i64 0] 65)) := blk_alloc (w := y1) HK1.out _
  have HEL : Hid (ElemsAt (World.drew (World.alloc y1 (.cells #[.pointer (some ⟨K, 17, none⟩)] 101))) (World.heap y1).size 101 (ptrs K [17])) := elems_alloc y1 101 [.pointer (some ⟨K, 17, none⟩)]
  have HBR : Hid ((World.heap y1).size ≠ r) := by have := HS1.out.lt; show _ ≠ _; omega
  have HBK : Hid ((World.heap y1).size ≠ K) := by have := blk_lt HK1.out; show _ ≠ _; omega
  go_wp2
  go_region_held3 (fun w' => w'.cell? ⟨w.heap.size, 0, none⟩ = some (.pointer (some ⟨r, 0, none⟩))) (go_keep) ((go_at_call 35; refine (intsR_any base r K _ v ys s2 65 #[.string qi, .string qq, .string ⟨#[]⟩, .int .i64 0, .slice none 0 0, .slice none 0 0, .slice none 0 0, .slice none 0 0, .bool false, .bool false, .int .i64 0, .int .i64 0, .int .i64 0, .int .i64 0, .slice none 0 0, .slice none 0 0, .string qpa, .int .i64 0] [17] 1 rfl _ HSA.out HKA.out hb hne HEL.out HBR.out HBK.out (all1 ⟨_, rfl⟩) (by decide) (by omega)).mono ?_; rintro e y2 ⟨rfl, hst, hk, hc⟩; have HRB2 := Lib.hid (hc.blk (blk_alloc (w := y1) HRB1.out _) hrr hrK); have z1 := blk_cell HRB2.out 0; simp at z1))
  clear z0 z1
  have hst2 : RSt base r y2 v ys ((cI.rd ys (s2)).2) := hst
  have hk2 : y2.heap[K]? = some (.cells #[.string qi, .string qq, .string ⟨#[]⟩, .int .i64 0, .slice none 0 0, .slice none 0 0, .slice none 0 0, .slice none 0 0, .bool false, .bool false, .int .i64 0, .int .i64 0, .int .i64 0, .int .i64 0, .slice none 0 0, .slice none 0 0, .string qpa, .int .i64 ((cI.rd ys (s2)).1)] 65) := hk
  obtain ⟨qn, e1⟩ : ∃ z, (cI.rd ys (s2)).1 = z := ⟨_, rfl⟩
  obtain ⟨s3, e2⟩ : ∃ z, (cI.rd ys (s2)).2 = z := ⟨_, rfl⟩
  simp only [e1, e2] at hst2 hk2
  have F3 := Lib.hid e1
  have G3 := Lib.hid e2
  clear e1 e2
  have HS2 := Lib.hid hst2
  have HK2 := Lib.hid hk2
  have HCs : Hid (Chg r K y1 y2) := (((Chg.refl r K y1).alloc _).drew).trans hc
  have HC2 := Lib.hid (HC1.out.trans HCs.out)
  clear hst hst2 hk hk2 hc HCs HSA HKA HEL HBR HBK HS1 HK1 HC1 HRB1
  have z0 := blk_cell HRB2.out 0
  simp at z0
  have HKA : Hid ((World.heap (World.drew y2))[K]? = some (.cells #[.string qi, .string qq, .string ⟨#[]⟩, .int .i64 0, .slice none 0 0, .slice none 0 0, .slice none 0 0, .slice none 0 0, .bool false, .bool false, .int .i64 0, .int .i64 0, .int .i64 0, .int .i64 0, .slice none 0 0, .slice none 0 0, .string qpa, .int .i64 qn] 65)) := HK2.out
  go_wp2
  go_region_held3 (fun w' => w'.cell? ⟨w.heap.size, 0, none⟩ = some (.pointer (some ⟨r, 0, none⟩))) (go_keep) ((go_at_call 75; refine (rHist_any base r K v ys s3 (.string qi) (.string qq) (.slice none 0 0) (.slice none 0 0) (.string qpa) (.int .i64 qn) _ (RSt.drew HS2.out) HKA.out hb).mono ?_; rintro e y3 ⟨rfl, hst2, ⟨gqh0, gqh1, gqh2, gqh3, gqh4, gqh5, gqh6, gqh7, gqh8, gqh9, gqh10, gqh11, hk2, hown⟩, hc⟩; have HRB3 := Lib.hid (hc.blk HRB2.out hrr hrK); have z1 := blk_cell HRB3.out 0; simp at z1))
  clear z0 z1
  obtain ⟨qh, e1⟩ : ∃ z, (cHist.rd ys s3).1 = z := ⟨_, rfl⟩
  obtain ⟨s4, e2⟩ : ∃ z, (cHist.rd ys s3).2 = z := ⟨_, rfl⟩
  rw [e1] at hown
  rw [e2] at hst2
  have F4 := Lib.hid e1
  have G4 := Lib.hid e2
  clear e1 e2
  have HS3 := Lib.hid hst2
  have HK3 := Lib.hid hk2
  have HCs : Hid (Chg r K y2 y3) := ((Chg.refl r K y2).drew).trans hc
  have HC3 := Lib.hid (HC2.out.trans HCs.out)
  have HOqh := Lib.hid hown
  clear hst2 hk2 hown hc HCs HKA HS2 HK2 HC2 HRB2
  have z0 := blk_cell HRB3.out 0
  simp at z0
  go_wp2_with fail
  refine (rlAct_any base r (w.heap.size) v ys s4 _ HS3.out HRB3.out).mono ?_
  rintro e y4 ⟨Aqas, cqas, rfl, hst2, hown, hg⟩
  obtain ⟨qas, e1⟩ : ∃ z, ((cL cAct).rd ys s4).1 = z := ⟨_, rfl⟩
  obtain ⟨s5, e2⟩ : ∃ z, ((cL cAct).rd ys s4).2 = z := ⟨_, rfl⟩
  rw [e1] at hown ⊢
  rw [e2] at hst2
  have F5 := Lib.hid e1
  have G5 := Lib.hid e2
  clear e1 e2
  have hk := (Chg.grown (K := K) hg)
  have hk2 : y4.heap[K]? = some (.cells #[.string qi, .string qq, gqh0, gqh1, gqh2, gqh3, gqh4, gqh5, gqh6, gqh7, gqh8, gqh9, gqh10, gqh11, .slice none 0 0, .slice none 0 0, .string qpa, .int .i64 qn] 65) := (hg.block K (blk_lt HK3.out) (fun e => hne (by injection e with e; exact e.symm))).trans HK3.out
  have q := blk_cell hk2 14
  have qf := blk_free hk2 14
  simp at q
  have HS4 : Hid (RSt base r (y4.setCell ⟨K, 14, none⟩ (.slice Aqas qas.length cqas)) v ys s5) := hst2.set hb hne _ _
  have HK4 : Hid ((World.heap (y4.setCell ⟨K, 14, none⟩ (.slice Aqas qas.length cqas)))[K]? = some (.cells #[.string qi, .string qq, gqh0, gqh1, gqh2, gqh3, gqh4, gqh5, gqh6, gqh7, gqh8, gqh9, gqh10, gqh11, .slice Aqas qas.length cqas, .slice none 0 0, .string qpa, .int .i64 qn] 65)) := blk_set hk2 14 _
  have HCs : Hid (Chg r K y3 (y4.setCell ⟨K, 14, none⟩ (.slice Aqas qas.length cqas))) := (Chg.grown hg).setK _ _
  have HC4 := Lib.hid (HC3.out.trans HCs.out)
  have HRB4 : Hid ((World.heap (y4.setCell ⟨K, 14, none⟩ (.slice Aqas qas.length cqas)))[w.heap.size]? = some (.cells #[.pointer (some ⟨r, 0, none⟩)] 92)) := HCs.out.blk HRB3.out hrr hrK
  have HOqh := Lib.hid (mHist_law.okeep HOqh.out (Chg.stay HCs.out HS3.out.rd HK3.out (by decide) (by decide)))
  have HOqas := Lib.hid (hown.keep mAct_law (Chg.stay ((Chg.refl r K y4).setK 14 (.slice Aqas qas.length cqas)) hst2.rd hk2 (by decide) (by decide)))
  clear hown
  clear hst2 hg hk hk2 HCs HS3 HK3 HC3 HRB3 z0
  have z0 := blk_cell HRB4.out 0
  simp at z0
  go_wp2_with fail
  refine (rlSleep_any base r (w.heap.size) v ys s5 _ HS4.out HRB4.out).mono ?_
  rintro e y5 ⟨Aqsl, cqsl, rfl, hst2, hown, hg⟩
  obtain ⟨qsl, e1⟩ : ∃ z, ((cL cSleep).rd ys s5).1 = z := ⟨_, rfl⟩
  obtain ⟨s6, e2⟩ : ∃ z, ((cL cSleep).rd ys s5).2 = z := ⟨_, rfl⟩
  rw [e1] at hown ⊢
  rw [e2] at hst2
  have F6 := Lib.hid e1
  have G6 := Lib.hid e2
  clear e1 e2
  have hk := (Chg.grown (K := K) hg)
  have hk2 : y5.heap[K]? = some (.cells #[.string qi, .string qq, gqh0, gqh1, gqh2, gqh3, gqh4, gqh5, gqh6, gqh7, gqh8, gqh9, gqh10, gqh11, .slice Aqas qas.length cqas, .slice none 0 0, .string qpa, .int .i64 qn] 65) := (hg.block K (blk_lt HK4.out) (fun e => hne (by injection e with e; exact e.symm))).trans HK4.out
  have q := blk_cell hk2 15
  have qf := blk_free hk2 15
  simp at q
  have HS5 : Hid (RSt base r (y5.setCell ⟨K, 15, none⟩ (.slice Aqsl qsl.length cqsl)) v ys s6) := hst2.set hb hne _ _
  have HK5 : Hid ((World.heap (y5.setCell ⟨K, 15, none⟩ (.slice Aqsl qsl.length cqsl)))[K]? = some (.cells #[.string qi, .string qq, gqh0, gqh1, gqh2, gqh3, gqh4, gqh5, gqh6, gqh7, gqh8, gqh9, gqh10, gqh11, .slice Aqas qas.length cqas, .slice Aqsl qsl.length cqsl, .string qpa, .int .i64 qn] 65)) := blk_set hk2 15 _
  have HCs : Hid (Chg r K (y4.setCell ⟨K, 14, none⟩ (.slice Aqas qas.length cqas)) (y5.setCell ⟨K, 15, none⟩ (.slice Aqsl qsl.length cqsl))) := (Chg.grown hg).setK _ _
  have HC5 := Lib.hid (HC4.out.trans HCs.out)
  have HRB5 : Hid ((World.heap (y5.setCell ⟨K, 15, none⟩ (.slice Aqsl qsl.length cqsl)))[w.heap.size]? = some (.cells #[.pointer (some ⟨r, 0, none⟩)] 92)) := HCs.out.blk HRB4.out hrr hrK
  have HOqh := Lib.hid (mHist_law.okeep HOqh.out (Chg.stay HCs.out HS4.out.rd HK4.out (by decide) (by decide)))
  have HOqas := Lib.hid (HOqas.out.keep mAct_law (Chg.stay HCs.out HS4.out.rd HK4.out (by decide) (by decide)))
  have HOqsl := Lib.hid (hown.keep mSleep_law (Chg.stay ((Chg.refl r K y5).setK 15 (.slice Aqsl qsl.length cqsl)) hst2.rd hk2 (by decide) (by decide)))
  clear hown
  clear hst2 hg hk hk2 HCs HS4 HK4 HC4 HRB4 z0
  have HD : Hid (cRec.rd ys s = ((qi, qq, qpa, qn, qh, qas, qsl), s6)) := by
    show _ = _
    simp only [cRec, cSeq, F0.out, G0.out, F1.out, G1.out, F2.out, G2.out, F3.out, G3.out, F4.out, G4.out, F5.out, G5.out, F6.out, G6.out]
  go_wp2
  exact bodyPost_ret (v := .tuple #[]) (by simp [results]) rfl ⟨rfl, by rw [HD.out]; exact HS5.out, ⟨[.string qi, .string qq, gqh0, gqh1, gqh2, gqh3, gqh4, gqh5, gqh6, gqh7, gqh8, gqh9, gqh10, gqh11, .slice Aqas qas.length cqas, .slice Aqsl qsl.length cqsl, .string qpa, .int .i64 qn], HK5.out, by rw [HD.out]; exact mRec_mk HOqh.out HOqas.out HOqsl.out⟩, HC5.out⟩
end Go.Proofs.YtckooioikcenmaaGreat

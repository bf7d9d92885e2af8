/- What writes tasks, activities, queues. Conditions: sizes a machine can have. -/
import Derived.Test.YtckooioikcenmaaGreatCkW4
import Derived.Deep.MidRow
namespace Go.Proofs.YtckooioikcenmaaGreat
open Go.RowKit
set_option maxRecDepth 20000 in
set_option maxHeartbeats 1000000 in
theorem wTask_any (p base : Nat) (x : DTask) (ho : cTask.okr x) (_hm : cTask.sm x) (xs : List UInt8) (bad : Bool) (w : World) (us : List Value) (hu : mTask.rep base w us x) (hs : WSt p base w xs bad) (hb : base ≤ p) (hlen : xs.length + (cTask.enc x).length + 10 ≤ 140737488355328) :
    Calls Tryz.prog 59 #[.pointer (some ⟨p, 0, none⟩), .agg us.toArray] w (WPost p base w (xs ++ cTask.enc x) (bad || !cTask.okt x)) := by
  obtain ⟨qa, qb, qc, qd, qe, qf, qg, qh, qi, qj⟩ := x
  obtain rfl := mTask_form hu
  clear hu
  obtain ⟨a1, a2, ⟨o2, o2b⟩, a4, a5, a6, a7, a8, a9, a10⟩ := ho
  have hb0 : (0 : Int) ≤ qc := o2
  have hb1 : qc ≤ 255 := o2b
  have HE : Hid (cTask.enc (qa, qb, qc, qd, qe, qf, qg, qh, qi, qj) = ([qa].flatMap iv) ++ ([qb, qc].flatMap iv) ++ ([qd, qe].flatMap iv) ++ ([qf].flatMap iv) ++ ([qg, qh].flatMap iv) ++ ([qi].flatMap iv) ++ ([qj].flatMap iv)) := by show _ = _; simp [cTask, cSeq, cI, cB]
  have HT : Hid (cTask.okt (qa, qb, qc, qd, qe, qf, qg, qh, qi, qj) = (true)) := by show _ = _; rfl
  have HLEN : Hid (xs.length + (([qa].flatMap iv).length + ([qb, qc].flatMap iv).length + ([qd, qe].flatMap iv).length + ([qf].flatMap iv).length + ([qg, qh].flatMap iv).length + ([qi].flatMap iv).length + ([qj].flatMap iv).length) + 10 ≤ 140737488355328) := by
    rw [HE.out] at hlen
    simp only [List.length_append] at hlen
    show _ ≤ _
    omega
  have hB : base ≤ w.heap.size := by have := hs.lt; omega
  have HB0 := Lib.hid (alloc_at w (.cells #[.int .i64 qa, .int .i64 qb, .int .u8 qc, .int .i64 qd, .int .i64 qe, .int .i64 qf, .int .i64 qg, .int .i64 qh, .int .i64 qi, .int .i64 qj] 136))
  have HS0 := Lib.hid (hs.alloc (.cells #[.int .i64 qa, .int .i64 qb, .int .u8 qc, .int .i64 qd, .int .i64 qe, .int .i64 qf, .int .i64 qg, .int .i64 qh, .int .i64 qi, .int .i64 qj] 136))
  have HK0 : Hid (Keep isWr base w (w.alloc (.cells #[.int .i64 qa, .int .i64 qb, .int .u8 qc, .int .i64 qd, .int .i64 qe, .int .i64 qf, .int .i64 qg, .int .i64 qh, .int .i64 qi, .int .i64 qj] 136))) := (Keep.refl _ _ _).alloc _
  clear hs hlen
  go_enter Tryz.func59, Tryz.ntmps59
  have c0 := blk_cell HB0.out 0
  simp at c0
  have HSA := Lib.hid (HS0.out.alloc (.cells #[.int .i64 qa] 2))
  have HEL : Hid (ElemsAt (World.alloc (w.alloc (.cells #[.int .i64 qa, .int .i64 qb, .int .u8 qc, .int .i64 qd, .int .i64 qe, .int .i64 qf, .int .i64 qg, .int .i64 qh, .int .i64 qi, .int .i64 qj] 136)) (.cells #[.int .i64 qa] 2)) (World.heap (w.alloc (.cells #[.int .i64 qa, .int .i64 qb, .int .u8 qc, .int .i64 qd, .int .i64 qe, .int .i64 qf, .int .i64 qg, .int .i64 qh, .int .i64 qi, .int .i64 qj] 136))).size 2 [.int .i64 qa]) := elems_alloc _ _ _
  rw [show (World.heap (w.alloc (.cells #[.int .i64 qa, .int .i64 qb, .int .u8 qc, .int .i64 qd, .int .i64 qe, .int .i64 qf, .int .i64 qg, .int .i64 qh, .int .i64 qi, .int .i64 qj] 136))).size = w.heap.size + 1 by simp] at HEL
  go_wp2_with fail
  refine (numbers_any p base _ [qa] 1 rfl _ _ _ HSA.out HEL.out (all1 a1) hb (by omega) (by have := HLEN.out; omega)).mono ?_
  rintro e y1 ⟨rfl, hst, hk⟩
  have HS1 := Lib.hid hst
  have HB1 := Lib.hid (hk.blk (blk_alloc (HB0.out) _) rfl)
  have HK1 := Lib.hid ((HK0.out.alloc _).trans hk)
  clear hst hk c0 HSA HEL HS0 HK0 HB0
  have c1 := blk_cell HB1.out 1
  have c2 := blk_cell HB1.out 2
  simp at c1 c2
  have HSA := Lib.hid (HS1.out.alloc (.cells #[.int .i64 qb, .int .i64 qc] 3))
  have HEL : Hid (ElemsAt (World.alloc y1 (.cells #[.int .i64 qb, .int .i64 qc] 3)) (World.heap y1).size 3 [.int .i64 qb, .int .i64 qc]) := elems_alloc _ _ _
  go_wp2_with fail
  refine (ints_any p base _ [qb, qc] 2 rfl _ _ _ HSA.out HEL.out (all2 a2 (small64 ⟨o2, o2b⟩)) hb (by omega) (by have := HLEN.out; simp only [List.length_append]; omega)).mono ?_
  rintro e y2 ⟨rfl, hst, hk⟩
  have HS2 := Lib.hid hst
  have HB2 := Lib.hid (hk.blk (blk_alloc (HB1.out) _) rfl)
  have HK2 := Lib.hid ((HK1.out.alloc _).trans hk)
  clear hst hk c1 c2 HSA HEL HS1 HK1 HB1
  have c3 := blk_cell HB2.out 3
  have c4 := blk_cell HB2.out 4
  simp at c3 c4
  have HSA := Lib.hid (HS2.out.alloc (.cells #[.int .i64 qd, .int .i64 qe] 2))
  have HEL : Hid (ElemsAt (World.alloc y2 (.cells #[.int .i64 qd, .int .i64 qe] 2)) (World.heap y2).size 2 [.int .i64 qd, .int .i64 qe]) := elems_alloc _ _ _
  go_wp2_with fail
  refine (numbers_any p base _ [qd, qe] 2 rfl _ _ _ HSA.out HEL.out (all2 a4 a5) hb (by omega) (by have := HLEN.out; simp only [List.length_append]; omega)).mono ?_
  rintro e y3 ⟨rfl, hst, hk⟩
  have HS3 := Lib.hid hst
  have HB3 := Lib.hid (hk.blk (blk_alloc (HB2.out) _) rfl)
  have HK3 := Lib.hid ((HK2.out.alloc _).trans hk)
  clear hst hk c3 c4 HSA HEL HS2 HK2 HB2
  have c5 := blk_cell HB3.out 5
  simp at c5
  have HSA := Lib.hid (HS3.out.alloc (.cells #[.int .i64 qf] 3))
  have HEL : Hid (ElemsAt (World.alloc y3 (.cells #[.int .i64 qf] 3)) (World.heap y3).size 3 [.int .i64 qf]) := elems_alloc _ _ _
  go_wp2_with fail
  refine (ints_any p base _ [qf] 1 rfl _ _ _ HSA.out HEL.out (all1 a6) hb (by omega) (by have := HLEN.out; simp only [List.length_append]; omega)).mono ?_
  rintro e y4 ⟨rfl, hst, hk⟩
  have HS4 := Lib.hid hst
  have HB4 := Lib.hid (hk.blk (blk_alloc (HB3.out) _) rfl)
  have HK4 := Lib.hid ((HK3.out.alloc _).trans hk)
  clear hst hk c5 HSA HEL HS3 HK3 HB3
  have c6 := blk_cell HB4.out 6
  have c7 := blk_cell HB4.out 7
  simp at c6 c7
  have HSA := Lib.hid (HS4.out.alloc (.cells #[.int .i64 qg, .int .i64 qh] 2))
  have HEL : Hid (ElemsAt (World.alloc y4 (.cells #[.int .i64 qg, .int .i64 qh] 2)) (World.heap y4).size 2 [.int .i64 qg, .int .i64 qh]) := elems_alloc _ _ _
  go_wp2_with fail
  refine (numbers_any p base _ [qg, qh] 2 rfl _ _ _ HSA.out HEL.out (all2 a7 a8) hb (by omega) (by have := HLEN.out; simp only [List.length_append]; omega)).mono ?_
  rintro e y5 ⟨rfl, hst, hk⟩
  have HS5 := Lib.hid hst
  have HB5 := Lib.hid (hk.blk (blk_alloc (HB4.out) _) rfl)
  have HK5 := Lib.hid ((HK4.out.alloc _).trans hk)
  clear hst hk c6 c7 HSA HEL HS4 HK4 HB4
  have c8 := blk_cell HB5.out 8
  simp at c8
  have HSA := Lib.hid (HS5.out.alloc (.cells #[.int .i64 qi] 3))
  have HEL : Hid (ElemsAt (World.alloc y5 (.cells #[.int .i64 qi] 3)) (World.heap y5).size 3 [.int .i64 qi]) := elems_alloc _ _ _
  go_wp2_with fail
  refine (ints_any p base _ [qi] 1 rfl _ _ _ HSA.out HEL.out (all1 a9) hb (by omega) (by have := HLEN.out; simp only [List.length_append]; omega)).mono ?_
  rintro e y6 ⟨rfl, hst, hk⟩
  have HS6 := Lib.hid hst
  have HB6 := Lib.hid (hk.blk (blk_alloc (HB5.out) _) rfl)
  have HK6 := Lib.hid ((HK5.out.alloc _).trans hk)
  clear hst hk c8 HSA HEL HS5 HK5 HB5
  have c9 := blk_cell HB6.out 9
  simp at c9
  have HSA := Lib.hid (HS6.out.alloc (.cells #[.int .i64 qj] 2))
  have HEL : Hid (ElemsAt (World.alloc y6 (.cells #[.int .i64 qj] 2)) (World.heap y6).size 2 [.int .i64 qj]) := elems_alloc _ _ _
  go_wp2_with fail
  refine (numbers_any p base _ [qj] 1 rfl _ _ _ HSA.out HEL.out (all1 a10) hb (by omega) (by have := HLEN.out; simp only [List.length_append]; omega)).mono ?_
  rintro e y7 ⟨rfl, hst, hk⟩
  have HS7 := Lib.hid hst
  have HB7 := Lib.hid (hk.blk (blk_alloc (HB6.out) _) rfl)
  have HK7 := Lib.hid ((HK6.out.alloc _).trans hk)
  clear hst hk c9 HSA HEL HS6 HK6 HB6
  have HF := Lib.hid (HS7.out.cast (xs' := xs ++ cTask.enc (qa, qb, qc, qd, qe, qf, qg, qh, qi, qj)) (bad' := bad || !cTask.okt (qa, qb, qc, qd, qe, qf, qg, qh, qi, qj)) (by rw [HE.out]; simp only [List.append_assoc]) (by rw [HT.out]; exact bad0 _))
  go_wp2
  exact bodyPost_ret (v := .tuple #[]) (by simp [results]) rfl ⟨rfl, HF.out, HK7.out⟩
set_option maxRecDepth 20000 in
set_option maxHeartbeats 1000000 in
theorem wAct_any (p base wb : Nat) (x : DAct) (ho : cAct.okr x) (hm : cAct.sm x) (xs : List UInt8) (bad : Bool) (w : World) (us : List Value) (hu : mAct.rep base w us x) (hs : WSt p base w xs bad) (hw : w.heap[wb]? = some (.cells #[.pointer (some ⟨p, 0, none⟩)] 68)) (hb : base ≤ p) (hlen : xs.length + (cAct.enc x).length + 10 ≤ 140737488355328) :
    Calls Tryz.prog 58 #[.agg us.toArray, .pointer (some ⟨wb, 0, none⟩)] w (WPost p base w (xs ++ cAct.enc x) (bad || !cAct.okt x)) := by
  obtain ⟨qn, ⟨qt_qa, qt_qb, qt_qc, qt_qd, qt_qe, qt_qf, qt_qg, qt_qh, qt_qi, qt_qj⟩⟩ := x
  obtain ⟨rfl, hrqt⟩ := mAct_form hu
  have HRqt := Lib.hid hrqt
  clear hu hrqt
  obtain ⟨o1, ot⟩ := ho
  obtain ⟨_, mt⟩ := hm
  have HE : Hid (cAct.enc (qn, (qt_qa, qt_qb, qt_qc, qt_qd, qt_qe, qt_qf, qt_qg, qt_qh, qt_qi, qt_qj)) = ([qn].flatMap iv) ++ (cTask.enc (qt_qa, qt_qb, qt_qc, qt_qd, qt_qe, qt_qf, qt_qg, qt_qh, qt_qi, qt_qj))) := by show _ = _; simp [cAct, cSeq, cI]
  have HT : Hid (cAct.okt (qn, (qt_qa, qt_qb, qt_qc, qt_qd, qt_qe, qt_qf, qt_qg, qt_qh, qt_qi, qt_qj)) = ((cTask.okt (qt_qa, qt_qb, qt_qc, qt_qd, qt_qe, qt_qf, qt_qg, qt_qh, qt_qi, qt_qj)))) := by show _ = _; simp [cAct, cSeq, cI]
  have HLEN : Hid (xs.length + (([qn].flatMap iv).length + (cTask.enc (qt_qa, qt_qb, qt_qc, qt_qd, qt_qe, qt_qf, qt_qg, qt_qh, qt_qi, qt_qj)).length) + 10 ≤ 140737488355328) := by
    rw [HE.out] at hlen
    simp only [List.length_append] at hlen
    show _ ≤ _
    omega
  have hB : base ≤ w.heap.size := by have := hs.lt; omega
  have HW0 := Lib.hid (blk_alloc hw (.cells #[.int .i64 qn, .int .i64 qt_qa, .int .i64 qt_qb, .int .u8 qt_qc, .int .i64 qt_qd, .int .i64 qt_qe, .int .i64 qt_qf, .int .i64 qt_qg, .int .i64 qt_qh, .int .i64 qt_qi, .int .i64 qt_qj] 138))
  have HB0 := Lib.hid (alloc_at w (.cells #[.int .i64 qn, .int .i64 qt_qa, .int .i64 qt_qb, .int .u8 qt_qc, .int .i64 qt_qd, .int .i64 qt_qe, .int .i64 qt_qf, .int .i64 qt_qg, .int .i64 qt_qh, .int .i64 qt_qi, .int .i64 qt_qj] 138))
  have HS0 := Lib.hid (hs.alloc (.cells #[.int .i64 qn, .int .i64 qt_qa, .int .i64 qt_qb, .int .u8 qt_qc, .int .i64 qt_qd, .int .i64 qt_qe, .int .i64 qt_qf, .int .i64 qt_qg, .int .i64 qt_qh, .int .i64 qt_qi, .int .i64 qt_qj] 138))
  have HK0 : Hid (Keep isWr base w (w.alloc (.cells #[.int .i64 qn, .int .i64 qt_qa, .int .i64 qt_qb, .int .u8 qt_qc, .int .i64 qt_qd, .int .i64 qt_qe, .int .i64 qt_qf, .int .i64 qt_qg, .int .i64 qt_qh, .int .i64 qt_qi, .int .i64 qt_qj] 138))) := (Keep.refl _ _ _).alloc _
  clear hw hs hlen
  go_enter Tryz.func58, Tryz.ntmps58
  have w0 := blk_cell HW0.out 0
  have c0 := blk_cell HB0.out 0
  simp at w0 c0
  have HSA := Lib.hid (HS0.out.alloc (.cells #[.int .i64 qn] 3))
  have HEL : Hid (ElemsAt (World.alloc (w.alloc (.cells #[.int .i64 qn, .int .i64 qt_qa, .int .i64 qt_qb, .int .u8 qt_qc, .int .i64 qt_qd, .int .i64 qt_qe, .int .i64 qt_qf, .int .i64 qt_qg, .int .i64 qt_qh, .int .i64 qt_qi, .int .i64 qt_qj] 138)) (.cells #[.int .i64 qn] 3)) (World.heap (w.alloc (.cells #[.int .i64 qn, .int .i64 qt_qa, .int .i64 qt_qb, .int .u8 qt_qc, .int .i64 qt_qd, .int .i64 qt_qe, .int .i64 qt_qf, .int .i64 qt_qg, .int .i64 qt_qh, .int .i64 qt_qi, .int .i64 qt_qj] 138))).size 3 [.int .i64 qn]) := elems_alloc _ _ _
  rw [show (World.heap (w.alloc (.cells #[.int .i64 qn, .int .i64 qt_qa, .int .i64 qt_qb, .int .u8 qt_qc, .int .i64 qt_qd, .int .i64 qt_qe, .int .i64 qt_qf, .int .i64 qt_qg, .int .i64 qt_qh, .int .i64 qt_qi, .int .i64 qt_qj] 138))).size = w.heap.size + 1 by simp] at HEL
  go_wp2_with fail
  refine (ints_any p base _ [qn] 1 rfl _ _ _ HSA.out HEL.out (all1 o1) hb (by omega) (by have := HLEN.out; omega)).mono ?_
  rintro e y1 ⟨rfl, hst, hk⟩
  have HS1 := Lib.hid hst
  have HW1 := Lib.hid (hk.blk (blk_alloc (HW0.out) _) rfl)
  have HB1 := Lib.hid (hk.blk (blk_alloc (HB0.out) _) rfl)
  have HK1 := Lib.hid ((HK0.out.alloc _).trans hk)
  clear hst hk w0 c0 HSA HEL HS0 HK0 HW0 HB0
  have w0 := blk_cell HW1.out 0
  have c1 := blk_cell HB1.out 1
  have c2 := blk_cell HB1.out 2
  have c3 := blk_cell HB1.out 3
  have c4 := blk_cell HB1.out 4
  have c5 := blk_cell HB1.out 5
  have c6 := blk_cell HB1.out 6
  have c7 := blk_cell HB1.out 7
  have c8 := blk_cell HB1.out 8
  have c9 := blk_cell HB1.out 9
  have c10 := blk_cell HB1.out 10
  simp at w0 c1 c2 c3 c4 c5 c6 c7 c8 c9 c10
  go_wp2_with fail
  refine (wTask_any p base (qt_qa, qt_qb, qt_qc, qt_qd, qt_qe, qt_qf, qt_qg, qt_qh, qt_qi, qt_qj) ot mt _ _ _ (us := [.int .i64 qt_qa, .int .i64 qt_qb, .int .u8 qt_qc, .int .i64 qt_qd, .int .i64 qt_qe, .int .i64 qt_qf, .int .i64 qt_qg, .int .i64 qt_qh, .int .i64 qt_qi, .int .i64 qt_qj]) (mTask_law.keep HRqt.out (HK1.out.below hB)) HS1.out hb (by have := HLEN.out; simp only [List.length_append]; omega)).mono ?_
  rintro e y2 ⟨rfl, hst, hk⟩
  have HS2 := Lib.hid hst
  have HW2 := Lib.hid (hk.blk (HW1.out) rfl)
  have HB2 := Lib.hid (hk.blk (HB1.out) rfl)
  have HK2 := Lib.hid ((HK1.out).trans hk)
  clear hst hk w0 c1 c2 c3 c4 c5 c6 c7 c8 c9 c10 HS1 HK1 HW1 HB1
  have HF := Lib.hid (HS2.out.cast (xs' := xs ++ cAct.enc (qn, (qt_qa, qt_qb, qt_qc, qt_qd, qt_qe, qt_qf, qt_qg, qt_qh, qt_qi, qt_qj))) (bad' := bad || !cAct.okt (qn, (qt_qa, qt_qb, qt_qc, qt_qd, qt_qe, qt_qf, qt_qg, qt_qh, qt_qi, qt_qj))) (by rw [HE.out]; simp only [List.append_assoc]) (by rw [HT.out]))
  go_wp2
  exact bodyPost_ret (v := .tuple #[]) (by simp [results]) rfl ⟨rfl, HF.out, HK2.out⟩
set_option maxRecDepth 20000 in
set_option maxHeartbeats 1000000 in
theorem lAct_any (p base wb : Nat) (v : Value) (l : List DAct) {w0 : World} (hv : LRep mAct base w0 v l) (ho : (cL cAct).okr l) (hm : (cL cAct).sm l) (xs : List UInt8) (bad : Bool) (hs : WSt p base w0 xs bad) (hw : w0.heap[wb]? = some (.cells #[.pointer (some ⟨p, 0, none⟩)] 68)) (hb : base ≤ p) (hlen : xs.length + ((cL cAct).enc l).length + 10 ≤ 140737488355328) :
    Calls Tryz.prog 57 #[.pointer (some ⟨p, 0, none⟩), v, .func (.func 58) #[] #[.pointer (some ⟨wb, 0, none⟩)]] w0 (WPost p base w0 (xs ++ (cL cAct).enc l) (bad || !(cL cAct).okt l)) := by
  obtain ⟨ho1, ho2⟩ := ho
  obtain ⟨hm1, hm2⟩ := hm
  have hB : base ≤ w0.heap.size := by have := hs.lt; omega
  obtain ⟨A, cp, rfl⟩ := hv.form
  obtain ⟨ln, hln⟩ : ∃ ln, l.length = ln := ⟨_, rfl⟩
  have HL := Lib.hid hln
  have HV := Lib.hid hv
  have HO := Lib.hid ho2
  have HM := Lib.hid hm2
  have HW := Lib.hid hw
  have HE : Hid ((cL cAct).enc l = uv ln ++ l.flatMap (cAct).enc) := by show _ = _; rw [← hln]; rfl
  have HLEN : Hid (xs.length + ((uv ln).length + (l.flatMap (cAct).enc).length) + 10 ≤ 140737488355328) := by
    rw [HE.out] at hlen
    simp only [List.length_append] at hlen
    show _ ≤ _
    omega
  rw [hln] at ho1 hm1 ⊢
  have hln3 : ln ≤ 20000 := hm1
  obtain ⟨v1, hc1, hw1⟩ := hs
  have o0 : w0.cell? ⟨p, 0, none⟩ = some v1 := by rw [blk_cell hc1]; rfl
  have HC := Lib.hid (uint_any v1 xs ln w0 base (by omega) hw1 hB (by have := HLEN.out; omega))
  have HC1 := Lib.hid hc1
  have HO1 := Lib.hid hw1
  clear hv hln ho1 ho2 hm1 hm2 hlen hc1 hw1 hw
  go_enter Tryz.func57, Tryz.ntmps57
  go_wp2_with fail
  refine HC.out.mono ?_
  rintro e w2 ⟨v2, rfl, hown, hext⟩
  obtain ⟨A2, n2, c2, e2⟩ := hown.form
  subst e2
  obtain ⟨q1, q2, q3⟩ := WSt.store HC1.out HO1.out hown hext hb
  have e3 := blk_cell q1 0
  have e4 := blk_free q1 0
  simp at e3
  have HQ2 := Lib.hid q2
  have HQ3 := Lib.hid q3
  clear q1 q2 q3 hown hext o0 HC HC1 HO1
  go_wp2
  clear e3 e4
  go_loopw [7, 21] (fun _ i wr => ∃ (k : Nat), i = .int .i64 k ∧ k ≤ ln ∧ Hid (WSt p base wr (xs ++ uv ln ++ (l.take k).flatMap (cAct).enc) (bad || !(cL cAct).okt (l.take k))) ∧ Hid (Keep isWr base w0 wr)) (fun _ i _ => ln - (intOf i).toNat)
  case atStart => exact ⟨0, rfl, by omega, by show WSt _ _ _ _ _; simpa [cL] using HQ2.out, HQ3⟩
  case round =>
    obtain ⟨k, rfl, hk, HST, HK⟩ := hrel
    by_cases hk4 : k < ln
    · obtain ⟨x, hxk⟩ : ∃ n, l[k]? = some n := ⟨l[k]'(by rw [HL.out]; exact hk4), List.getElem?_eq_getElem _⟩
      have HTK := Lib.hid (show (l.take (k + 1)).flatMap (cAct).enc = (l.take k).flatMap (cAct).enc ++ (cAct).enc x by rw [List.take_add_one, hxk]; simp)
      have HTB := Lib.hid (show (bad || !(cL cAct).okt (l.take (k + 1))) = ((bad || !(cL cAct).okt (l.take k)) || !(cAct).okt x) by
        rw [List.take_add_one, hxk]
        show (bad || !(List.all (l.take k ++ [x]) (cAct).okt)) = ((bad || !(List.all (l.take k) (cAct).okt)) || !(cAct).okt x)
        rw [List.all_append]
        simp [Bool.not_and, Bool.or_assoc])
      have hmem := List.mem_of_getElem? hxk
      have hox := Lib.hid (HO.out x hmem)
      have hmx := Lib.hid (HM.out x hmem)
      have hsz : Hid ((xs ++ uv ln ++ (l.take k).flatMap (cAct).enc).length + ((cAct).enc x).length + 10 ≤ 140737488355328) := by
        show _ ≤ _
        have h8 := HLEN.out
        have h9 : (l.flatMap (cAct).enc).length = ((l.take (k + 1)).flatMap (cAct).enc).length + ((l.drop (k + 1)).flatMap (cAct).enc).length := by
          rw [← List.length_append, ← List.flatMap_append, List.take_append_drop]
        rw [HTK.out] at h9
        simp only [List.length_append] at h9 ⊢
        omega
      obtain ⟨b, o, us, rfl, hbb, hus, hrep⟩ := (HV.out.keep mAct_law (HK.out.below hB)).at hxk
      clear hmem hxk
      obtain ⟨qn, ⟨qt_qa, qt_qb, qt_qc, qt_qd, qt_qe, qt_qf, qt_qg, qt_qh, qt_qi, qt_qj⟩⟩ := x
      have hrep0 := hrep
      obtain ⟨rfl, _⟩ := mAct_form hrep
      have d0 := hus 0 _ rfl
      have d1 := hus 1 _ rfl
      have d2 := hus 2 _ rfl
      have d3 := hus 3 _ rfl
      have d4 := hus 4 _ rfl
      have d5 := hus 5 _ rfl
      have d6 := hus 6 _ rfl
      have d7 := hus 7 _ rfl
      have d8 := hus 8 _ rfl
      have d9 := hus 9 _ rfl
      have d10 := hus 10 _ rfl
      rw [show mAct.n = 11 from rfl] at d0 d1 d2 d3 d4 d5 d6 d7 d8 d9 d10
      rw [Nat.add_zero] at d0
      have HSA := Lib.hid (HST.out.alloc (.cells #[.int .i64 qn, .int .i64 qt_qa, .int .i64 qt_qb, .int .u8 qt_qc, .int .i64 qt_qd, .int .i64 qt_qe, .int .i64 qt_qf, .int .i64 qt_qg, .int .i64 qt_qh, .int .i64 qt_qi, .int .i64 qt_qj] 138))
      have HRA : Hid (mAct.rep base (wr.alloc (.cells #[.int .i64 qn, .int .i64 qt_qa, .int .i64 qt_qb, .int .u8 qt_qc, .int .i64 qt_qd, .int .i64 qt_qe, .int .i64 qt_qf, .int .i64 qt_qg, .int .i64 qt_qh, .int .i64 qt_qi, .int .i64 qt_qj] 138)) [.int .i64 qn, .int .i64 qt_qa, .int .i64 qt_qb, .int .u8 qt_qc, .int .i64 qt_qd, .int .i64 qt_qe, .int .i64 qt_qf, .int .i64 qt_qg, .int .i64 qt_qh, .int .i64 qt_qi, .int .i64 qt_qj] (qn, (qt_qa, qt_qb, qt_qc, qt_qd, qt_qe, qt_qf, qt_qg, qt_qh, qt_qi, qt_qj))) := mAct_law.keep hrep0 ((Below.refl _ _).alloc (by have := HK.out.size; omega) _)
      have HWr : Hid ((wr.alloc (.cells #[.int .i64 qn, .int .i64 qt_qa, .int .i64 qt_qb, .int .u8 qt_qc, .int .i64 qt_qd, .int .i64 qt_qe, .int .i64 qt_qf, .int .i64 qt_qg, .int .i64 qt_qh, .int .i64 qt_qi, .int .i64 qt_qj] 138)).heap[wb]? = _) := blk_alloc (HK.out.blk HW.out rfl) _
      clear hus hrep hrep0
      go_wp2_with fail
      refine (wAct_any p base wb (qn, (qt_qa, qt_qb, qt_qc, qt_qd, qt_qe, qt_qf, qt_qg, qt_qh, qt_qi, qt_qj)) hox.out hmx.out _ _ _ (us := [.int .i64 qn, .int .i64 qt_qa, .int .i64 qt_qb, .int .u8 qt_qc, .int .i64 qt_qd, .int .i64 qt_qe, .int .i64 qt_qf, .int .i64 qt_qg, .int .i64 qt_qh, .int .i64 qt_qi, .int .i64 qt_qj]) HRA.out HSA.out HWr.out hb hsz.out).mono ?_
      rintro e w3 ⟨rfl, hst, hk2⟩
      have HS2 := Lib.hid hst
      have HK2 := Lib.hid ((HK.out.alloc _).trans hk2)
      clear hst hk2
      go_wp2
      go_roundw
      case rel => exact ⟨k + 1, by go_num, by omega, by show WSt _ _ _ _ _; rw [HTK.out, HTB.out, ← List.append_assoc]; exact HS2.out, HK2.out⟩
      case measure => simp [intOf]; omega
    · obtain rfl : k = ln := by omega
      have HF : Hid (WSt p base wr (xs ++ (cL cAct).enc l) (bad || !(cL cAct).okt l)) := by
        have := HST.out
        rw [List.take_of_length_le (by rw [HL.out]; exact Nat.le_refl _), List.append_assoc, ← HE.out] at this
        exact this
      go_wp2
      exact bodyPost_ret (v := .tuple #[]) (by simp [results]) rfl ⟨rfl, HF.out, HK.out⟩
set_option maxRecDepth 20000 in
set_option maxHeartbeats 1000000 in
theorem wLine_any (p base wb : Nat) (x : DLine) (ho : cLine.okr x) (hm : cLine.sm x) (xs : List UInt8) (bad : Bool) (w : World) (us : List Value) (hu : mLine.rep base w us x) (hs : WSt p base w xs bad) (hw : w.heap[wb]? = some (.cells #[.pointer (some ⟨p, 0, none⟩)] 68)) (hb : base ≤ p) (hlen : xs.length + (cLine.enc x).length + 10 ≤ 140737488355328) :
    Calls Tryz.prog 65 #[.agg us.toArray, .pointer (some ⟨wb, 0, none⟩)] w (WPost p base w (xs ++ cLine.enc x) (bad || !cLine.okt x)) := by
  obtain ⟨qs, qn, ql⟩ := x
  obtain ⟨vql, rfl, hrql⟩ := mLine_form hu
  have HRql := Lib.hid hrql
  clear hu hrql
  obtain ⟨_, a2, a3⟩ := ho
  obtain ⟨m1, _, m3⟩ := hm
  have HE : Hid (cLine.enc (qs, qn, ql) = (blobs [qs]) ++ ([qn].flatMap iv) ++ ((cL cItem).enc ql)) := by show _ = _; simp [cLine, cSeq, cI, cS, blobs]
  have HT : Hid (cLine.okt (qs, qn, ql) = ((shortB [qs]) && ((cL cItem).okt ql))) := by show _ = _; simp [cLine, cSeq, cI, cS, shortB]
  have HLEN : Hid (xs.length + ((blobs [qs]).length + ([qn].flatMap iv).length + ((cL cItem).enc ql).length) + 10 ≤ 140737488355328) := by
    rw [HE.out] at hlen
    simp only [List.length_append] at hlen
    show _ ≤ _
    omega
  have hB : base ≤ w.heap.size := by have := hs.lt; omega
  have HW0 := Lib.hid (blk_alloc hw (.cells #[.string qs, .int .i64 qn, vql] 120))
  have HB0 := Lib.hid (alloc_at w (.cells #[.string qs, .int .i64 qn, vql] 120))
  have HS0 := Lib.hid (hs.alloc (.cells #[.string qs, .int .i64 qn, vql] 120))
  have HK0 : Hid (Keep isWr base w (w.alloc (.cells #[.string qs, .int .i64 qn, vql] 120))) := (Keep.refl _ _ _).alloc _
  clear hw hs hlen
  go_enter Tryz.func65, Tryz.ntmps65
  have w0 := blk_cell HW0.out 0
  have c0 := blk_cell HB0.out 0
  simp at w0 c0
  have HSA := Lib.hid (HS0.out.alloc (.cells #[.string qs] 9))
  have HEL : Hid (ElemsAt (World.alloc (w.alloc (.cells #[.string qs, .int .i64 qn, vql] 120)) (.cells #[.string qs] 9)) (World.heap (w.alloc (.cells #[.string qs, .int .i64 qn, vql] 120))).size 9 [.string qs]) := elems_alloc _ _ _
  rw [show (World.heap (w.alloc (.cells #[.string qs, .int .i64 qn, vql] 120))).size = w.heap.size + 1 by simp] at HEL
  go_wp2_with fail
  refine (texts_any p base _ [qs] 1 rfl _ _ _ HSA.out HEL.out (all1 m1) hb (by omega) (by have := HLEN.out; omega)).mono ?_
  rintro e y1 ⟨rfl, hst, hk⟩
  have HS1 := Lib.hid hst
  have HW1 := Lib.hid (hk.blk (blk_alloc (HW0.out) _) rfl)
  have HB1 := Lib.hid (hk.blk (blk_alloc (HB0.out) _) rfl)
  have HK1 := Lib.hid ((HK0.out.alloc _).trans hk)
  clear hst hk w0 c0 HSA HEL HS0 HK0 HW0 HB0
  have w0 := blk_cell HW1.out 0
  have c1 := blk_cell HB1.out 1
  simp at w0 c1
  have HSA := Lib.hid (HS1.out.alloc (.cells #[.int .i64 qn] 3))
  have HEL : Hid (ElemsAt (World.alloc y1 (.cells #[.int .i64 qn] 3)) (World.heap y1).size 3 [.int .i64 qn]) := elems_alloc _ _ _
  go_wp2_with fail
  refine (ints_any p base _ [qn] 1 rfl _ _ _ HSA.out HEL.out (all1 a2) hb (by omega) (by have := HLEN.out; simp only [List.length_append]; omega)).mono ?_
  rintro e y2 ⟨rfl, hst, hk⟩
  have HS2 := Lib.hid hst
  have HW2 := Lib.hid (hk.blk (blk_alloc (HW1.out) _) rfl)
  have HB2 := Lib.hid (hk.blk (blk_alloc (HB1.out) _) rfl)
  have HK2 := Lib.hid ((HK1.out.alloc _).trans hk)
  clear hst hk w0 c1 HSA HEL HS1 HK1 HW1 HB1
  have w0 := blk_cell HW2.out 0
  have c2 := blk_cell HB2.out 2
  simp at w0 c2
  go_wp2_with fail
  refine (lItem_any p base wb vql ql (HRql.out.keep mItem_law (HK2.out.below hB)) a3 m3 _ _ HS2.out HW2.out hb (by have := HLEN.out; simp only [List.length_append]; omega)).mono ?_
  rintro e y3 ⟨rfl, hst, hk⟩
  have HS3 := Lib.hid hst
  have HW3 := Lib.hid (hk.blk (HW2.out) rfl)
  have HB3 := Lib.hid (hk.blk (HB2.out) rfl)
  have HK3 := Lib.hid ((HK2.out).trans hk)
  clear hst hk w0 c2 HS2 HK2 HW2 HB2
  have HF := Lib.hid (HS3.out.cast (xs' := xs ++ cLine.enc (qs, qn, ql)) (bad' := bad || !cLine.okt (qs, qn, ql)) (by rw [HE.out]; simp only [List.append_assoc]) (by rw [HT.out]; exact bad2 _ _ _))
  go_wp2
  exact bodyPost_ret (v := .tuple #[]) (by simp [results]) rfl ⟨rfl, HF.out, HK3.out⟩
set_option maxRecDepth 20000 in
set_option maxHeartbeats 1000000 in
theorem lLine_any (p base wb : Nat) (v : Value) (l : List DLine) {w0 : World} (hv : LRep mLine base w0 v l) (ho : (cL cLine).okr l) (hm : (cL cLine).sm l) (xs : List UInt8) (bad : Bool) (hs : WSt p base w0 xs bad) (hw : w0.heap[wb]? = some (.cells #[.pointer (some ⟨p, 0, none⟩)] 68)) (hb : base ≤ p) (hlen : xs.length + ((cL cLine).enc l).length + 10 ≤ 140737488355328) :
    Calls Tryz.prog 64 #[.pointer (some ⟨p, 0, none⟩), v, .func (.func 65) #[] #[.pointer (some ⟨wb, 0, none⟩)]] w0 (WPost p base w0 (xs ++ (cL cLine).enc l) (bad || !(cL cLine).okt l)) := by
  obtain ⟨ho1, ho2⟩ := ho
  obtain ⟨hm1, hm2⟩ := hm
  have hB : base ≤ w0.heap.size := by have := hs.lt; omega
  obtain ⟨A, cp, rfl⟩ := hv.form
  obtain ⟨ln, hln⟩ : ∃ ln, l.length = ln := ⟨_, rfl⟩
  have HL := Lib.hid hln
  have HV := Lib.hid hv
  have HO := Lib.hid ho2
  have HM := Lib.hid hm2
  have HW := Lib.hid hw
  have HE : Hid ((cL cLine).enc l = uv ln ++ l.flatMap (cLine).enc) := by show _ = _; rw [← hln]; rfl
  have HLEN : Hid (xs.length + ((uv ln).length + (l.flatMap (cLine).enc).length) + 10 ≤ 140737488355328) := by
    rw [HE.out] at hlen
    simp only [List.length_append] at hlen
    show _ ≤ _
    omega
  rw [hln] at ho1 hm1 ⊢
  have hln3 : ln ≤ 20000 := hm1
  obtain ⟨v1, hc1, hw1⟩ := hs
  have o0 : w0.cell? ⟨p, 0, none⟩ = some v1 := by rw [blk_cell hc1]; rfl
  have HC := Lib.hid (uint_any v1 xs ln w0 base (by omega) hw1 hB (by have := HLEN.out; omega))
  have HC1 := Lib.hid hc1
  have HO1 := Lib.hid hw1
  clear hv hln ho1 ho2 hm1 hm2 hlen hc1 hw1 hw
  go_enter Tryz.func64, Tryz.ntmps64
  go_wp2_with fail
  refine HC.out.mono ?_
  rintro e w2 ⟨v2, rfl, hown, hext⟩
  obtain ⟨A2, n2, c2, e2⟩ := hown.form
  subst e2
  obtain ⟨q1, q2, q3⟩ := WSt.store HC1.out HO1.out hown hext hb
  have e3 := blk_cell q1 0
  have e4 := blk_free q1 0
  simp at e3
  have HQ2 := Lib.hid q2
  have HQ3 := Lib.hid q3
  clear q1 q2 q3 hown hext o0 HC HC1 HO1
  go_wp2
  clear e3 e4
  go_loopw [7, 21] (fun _ i wr => ∃ (k : Nat), i = .int .i64 k ∧ k ≤ ln ∧ Hid (WSt p base wr (xs ++ uv ln ++ (l.take k).flatMap (cLine).enc) (bad || !(cL cLine).okt (l.take k))) ∧ Hid (Keep isWr base w0 wr)) (fun _ i _ => ln - (intOf i).toNat)
  case atStart => exact ⟨0, rfl, by omega, by show WSt _ _ _ _ _; simpa [cL] using HQ2.out, HQ3⟩
  case round =>
    obtain ⟨k, rfl, hk, HST, HK⟩ := hrel
    by_cases hk4 : k < ln
    · obtain ⟨x, hxk⟩ : ∃ n, l[k]? = some n := ⟨l[k]'(by rw [HL.out]; exact hk4), List.getElem?_eq_getElem _⟩
      have HTK := Lib.hid (show (l.take (k + 1)).flatMap (cLine).enc = (l.take k).flatMap (cLine).enc ++ (cLine).enc x by rw [List.take_add_one, hxk]; simp)
      have HTB := Lib.hid (show (bad || !(cL cLine).okt (l.take (k + 1))) = ((bad || !(cL cLine).okt (l.take k)) || !(cLine).okt x) by
        rw [List.take_add_one, hxk]
        show (bad || !(List.all (l.take k ++ [x]) (cLine).okt)) = ((bad || !(List.all (l.take k) (cLine).okt)) || !(cLine).okt x)
        rw [List.all_append]
        simp [Bool.not_and, Bool.or_assoc])
      have hmem := List.mem_of_getElem? hxk
      have hox := Lib.hid (HO.out x hmem)
      have hmx := Lib.hid (HM.out x hmem)
      have hsz : Hid ((xs ++ uv ln ++ (l.take k).flatMap (cLine).enc).length + ((cLine).enc x).length + 10 ≤ 140737488355328) := by
        show _ ≤ _
        have h8 := HLEN.out
        have h9 : (l.flatMap (cLine).enc).length = ((l.take (k + 1)).flatMap (cLine).enc).length + ((l.drop (k + 1)).flatMap (cLine).enc).length := by
          rw [← List.length_append, ← List.flatMap_append, List.take_append_drop]
        rw [HTK.out] at h9
        simp only [List.length_append] at h9 ⊢
        omega
      obtain ⟨b, o, us, rfl, hbb, hus, hrep⟩ := (HV.out.keep mLine_law (HK.out.below hB)).at hxk
      clear hmem hxk
      obtain ⟨qs, qn, ql⟩ := x
      have hrep0 := hrep
      obtain ⟨vql, rfl, hlql⟩ := mLine_form hrep
      obtain ⟨Aql, cql, rfl⟩ := hlql.form
      clear hlql
      have d0 := hus 0 _ rfl
      have d1 := hus 1 _ rfl
      have d2 := hus 2 _ rfl
      rw [show mLine.n = 3 from rfl] at d0 d1 d2
      rw [Nat.add_zero] at d0
      have HSA := Lib.hid (HST.out.alloc (.cells #[.string qs, .int .i64 qn, .slice Aql ql.length cql] 120))
      have HRA : Hid (mLine.rep base (wr.alloc (.cells #[.string qs, .int .i64 qn, .slice Aql ql.length cql] 120)) [.string qs, .int .i64 qn, .slice Aql ql.length cql] (qs, qn, ql)) := mLine_law.keep hrep0 ((Below.refl _ _).alloc (by have := HK.out.size; omega) _)
      have HWr : Hid ((wr.alloc (.cells #[.string qs, .int .i64 qn, .slice Aql ql.length cql] 120)).heap[wb]? = _) := blk_alloc (HK.out.blk HW.out rfl) _
      clear hus hrep hrep0
      go_wp2_with fail
      refine (wLine_any p base wb (qs, qn, ql) hox.out hmx.out _ _ _ (us := [.string qs, .int .i64 qn, .slice Aql ql.length cql]) HRA.out HSA.out HWr.out hb hsz.out).mono ?_
      rintro e w3 ⟨rfl, hst, hk2⟩
      have HS2 := Lib.hid hst
      have HK2 := Lib.hid ((HK.out.alloc _).trans hk2)
      clear hst hk2
      go_wp2
      go_roundw
      case rel => exact ⟨k + 1, by go_num, by omega, by show WSt _ _ _ _ _; rw [HTK.out, HTB.out, ← List.append_assoc]; exact HS2.out, HK2.out⟩
      case measure => simp [intOf]; omega
    · obtain rfl : k = ln := by omega
      have HF : Hid (WSt p base wr (xs ++ (cL cLine).enc l) (bad || !(cL cLine).okt l)) := by
        have := HST.out
        rw [List.take_of_length_le (by rw [HL.out]; exact Nat.le_refl _), List.append_assoc, ← HE.out] at this
        exact this
      go_wp2
      exact bodyPost_ret (v := .tuple #[]) (by simp [results]) rfl ⟨rfl, HF.out, HK.out⟩
set_option maxRecDepth 20000 in
set_option maxHeartbeats 1000000 in
theorem wHist_any (p base : Nat) (x : DHist) (ho : cHist.okr x) (hm : cHist.sm x) (xs : List UInt8) (bad : Bool) (w : World) (us : List Value) (hu : mHist.rep base w us x) (hs : WSt p base w xs bad) (hb : base ≤ p) (hlen : xs.length + (cHist.enc x).length + 10 ≤ 140737488355328) :
    Calls Tryz.prog 56 #[.pointer (some ⟨p, 0, none⟩), .agg us.toArray] w (WPost p base w (xs ++ cHist.enc x) (bad || !cHist.okt x)) := by
  obtain ⟨qp, qa, qcs, qts, qks, qss, qst, qcl, qo, qov, qln, qla⟩ := x
  obtain ⟨vqcs, vqts, vqks, vqss, rfl, hrqcs, hrqts, hrqks, hrqss⟩ := mHist_form hu
  have HRqcs := Lib.hid hrqcs
  have HRqts := Lib.hid hrqts
  have HRqks := Lib.hid hrqks
  have HRqss := Lib.hid hrqss
  clear hu hrqcs hrqts hrqks hrqss
  obtain ⟨_, a2, a3, a4, a5, a6, _, _, a9, a10, a11, a12⟩ := ho
  obtain ⟨m1, _, m3, m4, m5, m6, _⟩ := hm
  have HE : Hid (cHist.enc (qp, qa, qcs, qts, qks, qss, qst, qcl, qo, qov, qln, qla) = (blobs [qp]) ++ ([qa].flatMap iv) ++ ((cL cCmd).enc qcs) ++ ((cL cI).enc qts) ++ ((cL cKnown).enc qks) ++ ((cL cI).enc qss) ++ (flagsB [qst, qcl]) ++ ([qo].flatMap iv) ++ ([qov].flatMap iv) ++ ([qln].flatMap iv) ++ ([qla].flatMap iv)) := by show _ = _; simp [cHist, cSeq, cI, cS, blobs, cF, flagsB]
  have HT : Hid (cHist.okt (qp, qa, qcs, qts, qks, qss, qst, qcl, qo, qov, qln, qla) = ((shortB [qp]) && ((cL cCmd).okt qcs) && ((cL cI).okt qts) && ((cL cKnown).okt qks) && ((cL cI).okt qss))) := by show _ = _; simp [cHist, cSeq, cI, cS, shortB, cF, Bool.and_assoc]
  have HLEN : Hid (xs.length + ((blobs [qp]).length + ([qa].flatMap iv).length + ((cL cCmd).enc qcs).length + ((cL cI).enc qts).length + ((cL cKnown).enc qks).length + ((cL cI).enc qss).length + (flagsB [qst, qcl]).length + ([qo].flatMap iv).length + ([qov].flatMap iv).length + ([qln].flatMap iv).length + ([qla].flatMap iv).length) + 10 ≤ 140737488355328) := by
    rw [HE.out] at hlen
    simp only [List.length_append] at hlen
    show _ ≤ _
    omega
  have hB : base ≤ w.heap.size := by have := hs.lt; omega
  have HW0 := Lib.hid (two_alloc w (.cells #[.pointer (some ⟨p, 0, none⟩)] 68) (.cells #[.string qp, .int .i64 qa, vqcs, vqts, vqks, vqss, .bool qst, .bool qcl, .int .i64 qo, .int .i64 qov, .int .i64 qln, .int .i64 qla] 59)).1
  have HB0 := Lib.hid (two_alloc w (.cells #[.pointer (some ⟨p, 0, none⟩)] 68) (.cells #[.string qp, .int .i64 qa, vqcs, vqts, vqks, vqss, .bool qst, .bool qcl, .int .i64 qo, .int .i64 qov, .int .i64 qln, .int .i64 qla] 59)).2
  have HS0 := Lib.hid ((hs.alloc (.cells #[.pointer (some ⟨p, 0, none⟩)] 68)).alloc (.cells #[.string qp, .int .i64 qa, vqcs, vqts, vqks, vqss, .bool qst, .bool qcl, .int .i64 qo, .int .i64 qov, .int .i64 qln, .int .i64 qla] 59))
  have HK0 : Hid (Keep isWr base w ((w.alloc (.cells #[.pointer (some ⟨p, 0, none⟩)] 68)).alloc (.cells #[.string qp, .int .i64 qa, vqcs, vqts, vqks, vqss, .bool qst, .bool qcl, .int .i64 qo, .int .i64 qov, .int .i64 qln, .int .i64 qla] 59))) := ((Keep.refl _ _ _).alloc _).alloc _
  clear hs hlen
  go_enter Tryz.func56, Tryz.ntmps56
  have w0 := blk_cell HW0.out 0
  have c0 := blk_cell HB0.out 0
  simp at w0 c0
  have HSA := Lib.hid (HS0.out.alloc (.cells #[.string qp] 9))
  have HEL : Hid (ElemsAt (World.alloc ((w.alloc (.cells #[.pointer (some ⟨p, 0, none⟩)] 68)).alloc (.cells #[.string qp, .int .i64 qa, vqcs, vqts, vqks, vqss, .bool qst, .bool qcl, .int .i64 qo, .int .i64 qov, .int .i64 qln, .int .i64 qla] 59)) (.cells #[.string qp] 9)) (World.heap ((w.alloc (.cells #[.pointer (some ⟨p, 0, none⟩)] 68)).alloc (.cells #[.string qp, .int .i64 qa, vqcs, vqts, vqks, vqss, .bool qst, .bool qcl, .int .i64 qo, .int .i64 qov, .int .i64 qln, .int .i64 qla] 59))).size 9 [.string qp]) := elems_alloc _ _ _
  rw [show (World.heap ((w.alloc (.cells #[.pointer (some ⟨p, 0, none⟩)] 68)).alloc (.cells #[.string qp, .int .i64 qa, vqcs, vqts, vqks, vqss, .bool qst, .bool qcl, .int .i64 qo, .int .i64 qov, .int .i64 qln, .int .i64 qla] 59))).size = w.heap.size + 1 + 1 by simp] at HEL
  go_wp2_with fail
  refine (texts_any p base _ [qp] 1 rfl _ _ _ HSA.out HEL.out (all1 m1) hb (by omega) (by have := HLEN.out; omega)).mono ?_
  rintro e y1 ⟨rfl, hst, hk⟩
  have HS1 := Lib.hid hst
  have HW1 := Lib.hid (hk.blk (blk_alloc (HW0.out) _) rfl)
  have HB1 := Lib.hid (hk.blk (blk_alloc (HB0.out) _) rfl)
  have HK1 := Lib.hid ((HK0.out.alloc _).trans hk)
  clear hst hk w0 c0 HSA HEL HS0 HK0 HW0 HB0
  have w0 := blk_cell HW1.out 0
  have c1 := blk_cell HB1.out 1
  simp at w0 c1
  have HSA := Lib.hid (HS1.out.alloc (.cells #[.int .i64 qa] 2))
  have HEL : Hid (ElemsAt (World.alloc y1 (.cells #[.int .i64 qa] 2)) (World.heap y1).size 2 [.int .i64 qa]) := elems_alloc _ _ _
  go_wp2_with fail
  refine (numbers_any p base _ [qa] 1 rfl _ _ _ HSA.out HEL.out (all1 a2) hb (by omega) (by have := HLEN.out; simp only [List.length_append]; omega)).mono ?_
  rintro e y2 ⟨rfl, hst, hk⟩
  have HS2 := Lib.hid hst
  have HW2 := Lib.hid (hk.blk (blk_alloc (HW1.out) _) rfl)
  have HB2 := Lib.hid (hk.blk (blk_alloc (HB1.out) _) rfl)
  have HK2 := Lib.hid ((HK1.out.alloc _).trans hk)
  clear hst hk w0 c1 HSA HEL HS1 HK1 HW1 HB1
  have w0 := blk_cell HW2.out 0
  have c2 := blk_cell HB2.out 2
  simp at w0 c2
  go_wp2_with fail
  refine (lCmd_any p base (w.heap.size) vqcs qcs (HRqcs.out.keep mCmd_law (HK2.out.below hB)) a3 m3 _ _ HS2.out HW2.out hb (by have := HLEN.out; simp only [List.length_append]; omega)).mono ?_
  rintro e y3 ⟨rfl, hst, hk⟩
  have HS3 := Lib.hid hst
  have HW3 := Lib.hid (hk.blk (HW2.out) rfl)
  have HB3 := Lib.hid (hk.blk (HB2.out) rfl)
  have HK3 := Lib.hid ((HK2.out).trans hk)
  clear hst hk w0 c2 HS2 HK2 HW2 HB2
  have w0 := blk_cell HW3.out 0
  have c3 := blk_cell HB3.out 3
  simp at w0 c3
  go_wp2_with fail
  refine (lInt_any p base (w.heap.size) vqts qts (HRqts.out.keep mI_law (HK3.out.below hB)) a4 m4 _ _ HS3.out HW3.out hb (by have := HLEN.out; simp only [List.length_append]; omega)).mono ?_
  rintro e y4 ⟨rfl, hst, hk⟩
  have HS4 := Lib.hid hst
  have HW4 := Lib.hid (hk.blk (HW3.out) rfl)
  have HB4 := Lib.hid (hk.blk (HB3.out) rfl)
  have HK4 := Lib.hid ((HK3.out).trans hk)
  clear hst hk w0 c3 HS3 HK3 HW3 HB3
  have w0 := blk_cell HW4.out 0
  have c4 := blk_cell HB4.out 4
  simp at w0 c4
  go_wp2_with fail
  refine (lKnown_any p base (w.heap.size) vqks qks (HRqks.out.keep mKnown_law (HK4.out.below hB)) a5 m5 _ _ HS4.out HW4.out hb (by have := HLEN.out; simp only [List.length_append]; omega)).mono ?_
  rintro e y5 ⟨rfl, hst, hk⟩
  have HS5 := Lib.hid hst
  have HW5 := Lib.hid (hk.blk (HW4.out) rfl)
  have HB5 := Lib.hid (hk.blk (HB4.out) rfl)
  have HK5 := Lib.hid ((HK4.out).trans hk)
  clear hst hk w0 c4 HS4 HK4 HW4 HB4
  have w0 := blk_cell HW5.out 0
  have c5 := blk_cell HB5.out 5
  simp at w0 c5
  go_wp2_with fail
  refine (lNum_any p base (w.heap.size) vqss qss (HRqss.out.keep mI_law (HK5.out.below hB)) a6 m6 _ _ HS5.out HW5.out hb (by have := HLEN.out; simp only [List.length_append]; omega)).mono ?_
  rintro e y6 ⟨rfl, hst, hk⟩
  have HS6 := Lib.hid hst
  have HW6 := Lib.hid (hk.blk (HW5.out) rfl)
  have HB6 := Lib.hid (hk.blk (HB5.out) rfl)
  have HK6 := Lib.hid ((HK5.out).trans hk)
  clear hst hk w0 c5 HS5 HK5 HW5 HB5
  have w0 := blk_cell HW6.out 0
  have c6 := blk_cell HB6.out 6
  have c7 := blk_cell HB6.out 7
  simp at w0 c6 c7
  have HSA := Lib.hid (HS6.out.alloc (.cells #[.bool qst, .bool qcl] 4))
  have HEL : Hid (ElemsAt (World.alloc y6 (.cells #[.bool qst, .bool qcl] 4)) (World.heap y6).size 4 [.bool qst, .bool qcl]) := elems_alloc _ _ _
  go_wp2_with fail
  refine (flags_any p base _ [qst, qcl] 2 rfl _ _ _ HSA.out HEL.out hb (by omega) (by have := HLEN.out; simp only [List.length_append]; omega)).mono ?_
  rintro e y7 ⟨rfl, hst, hk⟩
  have HS7 := Lib.hid hst
  have HW7 := Lib.hid (hk.blk (blk_alloc (HW6.out) _) rfl)
  have HB7 := Lib.hid (hk.blk (blk_alloc (HB6.out) _) rfl)
  have HK7 := Lib.hid ((HK6.out.alloc _).trans hk)
  clear hst hk w0 c6 c7 HSA HEL HS6 HK6 HW6 HB6
  have w0 := blk_cell HW7.out 0
  have c8 := blk_cell HB7.out 8
  simp at w0 c8
  have HSA := Lib.hid (HS7.out.alloc (.cells #[.int .i64 qo] 3))
  have HEL : Hid (ElemsAt (World.alloc y7 (.cells #[.int .i64 qo] 3)) (World.heap y7).size 3 [.int .i64 qo]) := elems_alloc _ _ _
  go_wp2_with fail
  refine (ints_any p base _ [qo] 1 rfl _ _ _ HSA.out HEL.out (all1 a9) hb (by omega) (by have := HLEN.out; simp only [List.length_append]; omega)).mono ?_
  rintro e y8 ⟨rfl, hst, hk⟩
  have HS8 := Lib.hid hst
  have HW8 := Lib.hid (hk.blk (blk_alloc (HW7.out) _) rfl)
  have HB8 := Lib.hid (hk.blk (blk_alloc (HB7.out) _) rfl)
  have HK8 := Lib.hid ((HK7.out.alloc _).trans hk)
  clear hst hk w0 c8 HSA HEL HS7 HK7 HW7 HB7
  have w0 := blk_cell HW8.out 0
  have c9 := blk_cell HB8.out 9
  simp at w0 c9
  have HSA := Lib.hid (HS8.out.alloc (.cells #[.int .i64 qov] 2))
  have HEL : Hid (ElemsAt (World.alloc y8 (.cells #[.int .i64 qov] 2)) (World.heap y8).size 2 [.int .i64 qov]) := elems_alloc _ _ _
  go_wp2_with fail
  refine (numbers_any p base _ [qov] 1 rfl _ _ _ HSA.out HEL.out (all1 a10) hb (by omega) (by have := HLEN.out; simp only [List.length_append]; omega)).mono ?_
  rintro e y9 ⟨rfl, hst, hk⟩
  have HS9 := Lib.hid hst
  have HW9 := Lib.hid (hk.blk (blk_alloc (HW8.out) _) rfl)
  have HB9 := Lib.hid (hk.blk (blk_alloc (HB8.out) _) rfl)
  have HK9 := Lib.hid ((HK8.out.alloc _).trans hk)
  clear hst hk w0 c9 HSA HEL HS8 HK8 HW8 HB8
  have w0 := blk_cell HW9.out 0
  have c10 := blk_cell HB9.out 10
  simp at w0 c10
  have HSA := Lib.hid (HS9.out.alloc (.cells #[.int .i64 qln] 3))
  have HEL : Hid (ElemsAt (World.alloc y9 (.cells #[.int .i64 qln] 3)) (World.heap y9).size 3 [.int .i64 qln]) := elems_alloc _ _ _
  go_wp2_with fail
  refine (ints_any p base _ [qln] 1 rfl _ _ _ HSA.out HEL.out (all1 a11) hb (by omega) (by have := HLEN.out; simp only [List.length_append]; omega)).mono ?_
  rintro e y10 ⟨rfl, hst, hk⟩
  have HS10 := Lib.hid hst
  have HW10 := Lib.hid (hk.blk (blk_alloc (HW9.out) _) rfl)
  have HB10 := Lib.hid (hk.blk (blk_alloc (HB9.out) _) rfl)
  have HK10 := Lib.hid ((HK9.out.alloc _).trans hk)
  clear hst hk w0 c10 HSA HEL HS9 HK9 HW9 HB9
  have w0 := blk_cell HW10.out 0
  have c11 := blk_cell HB10.out 11
  simp at w0 c11
  have HSA := Lib.hid (HS10.out.alloc (.cells #[.int .i64 qla] 2))
  have HEL : Hid (ElemsAt (World.alloc y10 (.cells #[.int .i64 qla] 2)) (World.heap y10).size 2 [.int .i64 qla]) := elems_alloc _ _ _
  go_wp2_with fail
  refine (numbers_any p base _ [qla] 1 rfl _ _ _ HSA.out HEL.out (all1 a12) hb (by omega) (by have := HLEN.out; simp only [List.length_append]; omega)).mono ?_
  rintro e y11 ⟨rfl, hst, hk⟩
  have HS11 := Lib.hid hst
  have HW11 := Lib.hid (hk.blk (blk_alloc (HW10.out) _) rfl)
  have HB11 := Lib.hid (hk.blk (blk_alloc (HB10.out) _) rfl)
  have HK11 := Lib.hid ((HK10.out.alloc _).trans hk)
  clear hst hk w0 c11 HSA HEL HS10 HK10 HW10 HB10
  have HF := Lib.hid (HS11.out.cast (xs' := xs ++ cHist.enc (qp, qa, qcs, qts, qks, qss, qst, qcl, qo, qov, qln, qla)) (bad' := bad || !cHist.okt (qp, qa, qcs, qts, qks, qss, qst, qcl, qo, qov, qln, qla)) (by rw [HE.out]; simp only [List.append_assoc]) (by rw [HT.out]; exact bad5 _ _ _ _ _ _))
  go_wp2
  exact bodyPost_ret (v := .tuple #[]) (by simp [results]) rfl ⟨rfl, HF.out, HK11.out⟩
end Go.Proofs.YtckooioikcenmaaGreat

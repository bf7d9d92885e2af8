/- codec.Op and codec.Shop. Conditions: sizes a machine can have. -/
import Derived.Test.YtckooioikcenmaaGreatCkW6
import Derived.Deep.MidRow
namespace Go.Proofs.YtckooioikcenmaaGreat
open Go.RowKit
/-- what the writing of data answers -/
def EncPost {α : Type} (c : Cd α) (x : α) (w : World) (e : Ending) (w' : World) : Prop :=
  Below w.heap.size w w' ∧ (if c.okt x = true then ∃ v, e = .returned (.tuple #[v, .int .i64 0]) ∧ Bytes w.heap.size w' v (c.enc x) else e = .returned (.tuple #[.slice none 0 0, .int .i64 2]))
set_option maxRecDepth 20000 in
set_option maxHeartbeats 1000000 in
theorem wOp_any (x : DOp) (ho : cOp.okr x) (hm : cOp.sm x) (hlen : (cOp.enc x).length ≤ 100000000000) (w : World) (us : List Value) (hu : mOp.rep w.heap.size w us x) :
    Calls Tryz.prog 6 #[.agg us.toArray] w (EncPost cOp x w) := by
  obtain ⟨qdo, qi, qq, qp, qt, qa, qj, qs, qw, qm⟩ := x
  obtain rfl := mOp_form hu
  clear hu
  obtain ⟨⟨o2, o2b⟩, _, _, _, _, a6, a7, a8, a9, a10⟩ := ho
  have hb0 : (0 : Int) ≤ qdo := o2
  have hb1 : qdo ≤ 255 := o2b
  obtain ⟨_, m2, m3, m4, m5, _⟩ := hm
  have HE : Hid (cOp.enc (qdo, qi, qq, qp, qt, qa, qj, qs, qw, qm) = ([qdo].flatMap iv) ++ (blobs [qi, qq, qp, qt]) ++ ([qa, qj].flatMap iv) ++ ([qs, qw, qm].flatMap iv)) := by show _ = _; simp [cOp, cSeq, cI, cB, cS, blobs]
  have HT : Hid (cOp.okt (qdo, qi, qq, qp, qt, qa, qj, qs, qw, qm) = ((shortB [qi, qq, qp, qt]))) := by show _ = _; simp [cOp, cSeq, cI, cB, cS, shortB]
  have HLEN : Hid (([] : List UInt8).length + (([qdo].flatMap iv).length + (blobs [qi, qq, qp, qt]).length + ([qa, qj].flatMap iv).length + ([qs, qw, qm].flatMap iv).length) + 10 ≤ 140737488355328) := by
    rw [HE.out] at hlen
    simp only [List.length_append] at hlen
    show _ ≤ _
    simp only [List.length_nil]
    omega
  have hB : w.heap.size ≤ w.heap.size := Nat.le_refl _
  clear hlen
  have HB0 := Lib.hid (two_alloc w (.cells #[.int .u8 qdo, .string qi, .string qq, .string qp, .string qt, .int .i64 qa, .int .i64 qj, .int .i64 qs, .int .i64 qw, .int .i64 qm] 24) (.cells #[.slice none 0 0, .bool false] 70)).1
  have HS0 : Hid (WSt (w.heap.size + 1) w.heap.size ((w.alloc (.cells #[.int .u8 qdo, .string qi, .string qq, .string qp, .string qt, .int .i64 qa, .int .i64 qj, .int .i64 qs, .int .i64 qw, .int .i64 qm] 24)).alloc (.cells #[.slice none 0 0, .bool false] 70)) [] false) := ⟨_, (two_alloc w (.cells #[.int .u8 qdo, .string qi, .string qq, .string qp, .string qt, .int .i64 qa, .int .i64 qj, .int .i64 qs, .int .i64 qw, .int .i64 qm] 24) (.cells #[.slice none 0 0, .bool false] 70)).2, Bytes.nil _ _⟩
  have HK0 : Hid (Keep isWr w.heap.size w ((w.alloc (.cells #[.int .u8 qdo, .string qi, .string qq, .string qp, .string qt, .int .i64 qa, .int .i64 qj, .int .i64 qs, .int .i64 qw, .int .i64 qm] 24)).alloc (.cells #[.slice none 0 0, .bool false] 70))) := ((Keep.refl _ _ _).alloc _).alloc _
  have hb : w.heap.size ≤ w.heap.size + 1 := Nat.le_succ _
  go_enter Tryz.func6, Tryz.ntmps6
  have c0 := blk_cell HB0.out 0
  simp at c0
  have HSA := Lib.hid (HS0.out.alloc (.cells #[.int .i64 qdo] 3))
  have HEL : Hid (ElemsAt (World.alloc ((w.alloc (.cells #[.int .u8 qdo, .string qi, .string qq, .string qp, .string qt, .int .i64 qa, .int .i64 qj, .int .i64 qs, .int .i64 qw, .int .i64 qm] 24)).alloc (.cells #[.slice none 0 0, .bool false] 70)) (.cells #[.int .i64 qdo] 3)) (World.heap ((w.alloc (.cells #[.int .u8 qdo, .string qi, .string qq, .string qp, .string qt, .int .i64 qa, .int .i64 qj, .int .i64 qs, .int .i64 qw, .int .i64 qm] 24)).alloc (.cells #[.slice none 0 0, .bool false] 70))).size 3 [.int .i64 qdo]) := elems_alloc _ _ _
  rw [show (World.heap ((w.alloc (.cells #[.int .u8 qdo, .string qi, .string qq, .string qp, .string qt, .int .i64 qa, .int .i64 qj, .int .i64 qs, .int .i64 qw, .int .i64 qm] 24)).alloc (.cells #[.slice none 0 0, .bool false] 70))).size = w.heap.size + 1 + 1 by simp] at HEL
  go_wp2_with fail
  refine (ints_any (w.heap.size + 1) w.heap.size _ [qdo] 1 rfl _ _ _ HSA.out HEL.out (all1 (small64 ⟨o2, o2b⟩)) hb (by omega) (by have := HLEN.out; omega)).mono ?_
  rintro e y1 ⟨rfl, hst, hk⟩
  have HS1 := Lib.hid hst
  have HB1 := Lib.hid (hk.blk (blk_alloc (HB0.out) _) rfl)
  have HK1 := Lib.hid ((HK0.out.alloc _).trans hk)
  clear hst hk c0 HSA HEL HS0 HK0 HB0
  have c1 := blk_cell HB1.out 1
  have c2 := blk_cell HB1.out 2
  have c3 := blk_cell HB1.out 3
  have c4 := blk_cell HB1.out 4
  simp at c1 c2 c3 c4
  have HSA := Lib.hid (HS1.out.alloc (.cells #[.string qi, .string qq, .string qp, .string qt] 9))
  have HEL : Hid (ElemsAt (World.alloc y1 (.cells #[.string qi, .string qq, .string qp, .string qt] 9)) (World.heap y1).size 9 [.string qi, .string qq, .string qp, .string qt]) := elems_alloc _ _ _
  go_wp2_with fail
  refine (texts_any (w.heap.size + 1) w.heap.size _ [qi, qq, qp, qt] 4 rfl _ _ _ HSA.out HEL.out (all4 m2 m3 m4 m5) hb (by omega) (by have := HLEN.out; simp only [List.length_append]; omega)).mono ?_
  rintro e y2 ⟨rfl, hst, hk⟩
  have HS2 := Lib.hid hst
  have HB2 := Lib.hid (hk.blk (blk_alloc (HB1.out) _) rfl)
  have HK2 := Lib.hid ((HK1.out.alloc _).trans hk)
  clear hst hk c1 c2 c3 c4 HSA HEL HS1 HK1 HB1
  have c5 := blk_cell HB2.out 5
  have c6 := blk_cell HB2.out 6
  simp at c5 c6
  have HSA := Lib.hid (HS2.out.alloc (.cells #[.int .i64 qa, .int .i64 qj] 2))
  have HEL : Hid (ElemsAt (World.alloc y2 (.cells #[.int .i64 qa, .int .i64 qj] 2)) (World.heap y2).size 2 [.int .i64 qa, .int .i64 qj]) := elems_alloc _ _ _
  go_wp2_with fail
  refine (numbers_any (w.heap.size + 1) w.heap.size _ [qa, qj] 2 rfl _ _ _ HSA.out HEL.out (all2 a6 a7) hb (by omega) (by have := HLEN.out; simp only [List.length_append]; omega)).mono ?_
  rintro e y3 ⟨rfl, hst, hk⟩
  have HS3 := Lib.hid hst
  have HB3 := Lib.hid (hk.blk (blk_alloc (HB2.out) _) rfl)
  have HK3 := Lib.hid ((HK2.out.alloc _).trans hk)
  clear hst hk c5 c6 HSA HEL HS2 HK2 HB2
  have c7 := blk_cell HB3.out 7
  have c8 := blk_cell HB3.out 8
  have c9 := blk_cell HB3.out 9
  simp at c7 c8 c9
  have HSA := Lib.hid (HS3.out.alloc (.cells #[.int .i64 qs, .int .i64 qw, .int .i64 qm] 3))
  have HEL : Hid (ElemsAt (World.alloc y3 (.cells #[.int .i64 qs, .int .i64 qw, .int .i64 qm] 3)) (World.heap y3).size 3 [.int .i64 qs, .int .i64 qw, .int .i64 qm]) := elems_alloc _ _ _
  go_wp2_with fail
  refine (ints_any (w.heap.size + 1) w.heap.size _ [qs, qw, qm] 3 rfl _ _ _ HSA.out HEL.out (all3 a8 a9 a10) hb (by omega) (by have := HLEN.out; simp only [List.length_append]; omega)).mono ?_
  rintro e y4 ⟨rfl, hst, hk⟩
  have HS4 := Lib.hid hst
  have HB4 := Lib.hid (hk.blk (blk_alloc (HB3.out) _) rfl)
  have HK4 := Lib.hid ((HK3.out.alloc _).trans hk)
  clear hst hk c7 c8 c9 HSA HEL HS3 HK3 HB3
  have HF := Lib.hid (HS4.out.cast (xs' := cOp.enc (qdo, qi, qq, qp, qt, qa, qj, qs, qw, qm)) (bad' := !cOp.okt (qdo, qi, qq, qp, qt, qa, qj, qs, qw, qm)) (by rw [HE.out]; simp only [List.append_assoc, List.nil_append]) (by rw [HT.out]; exact Bool.false_or _))
  cases hok : cOp.okt (qdo, qi, qq, qp, qt, qa, qj, qs, qw, qm) with
  | true =>
    rw [hok] at HF
    go_wp2_with fail
    refine (done_any _ _ _ _ _ HF.out).mono ?_
    rintro e yz ⟨rfl, hd⟩
    rw [if_neg (by simp)] at hd
    obtain ⟨vz, rfl, hown⟩ := hd
    have HOWN := Lib.hid hown
    clear hown
    go_wp2
    go_ret2
    exact ⟨HK4.out.below (Nat.le_refl _), by rw [if_pos hok]; exact ⟨_, rfl, HOWN.out⟩⟩
  | false =>
    rw [hok] at HF
    go_wp2_with fail
    refine (done_any _ _ _ _ _ HF.out).mono ?_
    rintro e yz ⟨rfl, hd⟩
    rw [if_pos (by simp)] at hd
    subst hd
    go_wp2
    go_ret2
    exact ⟨HK4.out.below (Nat.le_refl _), by rw [if_neg (by rw [hok]; simp)]; rfl⟩
set_option maxRecDepth 20000 in
set_option maxHeartbeats 1000000 in
theorem wShop_any (x : DShop) (ho : cShop.okr x) (hm : cShop.sm x) (hlen : (cShop.enc x).length ≤ 100000000000) (w : World) (us : List Value) (hu : mShop.rep w.heap.size w us x) :
    Calls Tryz.prog 8 #[.agg us.toArray] w (EncPost cShop x w) := by
  obtain ⟨qnow, qrs, ⟨qd_qq, qd_qqs, qd_qat, qd_qhad, qd_qls⟩, qjs, qla, qws, qdr⟩ := x
  obtain ⟨vqrs, vqd_qqs, vqd_qls, vqjs, vqws, rfl, hrqrs, hrqd_qqs, hrqd_qls, hrqjs, hrqws, hrqd⟩ := mShop_form hu
  have HRqrs := Lib.hid hrqrs
  have HRqjs := Lib.hid hrqjs
  have HRqws := Lib.hid hrqws
  have HRqd := Lib.hid hrqd
  clear hu hrqrs hrqd_qqs hrqd_qls hrqjs hrqws hrqd
  obtain ⟨a1, a2, a3, a4, a5, a6, _⟩ := ho
  obtain ⟨_, m2, m3, m4, _, m6, _⟩ := hm
  have HE : Hid (cShop.enc (qnow, qrs, (qd_qq, qd_qqs, qd_qat, qd_qhad, qd_qls), qjs, qla, qws, qdr) = ([qnow].flatMap iv) ++ ((cL cRec).enc qrs) ++ (cDesk.enc (qd_qq, qd_qqs, qd_qat, qd_qhad, qd_qls)) ++ ((cL cJob).enc qjs) ++ ([qla].flatMap iv) ++ ((cL cWorker).enc qws) ++ (flagsB [qdr])) := by show _ = _; simp [cShop, cSeq, cI, cF, flagsB]
  have HT : Hid (cShop.okt (qnow, qrs, (qd_qq, qd_qqs, qd_qat, qd_qhad, qd_qls), qjs, qla, qws, qdr) = (((cL cRec).okt qrs) && (cDesk.okt (qd_qq, qd_qqs, qd_qat, qd_qhad, qd_qls)) && ((cL cJob).okt qjs) && ((cL cWorker).okt qws))) := by show _ = _; simp [cShop, cSeq, cI, cF, Bool.and_assoc]
  have HLEN : Hid (([] : List UInt8).length + (([qnow].flatMap iv).length + ((cL cRec).enc qrs).length + (cDesk.enc (qd_qq, qd_qqs, qd_qat, qd_qhad, qd_qls)).length + ((cL cJob).enc qjs).length + ([qla].flatMap iv).length + ((cL cWorker).enc qws).length + (flagsB [qdr]).length) + 10 ≤ 140737488355328) := by
    rw [HE.out] at hlen
    simp only [List.length_append] at hlen
    show _ ≤ _
    simp only [List.length_nil]
    omega
  have hB : w.heap.size ≤ w.heap.size := Nat.le_refl _
  clear hlen
  have HB0 := Lib.hid (blk_alloc (two_alloc w (.cells #[.int .i64 qnow, vqrs, .int .i64 qd_qq, vqd_qqs, .int .i64 qd_qat, .bool qd_qhad, vqd_qls, vqjs, .int .i64 qla, vqws, .bool qdr] 35) (.cells #[.slice none 0 0, .bool false] 70)).1 (.cells #[.pointer (some ⟨w.heap.size + 1, 0, none⟩)] 68))
  have HS0 : Hid (WSt (w.heap.size + 1) w.heap.size (((w.alloc (.cells #[.int .i64 qnow, vqrs, .int .i64 qd_qq, vqd_qqs, .int .i64 qd_qat, .bool qd_qhad, vqd_qls, vqjs, .int .i64 qla, vqws, .bool qdr] 35)).alloc (.cells #[.slice none 0 0, .bool false] 70)).alloc (.cells #[.pointer (some ⟨w.heap.size + 1, 0, none⟩)] 68)) [] false) := WSt.alloc ⟨_, (two_alloc w (.cells #[.int .i64 qnow, vqrs, .int .i64 qd_qq, vqd_qqs, .int .i64 qd_qat, .bool qd_qhad, vqd_qls, vqjs, .int .i64 qla, vqws, .bool qdr] 35) (.cells #[.slice none 0 0, .bool false] 70)).2, Bytes.nil _ _⟩ _
  have hw0 := (two_alloc (w.alloc (.cells #[.int .i64 qnow, vqrs, .int .i64 qd_qq, vqd_qqs, .int .i64 qd_qat, .bool qd_qhad, vqd_qls, vqjs, .int .i64 qla, vqws, .bool qdr] 35)) (.cells #[.slice none 0 0, .bool false] 70) (.cells #[.pointer (some ⟨w.heap.size + 1, 0, none⟩)] 68)).2
  rw [show (w.alloc (.cells #[.int .i64 qnow, vqrs, .int .i64 qd_qq, vqd_qqs, .int .i64 qd_qat, .bool qd_qhad, vqd_qls, vqjs, .int .i64 qla, vqws, .bool qdr] 35)).heap.size + 1 = w.heap.size + 1 + 1 by simp] at hw0
  have HW0 := Lib.hid hw0
  have HK0 : Hid (Keep isWr w.heap.size w (((w.alloc (.cells #[.int .i64 qnow, vqrs, .int .i64 qd_qq, vqd_qqs, .int .i64 qd_qat, .bool qd_qhad, vqd_qls, vqjs, .int .i64 qla, vqws, .bool qdr] 35)).alloc (.cells #[.slice none 0 0, .bool false] 70)).alloc (.cells #[.pointer (some ⟨w.heap.size + 1, 0, none⟩)] 68))) := (((Keep.refl _ _ _).alloc _).alloc _).alloc _
  have hb : w.heap.size ≤ w.heap.size + 1 := Nat.le_succ _
  clear hw0
  go_enter Tryz.func8, Tryz.ntmps8
  have w0 := blk_cell HW0.out 0
  have c0 := blk_cell HB0.out 0
  simp at w0 c0
  have HSA := Lib.hid (HS0.out.alloc (.cells #[.int .i64 qnow] 2))
  have HEL : Hid (ElemsAt (World.alloc (((w.alloc (.cells #[.int .i64 qnow, vqrs, .int .i64 qd_qq, vqd_qqs, .int .i64 qd_qat, .bool qd_qhad, vqd_qls, vqjs, .int .i64 qla, vqws, .bool qdr] 35)).alloc (.cells #[.slice none 0 0, .bool false] 70)).alloc (.cells #[.pointer (some ⟨w.heap.size + 1, 0, none⟩)] 68)) (.cells #[.int .i64 qnow] 2)) (World.heap (((w.alloc (.cells #[.int .i64 qnow, vqrs, .int .i64 qd_qq, vqd_qqs, .int .i64 qd_qat, .bool qd_qhad, vqd_qls, vqjs, .int .i64 qla, vqws, .bool qdr] 35)).alloc (.cells #[.slice none 0 0, .bool false] 70)).alloc (.cells #[.pointer (some ⟨w.heap.size + 1, 0, none⟩)] 68))).size 2 [.int .i64 qnow]) := elems_alloc _ _ _
  rw [show (World.heap (((w.alloc (.cells #[.int .i64 qnow, vqrs, .int .i64 qd_qq, vqd_qqs, .int .i64 qd_qat, .bool qd_qhad, vqd_qls, vqjs, .int .i64 qla, vqws, .bool qdr] 35)).alloc (.cells #[.slice none 0 0, .bool false] 70)).alloc (.cells #[.pointer (some ⟨w.heap.size + 1, 0, none⟩)] 68))).size = w.heap.size + 1 + 1 + 1 by simp] at HEL
  go_wp2_with fail
  refine (numbers_any (w.heap.size + 1) w.heap.size _ [qnow] 1 rfl _ _ _ HSA.out HEL.out (all1 a1) hb (by omega) (by have := HLEN.out; omega)).mono ?_
  rintro e y1 ⟨rfl, hst, hk⟩
  have HS1 := Lib.hid hst
  have HW1 := Lib.hid (hk.blk (blk_alloc (HW0.out) _) rfl)
  have HB1 := Lib.hid (hk.blk (blk_alloc (HB0.out) _) rfl)
  have HK1 := Lib.hid ((HK0.out.alloc _).trans hk)
  clear hst hk w0 c0 HSA HEL HS0 HK0 HW0 HB0
  have w0 := blk_cell HW1.out 0
  have c1 := blk_cell HB1.out 1
  simp at w0 c1
  go_wp2_with fail
  refine (lRec_any (w.heap.size + 1) w.heap.size vqrs qrs (HRqrs.out.keep mRec_law (HK1.out.below hB)) a2 m2 _ _ HS1.out hb (by have := HLEN.out; simp only [List.length_append]; omega)).mono ?_
  rintro e y2 ⟨rfl, hst, hk⟩
  have HS2 := Lib.hid hst
  have HW2 := Lib.hid (hk.blk (HW1.out) rfl)
  have HB2 := Lib.hid (hk.blk (HB1.out) rfl)
  have HK2 := Lib.hid ((HK1.out).trans hk)
  clear hst hk w0 c1 HS1 HK1 HW1 HB1
  have w0 := blk_cell HW2.out 0
  have c2 := blk_cell HB2.out 2
  have c3 := blk_cell HB2.out 3
  have c4 := blk_cell HB2.out 4
  have c5 := blk_cell HB2.out 5
  have c6 := blk_cell HB2.out 6
  simp at w0 c2 c3 c4 c5 c6
  go_wp2_with fail
  refine (wDesk_any (w.heap.size + 1) w.heap.size (qd_qq, qd_qqs, qd_qat, qd_qhad, qd_qls) a3 m3 _ _ _ (us := [.int .i64 qd_qq, vqd_qqs, .int .i64 qd_qat, .bool qd_qhad, vqd_qls]) (mDesk_law.keep HRqd.out (HK2.out.below hB)) HS2.out hb (by have := HLEN.out; simp only [List.length_append]; omega)).mono ?_
  rintro e y3 ⟨rfl, hst, hk⟩
  have HS3 := Lib.hid hst
  have HW3 := Lib.hid (hk.blk (HW2.out) rfl)
  have HB3 := Lib.hid (hk.blk (HB2.out) rfl)
  have HK3 := Lib.hid ((HK2.out).trans hk)
  clear hst hk w0 c2 c3 c4 c5 c6 HS2 HK2 HW2 HB2
  have w0 := blk_cell HW3.out 0
  have c7 := blk_cell HB3.out 7
  simp at w0 c7
  go_wp2_with fail
  refine (lJob_any (w.heap.size + 1) w.heap.size (w.heap.size + 1 + 1) vqjs qjs (HRqjs.out.keep mJob_law (HK3.out.below hB)) a4 m4 _ _ HS3.out HW3.out hb (by have := HLEN.out; simp only [List.length_append]; omega)).mono ?_
  rintro e y4 ⟨rfl, hst, hk⟩
  have HS4 := Lib.hid hst
  have HW4 := Lib.hid (hk.blk (HW3.out) rfl)
  have HB4 := Lib.hid (hk.blk (HB3.out) rfl)
  have HK4 := Lib.hid ((HK3.out).trans hk)
  clear hst hk w0 c7 HS3 HK3 HW3 HB3
  have w0 := blk_cell HW4.out 0
  have c8 := blk_cell HB4.out 8
  simp at w0 c8
  have HSA := Lib.hid (HS4.out.alloc (.cells #[.int .i64 qla] 3))
  have HEL : Hid (ElemsAt (World.alloc y4 (.cells #[.int .i64 qla] 3)) (World.heap y4).size 3 [.int .i64 qla]) := elems_alloc _ _ _
  go_wp2_with fail
  refine (ints_any (w.heap.size + 1) w.heap.size _ [qla] 1 rfl _ _ _ HSA.out HEL.out (all1 a5) hb (by omega) (by have := HLEN.out; simp only [List.length_append]; omega)).mono ?_
  rintro e y5 ⟨rfl, hst, hk⟩
  have HS5 := Lib.hid hst
  have HW5 := Lib.hid (hk.blk (blk_alloc (HW4.out) _) rfl)
  have HB5 := Lib.hid (hk.blk (blk_alloc (HB4.out) _) rfl)
  have HK5 := Lib.hid ((HK4.out.alloc _).trans hk)
  clear hst hk w0 c8 HSA HEL HS4 HK4 HW4 HB4
  have w0 := blk_cell HW5.out 0
  have c9 := blk_cell HB5.out 9
  simp at w0 c9
  go_wp2_with fail
  refine (lWorker_any (w.heap.size + 1) w.heap.size (w.heap.size + 1 + 1) vqws qws (HRqws.out.keep mWorker_law (HK5.out.below hB)) a6 m6 _ _ HS5.out HW5.out hb (by have := HLEN.out; simp only [List.length_append]; omega)).mono ?_
  rintro e y6 ⟨rfl, hst, hk⟩
  have HS6 := Lib.hid hst
  have HW6 := Lib.hid (hk.blk (HW5.out) rfl)
  have HB6 := Lib.hid (hk.blk (HB5.out) rfl)
  have HK6 := Lib.hid ((HK5.out).trans hk)
  clear hst hk w0 c9 HS5 HK5 HW5 HB5
  have w0 := blk_cell HW6.out 0
  have c10 := blk_cell HB6.out 10
  simp at w0 c10
  have HSA := Lib.hid (HS6.out.alloc (.cells #[.bool qdr] 4))
  have HEL : Hid (ElemsAt (World.alloc y6 (.cells #[.bool qdr] 4)) (World.heap y6).size 4 [.bool qdr]) := elems_alloc _ _ _
  go_wp2_with fail
  refine (flags_any (w.heap.size + 1) w.heap.size _ [qdr] 1 rfl _ _ _ HSA.out HEL.out hb (by omega) (by have := HLEN.out; simp only [List.length_append]; omega)).mono ?_
  rintro e y7 ⟨rfl, hst, hk⟩
  have HS7 := Lib.hid hst
  have HW7 := Lib.hid (hk.blk (blk_alloc (HW6.out) _) rfl)
  have HB7 := Lib.hid (hk.blk (blk_alloc (HB6.out) _) rfl)
  have HK7 := Lib.hid ((HK6.out.alloc _).trans hk)
  clear hst hk w0 c10 HSA HEL HS6 HK6 HW6 HB6
  have HF := Lib.hid (HS7.out.cast (xs' := cShop.enc (qnow, qrs, (qd_qq, qd_qqs, qd_qat, qd_qhad, qd_qls), qjs, qla, qws, qdr)) (bad' := !cShop.okt (qnow, qrs, (qd_qq, qd_qqs, qd_qat, qd_qhad, qd_qls), qjs, qla, qws, qdr)) (by rw [HE.out]; simp only [List.append_assoc, List.nil_append]) (by rw [HT.out]; exact (bad4 false _ _ _ _).trans (Bool.false_or _)))
  have w0 := blk_cell HW7.out 0
  simp at w0
  cases hok : cShop.okt (qnow, qrs, (qd_qq, qd_qqs, qd_qat, qd_qhad, qd_qls), qjs, qla, qws, qdr) with
  | true =>
    rw [hok] at HF
    go_wp2_with fail
    refine (done_any _ _ _ _ _ HF.out).mono ?_
    rintro e yz ⟨rfl, hd⟩
    rw [if_neg (by simp)] at hd
    obtain ⟨vz, rfl, hown⟩ := hd
    have HOWN := Lib.hid hown
    clear hown
    go_wp2
    go_ret2
    exact ⟨HK7.out.below (Nat.le_refl _), by rw [if_pos hok]; exact ⟨_, rfl, HOWN.out⟩⟩
  | false =>
    rw [hok] at HF
    go_wp2_with fail
    refine (done_any _ _ _ _ _ HF.out).mono ?_
    rintro e yz ⟨rfl, hd⟩
    rw [if_pos (by simp)] at hd
    subst hd
    go_wp2
    go_ret2
    exact ⟨HK7.out.below (Nat.le_refl _), by rw [if_neg (by rw [hok]; simp)]; rfl⟩
end Go.Proofs.YtckooioikcenmaaGreat

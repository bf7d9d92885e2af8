/- What writes workflows, and desks. Conditions: sizes a machine can have. -/
import Derived.Test.YtckooioikcenmaaGreatCkW5
import Derived.Deep.MidRow
namespace Go.Proofs.YtckooioikcenmaaGreat
open Go.RowKit
set_option maxRecDepth 20000 in
set_option maxHeartbeats 1000000 in
theorem wRec_any (p base : Nat) (x : DRec) (ho : cRec.okr x) (hm : cRec.sm x) (xs : List UInt8) (bad : Bool) (w : World) (us : List Value) (hu : mRec.rep base w us x) (hs : WSt p base w xs bad) (hb : base ≤ p) (hlen : xs.length + (cRec.enc x).length + 10 ≤ 140737488355328) :
    Calls Tryz.prog 24 #[.pointer (some ⟨p, 0, none⟩), .agg us.toArray] w (WPost p base w (xs ++ cRec.enc x) (bad || !cRec.okt x)) := by
  obtain ⟨qi, qq, qpa, qn, ⟨qh_qp, qh_qa, qh_qcs, qh_qts, qh_qks, qh_qss, qh_qst, qh_qcl, qh_qo, qh_qov, qh_qln, qh_qla⟩, qas, qsl⟩ := x
  obtain ⟨vqh_qcs, vqh_qts, vqh_qks, vqh_qss, vqas, vqsl, rfl, hrqh_qcs, hrqh_qts, hrqh_qks, hrqh_qss, hrqas, hrqsl, hrqh⟩ := mRec_form hu
  have HRqas := Lib.hid hrqas
  have HRqsl := Lib.hid hrqsl
  have HRqh := Lib.hid hrqh
  clear hu hrqh_qcs hrqh_qts hrqh_qks hrqh_qss hrqas hrqsl hrqh
  obtain ⟨_, _, _, a4, a5, a6, a7⟩ := ho
  obtain ⟨m1, m2, m3, _, m5, m6, m7⟩ := hm
  have HE : Hid (cRec.enc (qi, qq, qpa, qn, (qh_qp, qh_qa, qh_qcs, qh_qts, qh_qks, qh_qss, qh_qst, qh_qcl, qh_qo, qh_qov, qh_qln, qh_qla), qas, qsl) = (blobs [qi, qq, qpa]) ++ ([qn].flatMap iv) ++ (cHist.enc (qh_qp, qh_qa, qh_qcs, qh_qts, qh_qks, qh_qss, qh_qst, qh_qcl, qh_qo, qh_qov, qh_qln, qh_qla)) ++ ((cL cAct).enc qas) ++ ((cL cSleep).enc qsl)) := by show _ = _; simp [cRec, cSeq, cI, cS, blobs]
  have HT : Hid (cRec.okt (qi, qq, qpa, qn, (qh_qp, qh_qa, qh_qcs, qh_qts, qh_qks, qh_qss, qh_qst, qh_qcl, qh_qo, qh_qov, qh_qln, qh_qla), qas, qsl) = ((shortB [qi, qq, qpa]) && (cHist.okt (qh_qp, qh_qa, qh_qcs, qh_qts, qh_qks, qh_qss, qh_qst, qh_qcl, qh_qo, qh_qov, qh_qln, qh_qla)) && ((cL cAct).okt qas) && ((cL cSleep).okt qsl))) := by show _ = _; simp [cRec, cSeq, cI, cS, shortB, Bool.and_assoc]
  have HLEN : Hid (xs.length + ((blobs [qi, qq, qpa]).length + ([qn].flatMap iv).length + (cHist.enc (qh_qp, qh_qa, qh_qcs, qh_qts, qh_qks, qh_qss, qh_qst, qh_qcl, qh_qo, qh_qov, qh_qln, qh_qla)).length + ((cL cAct).enc qas).length + ((cL cSleep).enc qsl).length) + 10 ≤ 140737488355328) := by
    rw [HE.out] at hlen
    simp only [List.length_append] at hlen
    show _ ≤ _
    omega
  have hB : base ≤ w.heap.size := by have := hs.lt; omega
  have HW0 := Lib.hid (two_alloc w (.cells #[.pointer (some ⟨p, 0, none⟩)] 68) (.cells #[.string qi, .string qq, .string qh_qp, .int .i64 qh_qa, vqh_qcs, vqh_qts, vqh_qks, vqh_qss, .bool qh_qst, .bool qh_qcl, .int .i64 qh_qo, .int .i64 qh_qov, .int .i64 qh_qln, .int .i64 qh_qla, vqas, vqsl, .string qpa, .int .i64 qn] 65)).1
  have HB0 := Lib.hid (two_alloc w (.cells #[.pointer (some ⟨p, 0, none⟩)] 68) (.cells #[.string qi, .string qq, .string qh_qp, .int .i64 qh_qa, vqh_qcs, vqh_qts, vqh_qks, vqh_qss, .bool qh_qst, .bool qh_qcl, .int .i64 qh_qo, .int .i64 qh_qov, .int .i64 qh_qln, .int .i64 qh_qla, vqas, vqsl, .string qpa, .int .i64 qn] 65)).2
  have HS0 := Lib.hid ((hs.alloc (.cells #[.pointer (some ⟨p, 0, none⟩)] 68)).alloc (.cells #[.string qi, .string qq, .string qh_qp, .int .i64 qh_qa, vqh_qcs, vqh_qts, vqh_qks, vqh_qss, .bool qh_qst, .bool qh_qcl, .int .i64 qh_qo, .int .i64 qh_qov, .int .i64 qh_qln, .int .i64 qh_qla, vqas, vqsl, .string qpa, .int .i64 qn] 65))
  have HK0 : Hid (Keep isWr base w ((w.alloc (.cells #[.pointer (some ⟨p, 0, none⟩)] 68)).alloc (.cells #[.string qi, .string qq, .string qh_qp, .int .i64 qh_qa, vqh_qcs, vqh_qts, vqh_qks, vqh_qss, .bool qh_qst, .bool qh_qcl, .int .i64 qh_qo, .int .i64 qh_qov, .int .i64 qh_qln, .int .i64 qh_qla, vqas, vqsl, .string qpa, .int .i64 qn] 65))) := ((Keep.refl _ _ _).alloc _).alloc _
  clear hs hlen
  go_enter Tryz.func24, Tryz.ntmps24
  have w0 := blk_cell HW0.out 0
  have c0 := blk_cell HB0.out 0
  have c1 := blk_cell HB0.out 1
  have c16 := blk_cell HB0.out 16
  simp at w0 c0 c1 c16
  have HSA := Lib.hid (HS0.out.alloc (.cells #[.string qi, .string qq, .string qpa] 9))
  have HEL : Hid (ElemsAt (World.alloc ((w.alloc (.cells #[.pointer (some ⟨p, 0, none⟩)] 68)).alloc (.cells #[.string qi, .string qq, .string qh_qp, .int .i64 qh_qa, vqh_qcs, vqh_qts, vqh_qks, vqh_qss, .bool qh_qst, .bool qh_qcl, .int .i64 qh_qo, .int .i64 qh_qov, .int .i64 qh_qln, .int .i64 qh_qla, vqas, vqsl, .string qpa, .int .i64 qn] 65)) (.cells #[.string qi, .string qq, .string qpa] 9)) (World.heap ((w.alloc (.cells #[.pointer (some ⟨p, 0, none⟩)] 68)).alloc (.cells #[.string qi, .string qq, .string qh_qp, .int .i64 qh_qa, vqh_qcs, vqh_qts, vqh_qks, vqh_qss, .bool qh_qst, .bool qh_qcl, .int .i64 qh_qo, .int .i64 qh_qov, .int .i64 qh_qln, .int .i64 qh_qla, vqas, vqsl, .string qpa, .int .i64 qn] 65))).size 9 [.string qi, .string qq, .string qpa]) := elems_alloc _ _ _
  rw [show (World.heap ((w.alloc (.cells #[.pointer (some ⟨p, 0, none⟩)] 68)).alloc (.cells #[.string qi, .string qq, .string qh_qp, .int .i64 qh_qa, vqh_qcs, vqh_qts, vqh_qks, vqh_qss, .bool qh_qst, .bool qh_qcl, .int .i64 qh_qo, .int .i64 qh_qov, .int .i64 qh_qln, .int .i64 qh_qla, vqas, vqsl, .string qpa, .int .i64 qn] 65))).size = w.heap.size + 1 + 1 by simp] at HEL
  go_wp2_with fail
  refine (texts_any p base _ [qi, qq, qpa] 3 rfl _ _ _ HSA.out HEL.out (all3 m1 m2 m3) hb (by omega) (by have := HLEN.out; omega)).mono ?_
  rintro e y1 ⟨rfl, hst, hk⟩
  have HS1 := Lib.hid hst
  have HW1 := Lib.hid (hk.blk (blk_alloc (HW0.out) _) rfl)
  have HB1 := Lib.hid (hk.blk (blk_alloc (HB0.out) _) rfl)
  have HK1 := Lib.hid ((HK0.out.alloc _).trans hk)
  clear hst hk w0 c0 c1 c16 HSA HEL HS0 HK0 HW0 HB0
  have w0 := blk_cell HW1.out 0
  have c17 := blk_cell HB1.out 17
  simp at w0 c17
  have HSA := Lib.hid (HS1.out.alloc (.cells #[.int .i64 qn] 3))
  have HEL : Hid (ElemsAt (World.alloc y1 (.cells #[.int .i64 qn] 3)) (World.heap y1).size 3 [.int .i64 qn]) := elems_alloc _ _ _
  go_wp2_with fail
  refine (ints_any p base _ [qn] 1 rfl _ _ _ HSA.out HEL.out (all1 a4) hb (by omega) (by have := HLEN.out; simp only [List.length_append]; omega)).mono ?_
  rintro e y2 ⟨rfl, hst, hk⟩
  have HS2 := Lib.hid hst
  have HW2 := Lib.hid (hk.blk (blk_alloc (HW1.out) _) rfl)
  have HB2 := Lib.hid (hk.blk (blk_alloc (HB1.out) _) rfl)
  have HK2 := Lib.hid ((HK1.out.alloc _).trans hk)
  clear hst hk w0 c17 HSA HEL HS1 HK1 HW1 HB1
  have w0 := blk_cell HW2.out 0
  have c2 := blk_cell HB2.out 2
  have c3 := blk_cell HB2.out 3
  have c4 := blk_cell HB2.out 4
  have c5 := blk_cell HB2.out 5
  have c6 := blk_cell HB2.out 6
  have c7 := blk_cell HB2.out 7
  have c8 := blk_cell HB2.out 8
  have c9 := blk_cell HB2.out 9
  have c10 := blk_cell HB2.out 10
  have c11 := blk_cell HB2.out 11
  have c12 := blk_cell HB2.out 12
  have c13 := blk_cell HB2.out 13
  simp at w0 c2 c3 c4 c5 c6 c7 c8 c9 c10 c11 c12 c13
  go_wp2_with fail
  refine (wHist_any p base (qh_qp, qh_qa, qh_qcs, qh_qts, qh_qks, qh_qss, qh_qst, qh_qcl, qh_qo, qh_qov, qh_qln, qh_qla) a5 m5 _ _ _ (us := [.string qh_qp, .int .i64 qh_qa, vqh_qcs, vqh_qts, vqh_qks, vqh_qss, .bool qh_qst, .bool qh_qcl, .int .i64 qh_qo, .int .i64 qh_qov, .int .i64 qh_qln, .int .i64 qh_qla]) (mHist_law.keep HRqh.out (HK2.out.below hB)) HS2.out hb (by have := HLEN.out; simp only [List.length_append]; omega)).mono ?_
  rintro e y3 ⟨rfl, hst, hk⟩
  have HS3 := Lib.hid hst
  have HW3 := Lib.hid (hk.blk (HW2.out) rfl)
  have HB3 := Lib.hid (hk.blk (HB2.out) rfl)
  have HK3 := Lib.hid ((HK2.out).trans hk)
  clear hst hk w0 c2 c3 c4 c5 c6 c7 c8 c9 c10 c11 c12 c13 HS2 HK2 HW2 HB2
  have w0 := blk_cell HW3.out 0
  have c14 := blk_cell HB3.out 14
  simp at w0 c14
  go_wp2_with fail
  refine (lAct_any p base (w.heap.size) vqas qas (HRqas.out.keep mAct_law (HK3.out.below hB)) a6 m6 _ _ HS3.out HW3.out hb (by have := HLEN.out; simp only [List.length_append]; omega)).mono ?_
  rintro e y4 ⟨rfl, hst, hk⟩
  have HS4 := Lib.hid hst
  have HW4 := Lib.hid (hk.blk (HW3.out) rfl)
  have HB4 := Lib.hid (hk.blk (HB3.out) rfl)
  have HK4 := Lib.hid ((HK3.out).trans hk)
  clear hst hk w0 c14 HS3 HK3 HW3 HB3
  have w0 := blk_cell HW4.out 0
  have c15 := blk_cell HB4.out 15
  simp at w0 c15
  go_wp2_with fail
  refine (lSleep_any p base (w.heap.size) vqsl qsl (HRqsl.out.keep mSleep_law (HK4.out.below hB)) a7 m7 _ _ HS4.out HW4.out hb (by have := HLEN.out; simp only [List.length_append]; omega)).mono ?_
  rintro e y5 ⟨rfl, hst, hk⟩
  have HS5 := Lib.hid hst
  have HW5 := Lib.hid (hk.blk (HW4.out) rfl)
  have HB5 := Lib.hid (hk.blk (HB4.out) rfl)
  have HK5 := Lib.hid ((HK4.out).trans hk)
  clear hst hk w0 c15 HS4 HK4 HW4 HB4
  have HF := Lib.hid (HS5.out.cast (xs' := xs ++ cRec.enc (qi, qq, qpa, qn, (qh_qp, qh_qa, qh_qcs, qh_qts, qh_qks, qh_qss, qh_qst, qh_qcl, qh_qo, qh_qov, qh_qln, qh_qla), qas, qsl)) (bad' := bad || !cRec.okt (qi, qq, qpa, qn, (qh_qp, qh_qa, qh_qcs, qh_qts, qh_qks, qh_qss, qh_qst, qh_qcl, qh_qo, qh_qov, qh_qln, qh_qla), qas, qsl)) (by rw [HE.out]; simp only [List.append_assoc]) (by rw [HT.out]; exact bad4 _ _ _ _ _))
  go_wp2
  exact bodyPost_ret (v := .tuple #[]) (by simp [results]) rfl ⟨rfl, HF.out, HK5.out⟩
set_option maxRecDepth 20000 in
set_option maxHeartbeats 1000000 in
theorem lRec_any (p base : Nat) (v : Value) (l : List DRec) {w0 : World} (hv : LRep mRec base w0 v l) (ho : (cL cRec).okr l) (hm : (cL cRec).sm l) (xs : List UInt8) (bad : Bool) (hs : WSt p base w0 xs bad) (hb : base ≤ p) (hlen : xs.length + ((cL cRec).enc l).length + 10 ≤ 140737488355328) :
    Calls Tryz.prog 23 #[.pointer (some ⟨p, 0, none⟩), v, .func (.func 24) #[.pointer (some ⟨p, 0, none⟩)] #[]] w0 (WPost p base w0 (xs ++ (cL cRec).enc l) (bad || !(cL cRec).okt l)) := by
  obtain ⟨ho1, ho2⟩ := ho
  obtain ⟨hm1, hm2⟩ := hm
  have hB : base ≤ w0.heap.size := by have := hs.lt; omega
  obtain ⟨A, cp, rfl⟩ := hv.form
  obtain ⟨ln, hln⟩ : ∃ ln, l.length = ln := ⟨_, rfl⟩
  have HL := Lib.hid hln
  have HV := Lib.hid hv
  have HO := Lib.hid ho2
  have HM := Lib.hid hm2
  have HE : Hid ((cL cRec).enc l = uv ln ++ l.flatMap (cRec).enc) := by show _ = _; rw [← hln]; rfl
  have HLEN : Hid (xs.length + ((uv ln).length + (l.flatMap (cRec).enc).length) + 10 ≤ 140737488355328) := by
    rw [HE.out] at hlen
    simp only [List.length_append] at hlen
    show _ ≤ _
    omega
  rw [hln] at ho1 hm1 ⊢
  have hln3 : ln ≤ 20000 := hm1
  obtain ⟨v1, hc1, hw1⟩ := hs
  have o0 : w0.cell? ⟨p, 0, none⟩ = some v1 := by rw [blk_cell hc1]; rfl
  have HC := Lib.hid (uint_any v1 xs ln w0 base (by omega) hw1 hB (by have := HLEN.out; omega))
  have HC1 := Lib.hid hc1
  have HO1 := Lib.hid hw1
  clear hv hln ho1 ho2 hm1 hm2 hlen hc1 hw1
  go_enter Tryz.func23, Tryz.ntmps23
  go_wp2_with fail
  refine HC.out.mono ?_
  rintro e w2 ⟨v2, rfl, hown, hext⟩
  obtain ⟨A2, n2, c2, e2⟩ := hown.form
  subst e2
  obtain ⟨q1, q2, q3⟩ := WSt.store HC1.out HO1.out hown hext hb
  have e3 := blk_cell q1 0
  have e4 := blk_free q1 0
  simp at e3
  have HQ2 := Lib.hid q2
  have HQ3 := Lib.hid q3
  clear q1 q2 q3 hown hext o0 HC HC1 HO1
  go_wp2
  clear e3 e4
  go_loopw [7, 21] (fun _ i wr => ∃ (k : Nat), i = .int .i64 k ∧ k ≤ ln ∧ Hid (WSt p base wr (xs ++ uv ln ++ (l.take k).flatMap (cRec).enc) (bad || !(cL cRec).okt (l.take k))) ∧ Hid (Keep isWr base w0 wr)) (fun _ i _ => ln - (intOf i).toNat)
  case atStart => exact ⟨0, rfl, by omega, by show WSt _ _ _ _ _; simpa [cL] using HQ2.out, HQ3⟩
  case round =>
    obtain ⟨k, rfl, hk, HST, HK⟩ := hrel
    by_cases hk4 : k < ln
    · obtain ⟨x, hxk⟩ : ∃ n, l[k]? = some n := ⟨l[k]'(by rw [HL.out]; exact hk4), List.getElem?_eq_getElem _⟩
      have HTK := Lib.hid (show (l.take (k + 1)).flatMap (cRec).enc = (l.take k).flatMap (cRec).enc ++ (cRec).enc x by rw [List.take_add_one, hxk]; simp)
      have HTB := Lib.hid (show (bad || !(cL cRec).okt (l.take (k + 1))) = ((bad || !(cL cRec).okt (l.take k)) || !(cRec).okt x) by
        rw [List.take_add_one, hxk]
        show (bad || !(List.all (l.take k ++ [x]) (cRec).okt)) = ((bad || !(List.all (l.take k) (cRec).okt)) || !(cRec).okt x)
        rw [List.all_append]
        simp [Bool.not_and, Bool.or_assoc])
      have hmem := List.mem_of_getElem? hxk
      have hox := Lib.hid (HO.out x hmem)
      have hmx := Lib.hid (HM.out x hmem)
      have hsz : Hid ((xs ++ uv ln ++ (l.take k).flatMap (cRec).enc).length + ((cRec).enc x).length + 10 ≤ 140737488355328) := by
        show _ ≤ _
        have h8 := HLEN.out
        have h9 : (l.flatMap (cRec).enc).length = ((l.take (k + 1)).flatMap (cRec).enc).length + ((l.drop (k + 1)).flatMap (cRec).enc).length := by
          rw [← List.length_append, ← List.flatMap_append, List.take_append_drop]
        rw [HTK.out] at h9
        simp only [List.length_append] at h9 ⊢
        omega
      obtain ⟨b, o, us, rfl, hbb, hus, hrep⟩ := (HV.out.keep mRec_law (HK.out.below hB)).at hxk
      clear hmem hxk
      obtain ⟨ua, rfl⟩ : ∃ ua : Array Value, us = ua.toList := ⟨us.toArray, by simp⟩
      have HRG : Hid (wr.rangeAt b (o + k * 18) ua.toList) := fun j v hv => hus j v hv
      have hul : ua.toList.length = 18 := mRec_law.len hrep
      have hus9 : ua.size = 18 := by simpa using hul
      have hi1 : Hid ((Tryz.prog.info? 65).map (·.size) = some ua.toList.length) := by show _ = _; rw [hul]; kernel_rfl
      have hi2 : Hid ((Tryz.prog.info? 65).map (·.size) = some ua.size) := by show _ = _; rw [hus9]; kernel_rfl
      have hone : Hid (ua.all (·.oneCell') = true) := Array.all_eq_true_iff_forall_mem.2 (fun v hv => mRec_law.rcell hrep v (by simpa using hv))
      have HTH : Hid ((wr.alloc (.cells #[.string ⟨#[]⟩, .string ⟨#[]⟩, .string ⟨#[]⟩, .int .i64 0, .slice none 0 0, .slice none 0 0, .slice none 0 0, .slice none 0 0, .bool false, .bool false, .int .i64 0, .int .i64 0, .int .i64 0, .int .i64 0, .slice none 0 0, .slice none 0 0, .string ⟨#[]⟩, .int .i64 0] 65)).there wr.heap.size 0 ua.size) := there_new _ _ _ _ (by rw [hus9]; rfl)
      have HRG2 : Hid (((wr.alloc (.cells #[.string ⟨#[]⟩, .string ⟨#[]⟩, .string ⟨#[]⟩, .int .i64 0, .slice none 0 0, .slice none 0 0, .slice none 0 0, .slice none 0 0, .bool false, .bool false, .int .i64 0, .int .i64 0, .int .i64 0, .int .i64 0, .slice none 0 0, .slice none 0 0, .string ⟨#[]⟩, .int .i64 0] 65)).setCells wr.heap.size 0 ua.toList).rangeAt wr.heap.size 0 ua.toList) := World.rangeAt_setCells_same _ _ _ _ (by have := HTH.out; simpa using this)
      have hbl : Below wr.heap.size wr ((wr.alloc (.cells #[.string ⟨#[]⟩, .string ⟨#[]⟩, .string ⟨#[]⟩, .int .i64 0, .slice none 0 0, .slice none 0 0, .slice none 0 0, .slice none 0 0, .bool false, .bool false, .int .i64 0, .int .i64 0, .int .i64 0, .int .i64 0, .slice none 0 0, .slice none 0 0, .string ⟨#[]⟩, .int .i64 0] 65)).setCells wr.heap.size 0 ua.toList) := below_cells (Nat.le_refl _) _ _ _ ((Below.refl _ _).alloc (Nat.le_refl _) _)
      have HBL := Lib.hid hbl
      have HSA := Lib.hid (HST.out.below hbl)
      have HRA := Lib.hid (mRec_law.keep hrep (hbl.mono (by have := HK.out.size; omega)))
      clear hus hrep hul hus9 hbl
      go_wp2_with (first
        | (with_reducible refine wpList_load_mid rfl 65 (.tmp 23) rfl b (o + k * 18) rfl ua.toList _ HRG.out Tryz.underlying65 rfl hi1.out ?_)
        | (with_reducible refine wpList_store_mid rfl 65 (.tmp 7) (.tmp 24) rfl wr.heap.size 0 ua rfl rfl HTH.out hi2.out hone.out ?_)
        | (with_reducible refine wpList_load_mid rfl 65 (.tmp 7) rfl wr.heap.size 0 rfl ua.toList _ HRG2.out Tryz.underlying65 rfl hi1.out ?_))
      refine (wRec_any p base x hox.out hmx.out _ _ _ (us := ua.toList) HRA.out HSA.out hb hsz.out).mono ?_
      rintro e w3 ⟨rfl, hst, hk2⟩
      have HS2 := Lib.hid hst
      have HK2 := Lib.hid ((HK.out.trans (Keep.of_below HBL.out)).trans hk2)
      clear hst hk2
      go_wp2
      go_roundw
      case rel => exact ⟨k + 1, by go_num, by omega, by show WSt _ _ _ _ _; rw [HTK.out, HTB.out, ← List.append_assoc]; exact HS2.out, HK2.out⟩
      case measure => simp [intOf]; omega
    · obtain rfl : k = ln := by omega
      have HF : Hid (WSt p base wr (xs ++ (cL cRec).enc l) (bad || !(cL cRec).okt l)) := by
        have := HST.out
        rw [List.take_of_length_le (by rw [HL.out]; exact Nat.le_refl _), List.append_assoc, ← HE.out] at this
        exact this
      go_wp2
      exact bodyPost_ret (v := .tuple #[]) (by simp [results]) rfl ⟨rfl, HF.out, HK.out⟩
set_option maxRecDepth 20000 in
set_option maxHeartbeats 1000000 in
theorem wDesk_any (p base : Nat) (x : DDesk) (ho : cDesk.okr x) (hm : cDesk.sm x) (xs : List UInt8) (bad : Bool) (w : World) (us : List Value) (hu : mDesk.rep base w us x) (hs : WSt p base w xs bad) (hb : base ≤ p) (hlen : xs.length + (cDesk.enc x).length + 10 ≤ 140737488355328) :
    Calls Tryz.prog 25 #[.pointer (some ⟨p, 0, none⟩), .agg us.toArray] w (WPost p base w (xs ++ cDesk.enc x) (bad || !cDesk.okt x)) := by
  obtain ⟨qq, qqs, qat, qhad, qls⟩ := x
  obtain ⟨vqqs, vqls, rfl, hrqqs, hrqls⟩ := mDesk_form hu
  have HRqqs := Lib.hid hrqqs
  have HRqls := Lib.hid hrqls
  clear hu hrqqs hrqls
  obtain ⟨a1, a2, a3, _, a5⟩ := ho
  obtain ⟨_, m2, _, _, m5⟩ := hm
  have HE : Hid (cDesk.enc (qq, qqs, qat, qhad, qls) = ([qq].flatMap iv) ++ ((cL cTurn).enc qqs) ++ ([qat].flatMap iv) ++ (flagsB [qhad]) ++ ((cL cLine).enc qls)) := by show _ = _; simp [cDesk, cSeq, cI, cF, flagsB]
  have HT : Hid (cDesk.okt (qq, qqs, qat, qhad, qls) = (((cL cTurn).okt qqs) && ((cL cLine).okt qls))) := by show _ = _; simp [cDesk, cSeq, cI, cF]
  have HLEN : Hid (xs.length + (([qq].flatMap iv).length + ((cL cTurn).enc qqs).length + ([qat].flatMap iv).length + (flagsB [qhad]).length + ((cL cLine).enc qls).length) + 10 ≤ 140737488355328) := by
    rw [HE.out] at hlen
    simp only [List.length_append] at hlen
    show _ ≤ _
    omega
  have hB : base ≤ w.heap.size := by have := hs.lt; omega
  have HW0 := Lib.hid (two_alloc w (.cells #[.pointer (some ⟨p, 0, none⟩)] 68) (.cells #[.int .i64 qq, vqqs, .int .i64 qat, .bool qhad, vqls] 31)).1
  have HB0 := Lib.hid (two_alloc w (.cells #[.pointer (some ⟨p, 0, none⟩)] 68) (.cells #[.int .i64 qq, vqqs, .int .i64 qat, .bool qhad, vqls] 31)).2
  have HS0 := Lib.hid ((hs.alloc (.cells #[.pointer (some ⟨p, 0, none⟩)] 68)).alloc (.cells #[.int .i64 qq, vqqs, .int .i64 qat, .bool qhad, vqls] 31))
  have HK0 : Hid (Keep isWr base w ((w.alloc (.cells #[.pointer (some ⟨p, 0, none⟩)] 68)).alloc (.cells #[.int .i64 qq, vqqs, .int .i64 qat, .bool qhad, vqls] 31))) := ((Keep.refl _ _ _).alloc _).alloc _
  clear hs hlen
  go_enter Tryz.func25, Tryz.ntmps25
  have w0 := blk_cell HW0.out 0
  have c0 := blk_cell HB0.out 0
  simp at w0 c0
  have HSA := Lib.hid (HS0.out.alloc (.cells #[.int .i64 qq] 3))
  have HEL : Hid (ElemsAt (World.alloc ((w.alloc (.cells #[.pointer (some ⟨p, 0, none⟩)] 68)).alloc (.cells #[.int .i64 qq, vqqs, .int .i64 qat, .bool qhad, vqls] 31)) (.cells #[.int .i64 qq] 3)) (World.heap ((w.alloc (.cells #[.pointer (some ⟨p, 0, none⟩)] 68)).alloc (.cells #[.int .i64 qq, vqqs, .int .i64 qat, .bool qhad, vqls] 31))).size 3 [.int .i64 qq]) := elems_alloc _ _ _
  rw [show (World.heap ((w.alloc (.cells #[.pointer (some ⟨p, 0, none⟩)] 68)).alloc (.cells #[.int .i64 qq, vqqs, .int .i64 qat, .bool qhad, vqls] 31))).size = w.heap.size + 1 + 1 by simp] at HEL
  go_wp2_with fail
  refine (ints_any p base _ [qq] 1 rfl _ _ _ HSA.out HEL.out (all1 a1) hb (by omega) (by have := HLEN.out; omega)).mono ?_
  rintro e y1 ⟨rfl, hst, hk⟩
  have HS1 := Lib.hid hst
  have HW1 := Lib.hid (hk.blk (blk_alloc (HW0.out) _) rfl)
  have HB1 := Lib.hid (hk.blk (blk_alloc (HB0.out) _) rfl)
  have HK1 := Lib.hid ((HK0.out.alloc _).trans hk)
  clear hst hk w0 c0 HSA HEL HS0 HK0 HW0 HB0
  have w0 := blk_cell HW1.out 0
  have c1 := blk_cell HB1.out 1
  simp at w0 c1
  go_wp2_with fail
  refine (lTurn_any p base (w.heap.size) vqqs qqs (HRqqs.out.keep mTurn_law (HK1.out.below hB)) a2 m2 _ _ HS1.out HW1.out hb (by have := HLEN.out; simp only [List.length_append]; omega)).mono ?_
  rintro e y2 ⟨rfl, hst, hk⟩
  have HS2 := Lib.hid hst
  have HW2 := Lib.hid (hk.blk (HW1.out) rfl)
  have HB2 := Lib.hid (hk.blk (HB1.out) rfl)
  have HK2 := Lib.hid ((HK1.out).trans hk)
  clear hst hk w0 c1 HS1 HK1 HW1 HB1
  have w0 := blk_cell HW2.out 0
  have c2 := blk_cell HB2.out 2
  simp at w0 c2
  have HSA := Lib.hid (HS2.out.alloc (.cells #[.int .i64 qat] 3))
  have HEL : Hid (ElemsAt (World.alloc y2 (.cells #[.int .i64 qat] 3)) (World.heap y2).size 3 [.int .i64 qat]) := elems_alloc _ _ _
  go_wp2_with fail
  refine (ints_any p base _ [qat] 1 rfl _ _ _ HSA.out HEL.out (all1 a3) hb (by omega) (by have := HLEN.out; simp only [List.length_append]; omega)).mono ?_
  rintro e y3 ⟨rfl, hst, hk⟩
  have HS3 := Lib.hid hst
  have HW3 := Lib.hid (hk.blk (blk_alloc (HW2.out) _) rfl)
  have HB3 := Lib.hid (hk.blk (blk_alloc (HB2.out) _) rfl)
  have HK3 := Lib.hid ((HK2.out.alloc _).trans hk)
  clear hst hk w0 c2 HSA HEL HS2 HK2 HW2 HB2
  have w0 := blk_cell HW3.out 0
  have c3 := blk_cell HB3.out 3
  simp at w0 c3
  have HSA := Lib.hid (HS3.out.alloc (.cells #[.bool qhad] 4))
  have HEL : Hid (ElemsAt (World.alloc y3 (.cells #[.bool qhad] 4)) (World.heap y3).size 4 [.bool qhad]) := elems_alloc _ _ _
  go_wp2_with fail
  refine (flags_any p base _ [qhad] 1 rfl _ _ _ HSA.out HEL.out hb (by omega) (by have := HLEN.out; simp only [List.length_append]; omega)).mono ?_
  rintro e y4 ⟨rfl, hst, hk⟩
  have HS4 := Lib.hid hst
  have HW4 := Lib.hid (hk.blk (blk_alloc (HW3.out) _) rfl)
  have HB4 := Lib.hid (hk.blk (blk_alloc (HB3.out) _) rfl)
  have HK4 := Lib.hid ((HK3.out.alloc _).trans hk)
  clear hst hk w0 c3 HSA HEL HS3 HK3 HW3 HB3
  have w0 := blk_cell HW4.out 0
  have c4 := blk_cell HB4.out 4
  simp at w0 c4
  go_wp2_with fail
  refine (lLine_any p base (w.heap.size) vqls qls (HRqls.out.keep mLine_law (HK4.out.below hB)) a5 m5 _ _ HS4.out HW4.out hb (by have := HLEN.out; simp only [List.length_append]; omega)).mono ?_
  rintro e y5 ⟨rfl, hst, hk⟩
  have HS5 := Lib.hid hst
  have HW5 := Lib.hid (hk.blk (HW4.out) rfl)
  have HB5 := Lib.hid (hk.blk (HB4.out) rfl)
  have HK5 := Lib.hid ((HK4.out).trans hk)
  clear hst hk w0 c4 HS4 HK4 HW4 HB4
  have HF := Lib.hid (HS5.out.cast (xs' := xs ++ cDesk.enc (qq, qqs, qat, qhad, qls)) (bad' := bad || !cDesk.okt (qq, qqs, qat, qhad, qls)) (by rw [HE.out]; simp only [List.append_assoc]) (by rw [HT.out]; exact bad2 _ _ _))
  go_wp2
  exact bodyPost_ret (v := .tuple #[]) (by simp [results]) rfl ⟨rfl, HF.out, HK5.out⟩
end Go.Proofs.YtckooioikcenmaaGreat

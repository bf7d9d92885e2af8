/- What writes small kinds of data, and lists of them. Conditions: sizes a machine can have. -/
import Derived.Test.YtckooioikcenmaaGreatCkW3
import Derived.Deep.MidRow
namespace Go.Proofs.YtckooioikcenmaaGreat
open Go.RowKit
set_option maxRecDepth 20000 in
set_option maxHeartbeats 1000000 in
theorem wCmd_any (p base wb : Nat) (x : DCmd) (ho : cCmd.okr x) (hm : cCmd.sm x) (xs : List UInt8) (bad : Bool) (w : World) (us : List Value) (hu : mCmd.rep base w us x) (hs : WSt p base w xs bad) (hw : w.heap[wb]? = some (.cells #[.pointer (some ⟨p, 0, none⟩)] 68)) (hb : base ≤ p) (hlen : xs.length + (cCmd.enc x).length + 10 ≤ 140737488355328) :
    Calls Tryz.prog 95 #[.agg us.toArray, .pointer (some ⟨wb, 0, none⟩)] w (WPost p base w (xs ++ cCmd.enc x) (bad || !cCmd.okt x)) := by
  obtain ⟨qn, qk, qs, qa, qp⟩ := x
  obtain rfl := mCmd_form hu
  clear hu
  obtain ⟨o1, ⟨o2, o2b⟩, _, o4, o5⟩ := ho
  have hb0 : (0 : Int) ≤ qk := o2
  have hb1 : qk ≤ 255 := o2b
  obtain ⟨_, _, m3, _, _⟩ := hm
  have HE : Hid (cCmd.enc (qn, qk, qs, qa, qp) = ([qn, qk].flatMap iv) ++ (blobs [qs]) ++ ([qa].flatMap iv) ++ ([qp].flatMap iv)) := by show _ = _; simp [cCmd, cSeq, cI, cB, cS, blobs]
  have HT : Hid (cCmd.okt (qn, qk, qs, qa, qp) = ((shortB [qs]))) := by show _ = _; simp [cCmd, cSeq, cI, cB, cS, shortB]
  have HLEN : Hid (xs.length + (([qn, qk].flatMap iv).length + (blobs [qs]).length + ([qa].flatMap iv).length + ([qp].flatMap iv).length) + 10 ≤ 140737488355328) := by
    rw [HE.out] at hlen
    simp only [List.length_append] at hlen
    show _ ≤ _
    omega
  have hB : base ≤ w.heap.size := by have := hs.lt; omega
  have HW0 := Lib.hid (blk_alloc hw (.cells #[.int .i64 qn, .int .u8 qk, .string qs, .int .i64 qa, .int .i64 qp] 191))
  have HB0 := Lib.hid (alloc_at w (.cells #[.int .i64 qn, .int .u8 qk, .string qs, .int .i64 qa, .int .i64 qp] 191))
  have HS0 := Lib.hid (hs.alloc (.cells #[.int .i64 qn, .int .u8 qk, .string qs, .int .i64 qa, .int .i64 qp] 191))
  have HK0 : Hid (Keep isWr base w (w.alloc (.cells #[.int .i64 qn, .int .u8 qk, .string qs, .int .i64 qa, .int .i64 qp] 191))) := (Keep.refl _ _ _).alloc _
  clear hw hs hlen
  go_enter Tryz.func95, Tryz.ntmps95
  have w0 := blk_cell HW0.out 0
  have c0 := blk_cell HB0.out 0
  have c1 := blk_cell HB0.out 1
  simp at w0 c0 c1
  have HSA := Lib.hid (HS0.out.alloc (.cells #[.int .i64 qn, .int .i64 qk] 3))
  have HEL : Hid (ElemsAt (World.alloc (w.alloc (.cells #[.int .i64 qn, .int .u8 qk, .string qs, .int .i64 qa, .int .i64 qp] 191)) (.cells #[.int .i64 qn, .int .i64 qk] 3)) (World.heap (w.alloc (.cells #[.int .i64 qn, .int .u8 qk, .string qs, .int .i64 qa, .int .i64 qp] 191))).size 3 [.int .i64 qn, .int .i64 qk]) := elems_alloc _ _ _
  rw [show (World.heap (w.alloc (.cells #[.int .i64 qn, .int .u8 qk, .string qs, .int .i64 qa, .int .i64 qp] 191))).size = w.heap.size + 1 by simp] at HEL
  go_wp2_with fail
  refine (ints_any p base _ [qn, qk] 2 rfl _ _ _ HSA.out HEL.out (all2 o1 (small64 ⟨o2, o2b⟩)) hb (by omega) (by have := HLEN.out; omega)).mono ?_
  rintro e y1 ⟨rfl, hst, hk⟩
  have HS1 := Lib.hid hst
  have HW1 := Lib.hid (hk.blk (blk_alloc (HW0.out) _) rfl)
  have HB1 := Lib.hid (hk.blk (blk_alloc (HB0.out) _) rfl)
  have HK1 := Lib.hid ((HK0.out.alloc _).trans hk)
  clear hst hk w0 c0 c1 HSA HEL HS0 HK0 HW0 HB0
  have w0 := blk_cell HW1.out 0
  have c2 := blk_cell HB1.out 2
  simp at w0 c2
  have HSA := Lib.hid (HS1.out.alloc (.cells #[.string qs] 9))
  have HEL : Hid (ElemsAt (World.alloc y1 (.cells #[.string qs] 9)) (World.heap y1).size 9 [.string qs]) := elems_alloc _ _ _
  go_wp2_with fail
  refine (texts_any p base _ [qs] 1 rfl _ _ _ HSA.out HEL.out (all1 m3) hb (by omega) (by have := HLEN.out; simp only [List.length_append]; omega)).mono ?_
  rintro e y2 ⟨rfl, hst, hk⟩
  have HS2 := Lib.hid hst
  have HW2 := Lib.hid (hk.blk (blk_alloc (HW1.out) _) rfl)
  have HB2 := Lib.hid (hk.blk (blk_alloc (HB1.out) _) rfl)
  have HK2 := Lib.hid ((HK1.out.alloc _).trans hk)
  clear hst hk w0 c2 HSA HEL HS1 HK1 HW1 HB1
  have w0 := blk_cell HW2.out 0
  have c3 := blk_cell HB2.out 3
  simp at w0 c3
  have HSA := Lib.hid (HS2.out.alloc (.cells #[.int .i64 qa] 2))
  have HEL : Hid (ElemsAt (World.alloc y2 (.cells #[.int .i64 qa] 2)) (World.heap y2).size 2 [.int .i64 qa]) := elems_alloc _ _ _
  go_wp2_with fail
  refine (numbers_any p base _ [qa] 1 rfl _ _ _ HSA.out HEL.out (all1 o4) hb (by omega) (by have := HLEN.out; simp only [List.length_append]; omega)).mono ?_
  rintro e y3 ⟨rfl, hst, hk⟩
  have HS3 := Lib.hid hst
  have HW3 := Lib.hid (hk.blk (blk_alloc (HW2.out) _) rfl)
  have HB3 := Lib.hid (hk.blk (blk_alloc (HB2.out) _) rfl)
  have HK3 := Lib.hid ((HK2.out.alloc _).trans hk)
  clear hst hk w0 c3 HSA HEL HS2 HK2 HW2 HB2
  have w0 := blk_cell HW3.out 0
  have c4 := blk_cell HB3.out 4
  simp at w0 c4
  have HSA := Lib.hid (HS3.out.alloc (.cells #[.int .i64 qp] 3))
  have HEL : Hid (ElemsAt (World.alloc y3 (.cells #[.int .i64 qp] 3)) (World.heap y3).size 3 [.int .i64 qp]) := elems_alloc _ _ _
  go_wp2_with fail
  refine (ints_any p base _ [qp] 1 rfl _ _ _ HSA.out HEL.out (all1 o5) hb (by omega) (by have := HLEN.out; simp only [List.length_append]; omega)).mono ?_
  rintro e y4 ⟨rfl, hst, hk⟩
  have HS4 := Lib.hid hst
  have HW4 := Lib.hid (hk.blk (blk_alloc (HW3.out) _) rfl)
  have HB4 := Lib.hid (hk.blk (blk_alloc (HB3.out) _) rfl)
  have HK4 := Lib.hid ((HK3.out.alloc _).trans hk)
  clear hst hk w0 c4 HSA HEL HS3 HK3 HW3 HB3
  have HF := Lib.hid (HS4.out.cast (xs' := xs ++ cCmd.enc (qn, qk, qs, qa, qp)) (bad' := bad || !cCmd.okt (qn, qk, qs, qa, qp)) (by rw [HE.out]; simp only [List.append_assoc]) (by rw [HT.out]))
  go_wp2
  exact bodyPost_ret (v := .tuple #[]) (by simp [results]) rfl ⟨rfl, HF.out, HK4.out⟩
set_option maxRecDepth 20000 in
set_option maxHeartbeats 1000000 in
theorem lCmd_any (p base wb : Nat) (v : Value) (l : List DCmd) {w0 : World} (hv : LRep mCmd base w0 v l) (ho : (cL cCmd).okr l) (hm : (cL cCmd).sm l) (xs : List UInt8) (bad : Bool) (hs : WSt p base w0 xs bad) (hw : w0.heap[wb]? = some (.cells #[.pointer (some ⟨p, 0, none⟩)] 68)) (hb : base ≤ p) (hlen : xs.length + ((cL cCmd).enc l).length + 10 ≤ 140737488355328) :
    Calls Tryz.prog 94 #[.pointer (some ⟨p, 0, none⟩), v, .func (.func 95) #[] #[.pointer (some ⟨wb, 0, none⟩)]] w0 (WPost p base w0 (xs ++ (cL cCmd).enc l) (bad || !(cL cCmd).okt l)) := by
  obtain ⟨ho1, ho2⟩ := ho
  obtain ⟨hm1, hm2⟩ := hm
  have hB : base ≤ w0.heap.size := by have := hs.lt; omega
  obtain ⟨A, cp, rfl⟩ := hv.form
  obtain ⟨ln, hln⟩ : ∃ ln, l.length = ln := ⟨_, rfl⟩
  have HL := Lib.hid hln
  have HV := Lib.hid hv
  have HO := Lib.hid ho2
  have HM := Lib.hid hm2
  have HW := Lib.hid hw
  have HE : Hid ((cL cCmd).enc l = uv ln ++ l.flatMap (cCmd).enc) := by show _ = _; rw [← hln]; rfl
  have HLEN : Hid (xs.length + ((uv ln).length + (l.flatMap (cCmd).enc).length) + 10 ≤ 140737488355328) := by
    rw [HE.out] at hlen
    simp only [List.length_append] at hlen
    show _ ≤ _
    omega
  rw [hln] at ho1 hm1 ⊢
  have hln3 : ln ≤ 20000 := hm1
  obtain ⟨v1, hc1, hw1⟩ := hs
  have o0 : w0.cell? ⟨p, 0, none⟩ = some v1 := by rw [blk_cell hc1]; rfl
  have HC := Lib.hid (uint_any v1 xs ln w0 base (by omega) hw1 hB (by have := HLEN.out; omega))
  have HC1 := Lib.hid hc1
  have HO1 := Lib.hid hw1
  clear hv hln ho1 ho2 hm1 hm2 hlen hc1 hw1 hw
  go_enter Tryz.func94, Tryz.ntmps94
  go_wp2_with fail
  refine HC.out.mono ?_
  rintro e w2 ⟨v2, rfl, hown, hext⟩
  obtain ⟨A2, n2, c2, e2⟩ := hown.form
  subst e2
  obtain ⟨q1, q2, q3⟩ := WSt.store HC1.out HO1.out hown hext hb
  have e3 := blk_cell q1 0
  have e4 := blk_free q1 0
  simp at e3
  have HQ2 := Lib.hid q2
  have HQ3 := Lib.hid q3
  clear q1 q2 q3 hown hext o0 HC HC1 HO1
  go_wp2
  clear e3 e4
  go_loopw [7, 21] (fun _ i wr => ∃ (k : Nat), i = .int .i64 k ∧ k ≤ ln ∧ Hid (WSt p base wr (xs ++ uv ln ++ (l.take k).flatMap (cCmd).enc) (bad || !(cL cCmd).okt (l.take k))) ∧ Hid (Keep isWr base w0 wr)) (fun _ i _ => ln - (intOf i).toNat)
  case atStart => exact ⟨0, rfl, by omega, by show WSt _ _ _ _ _; simpa [cL] using HQ2.out, HQ3⟩
  case round =>
    obtain ⟨k, rfl, hk, HST, HK⟩ := hrel
    by_cases hk4 : k < ln
    · obtain ⟨x, hxk⟩ : ∃ n, l[k]? = some n := ⟨l[k]'(by rw [HL.out]; exact hk4), List.getElem?_eq_getElem _⟩
      have HTK := Lib.hid (show (l.take (k + 1)).flatMap (cCmd).enc = (l.take k).flatMap (cCmd).enc ++ (cCmd).enc x by rw [List.take_add_one, hxk]; simp)
      have HTB := Lib.hid (show (bad || !(cL cCmd).okt (l.take (k + 1))) = ((bad || !(cL cCmd).okt (l.take k)) || !(cCmd).okt x) by
        rw [List.take_add_one, hxk]
        show (bad || !(List.all (l.take k ++ [x]) (cCmd).okt)) = ((bad || !(List.all (l.take k) (cCmd).okt)) || !(cCmd).okt x)
        rw [List.all_append]
        simp [Bool.not_and, Bool.or_assoc])
      have hmem := List.mem_of_getElem? hxk
      have hox := Lib.hid (HO.out x hmem)
      have hmx := Lib.hid (HM.out x hmem)
      have hsz : Hid ((xs ++ uv ln ++ (l.take k).flatMap (cCmd).enc).length + ((cCmd).enc x).length + 10 ≤ 140737488355328) := by
        show _ ≤ _
        have h8 := HLEN.out
        have h9 : (l.flatMap (cCmd).enc).length = ((l.take (k + 1)).flatMap (cCmd).enc).length + ((l.drop (k + 1)).flatMap (cCmd).enc).length := by
          rw [← List.length_append, ← List.flatMap_append, List.take_append_drop]
        rw [HTK.out] at h9
        simp only [List.length_append] at h9 ⊢
        omega
      obtain ⟨b, o, us, rfl, hbb, hus, hrep⟩ := (HV.out.keep mCmd_law (HK.out.below hB)).at hxk
      clear hmem hxk
      obtain ⟨qn, qk, qs, qa, qp⟩ := x
      have hrep0 := hrep
      obtain rfl := mCmd_form hrep
      have d0 := hus 0 _ rfl
      have d1 := hus 1 _ rfl
      have d2 := hus 2 _ rfl
      have d3 := hus 3 _ rfl
      have d4 := hus 4 _ rfl
      rw [show mCmd.n = 5 from rfl] at d0 d1 d2 d3 d4
      rw [Nat.add_zero] at d0
      have HSA := Lib.hid (HST.out.alloc (.cells #[.int .i64 qn, .int .u8 qk, .string qs, .int .i64 qa, .int .i64 qp] 191))
      have HRA : Hid (mCmd.rep base (wr.alloc (.cells #[.int .i64 qn, .int .u8 qk, .string qs, .int .i64 qa, .int .i64 qp] 191)) [.int .i64 qn, .int .u8 qk, .string qs, .int .i64 qa, .int .i64 qp] (qn, qk, qs, qa, qp)) := mCmd_law.keep hrep0 ((Below.refl _ _).alloc (by have := HK.out.size; omega) _)
      have HWr : Hid ((wr.alloc (.cells #[.int .i64 qn, .int .u8 qk, .string qs, .int .i64 qa, .int .i64 qp] 191)).heap[wb]? = _) := blk_alloc (HK.out.blk HW.out rfl) _
      clear hus hrep hrep0
      go_wp2_with fail
      refine (wCmd_any p base wb (qn, qk, qs, qa, qp) hox.out hmx.out _ _ _ (us := [.int .i64 qn, .int .u8 qk, .string qs, .int .i64 qa, .int .i64 qp]) HRA.out HSA.out HWr.out hb hsz.out).mono ?_
      rintro e w3 ⟨rfl, hst, hk2⟩
      have HS2 := Lib.hid hst
      have HK2 := Lib.hid ((HK.out.alloc _).trans hk2)
      clear hst hk2
      go_wp2
      go_roundw
      case rel => exact ⟨k + 1, by go_num, by omega, by show WSt _ _ _ _ _; rw [HTK.out, HTB.out, ← List.append_assoc]; exact HS2.out, HK2.out⟩
      case measure => simp [intOf]; omega
    · obtain rfl : k = ln := by omega
      have HF : Hid (WSt p base wr (xs ++ (cL cCmd).enc l) (bad || !(cL cCmd).okt l)) := by
        have := HST.out
        rw [List.take_of_length_le (by rw [HL.out]; exact Nat.le_refl _), List.append_assoc, ← HE.out] at this
        exact this
      go_wp2
      exact bodyPost_ret (v := .tuple #[]) (by simp [results]) rfl ⟨rfl, HF.out, HK.out⟩
set_option maxRecDepth 20000 in
set_option maxHeartbeats 1000000 in
theorem wKnown_any (p base wb : Nat) (x : DKnown) (ho : cKnown.okr x) (_hm : cKnown.sm x) (xs : List UInt8) (bad : Bool) (w : World) (us : List Value) (hu : mKnown.rep base w us x) (hs : WSt p base w xs bad) (hw : w.heap[wb]? = some (.cells #[.pointer (some ⟨p, 0, none⟩)] 68)) (hb : base ≤ p) (hlen : xs.length + (cKnown.enc x).length + 10 ≤ 140737488355328) :
    Calls Tryz.prog 99 #[.agg us.toArray, .pointer (some ⟨wb, 0, none⟩)] w (WPost p base w (xs ++ cKnown.enc x) (bad || !cKnown.okt x)) := by
  obtain ⟨qn, qt, qv⟩ := x
  obtain rfl := mKnown_form hu
  clear hu
  obtain ⟨o1, o2, o3⟩ := ho
  have HE : Hid (cKnown.enc (qn, qt, qv) = ([qn, qt].flatMap iv) ++ ([qv].flatMap iv)) := by show _ = _; simp [cKnown, cSeq, cI]
  have HT : Hid (cKnown.okt (qn, qt, qv) = (true)) := by show _ = _; rfl
  have HLEN : Hid (xs.length + (([qn, qt].flatMap iv).length + ([qv].flatMap iv).length) + 10 ≤ 140737488355328) := by
    rw [HE.out] at hlen
    simp only [List.length_append] at hlen
    show _ ≤ _
    omega
  have hB : base ≤ w.heap.size := by have := hs.lt; omega
  have HW0 := Lib.hid (blk_alloc hw (.cells #[.int .i64 qn, .int .i64 qt, .int .i64 qv] 202))
  have HB0 := Lib.hid (alloc_at w (.cells #[.int .i64 qn, .int .i64 qt, .int .i64 qv] 202))
  have HS0 := Lib.hid (hs.alloc (.cells #[.int .i64 qn, .int .i64 qt, .int .i64 qv] 202))
  have HK0 : Hid (Keep isWr base w (w.alloc (.cells #[.int .i64 qn, .int .i64 qt, .int .i64 qv] 202))) := (Keep.refl _ _ _).alloc _
  clear hw hs hlen
  go_enter Tryz.func99, Tryz.ntmps99
  have w0 := blk_cell HW0.out 0
  have c0 := blk_cell HB0.out 0
  have c1 := blk_cell HB0.out 1
  simp at w0 c0 c1
  have HSA := Lib.hid (HS0.out.alloc (.cells #[.int .i64 qn, .int .i64 qt] 3))
  have HEL : Hid (ElemsAt (World.alloc (w.alloc (.cells #[.int .i64 qn, .int .i64 qt, .int .i64 qv] 202)) (.cells #[.int .i64 qn, .int .i64 qt] 3)) (World.heap (w.alloc (.cells #[.int .i64 qn, .int .i64 qt, .int .i64 qv] 202))).size 3 [.int .i64 qn, .int .i64 qt]) := elems_alloc _ _ _
  rw [show (World.heap (w.alloc (.cells #[.int .i64 qn, .int .i64 qt, .int .i64 qv] 202))).size = w.heap.size + 1 by simp] at HEL
  go_wp2_with fail
  refine (ints_any p base _ [qn, qt] 2 rfl _ _ _ HSA.out HEL.out (all2 o1 o2) hb (by omega) (by have := HLEN.out; omega)).mono ?_
  rintro e y1 ⟨rfl, hst, hk⟩
  have HS1 := Lib.hid hst
  have HW1 := Lib.hid (hk.blk (blk_alloc (HW0.out) _) rfl)
  have HB1 := Lib.hid (hk.blk (blk_alloc (HB0.out) _) rfl)
  have HK1 := Lib.hid ((HK0.out.alloc _).trans hk)
  clear hst hk w0 c0 c1 HSA HEL HS0 HK0 HW0 HB0
  have w0 := blk_cell HW1.out 0
  have c2 := blk_cell HB1.out 2
  simp at w0 c2
  have HSA := Lib.hid (HS1.out.alloc (.cells #[.int .i64 qv] 2))
  have HEL : Hid (ElemsAt (World.alloc y1 (.cells #[.int .i64 qv] 2)) (World.heap y1).size 2 [.int .i64 qv]) := elems_alloc _ _ _
  go_wp2_with fail
  refine (numbers_any p base _ [qv] 1 rfl _ _ _ HSA.out HEL.out (all1 o3) hb (by omega) (by have := HLEN.out; simp only [List.length_append]; omega)).mono ?_
  rintro e y2 ⟨rfl, hst, hk⟩
  have HS2 := Lib.hid hst
  have HW2 := Lib.hid (hk.blk (blk_alloc (HW1.out) _) rfl)
  have HB2 := Lib.hid (hk.blk (blk_alloc (HB1.out) _) rfl)
  have HK2 := Lib.hid ((HK1.out.alloc _).trans hk)
  clear hst hk w0 c2 HSA HEL HS1 HK1 HW1 HB1
  have HF := Lib.hid (HS2.out.cast (xs' := xs ++ cKnown.enc (qn, qt, qv)) (bad' := bad || !cKnown.okt (qn, qt, qv)) (by rw [HE.out]; simp only [List.append_assoc]) (by rw [HT.out]; exact bad0 _))
  go_wp2
  exact bodyPost_ret (v := .tuple #[]) (by simp [results]) rfl ⟨rfl, HF.out, HK2.out⟩
set_option maxRecDepth 20000 in
set_option maxHeartbeats 1000000 in
theorem lKnown_any (p base wb : Nat) (v : Value) (l : List DKnown) {w0 : World} (hv : LRep mKnown base w0 v l) (ho : (cL cKnown).okr l) (hm : (cL cKnown).sm l) (xs : List UInt8) (bad : Bool) (hs : WSt p base w0 xs bad) (hw : w0.heap[wb]? = some (.cells #[.pointer (some ⟨p, 0, none⟩)] 68)) (hb : base ≤ p) (hlen : xs.length + ((cL cKnown).enc l).length + 10 ≤ 140737488355328) :
    Calls Tryz.prog 98 #[.pointer (some ⟨p, 0, none⟩), v, .func (.func 99) #[] #[.pointer (some ⟨wb, 0, none⟩)]] w0 (WPost p base w0 (xs ++ (cL cKnown).enc l) (bad || !(cL cKnown).okt l)) := by
  obtain ⟨ho1, ho2⟩ := ho
  obtain ⟨hm1, hm2⟩ := hm
  have hB : base ≤ w0.heap.size := by have := hs.lt; omega
  obtain ⟨A, cp, rfl⟩ := hv.form
  obtain ⟨ln, hln⟩ : ∃ ln, l.length = ln := ⟨_, rfl⟩
  have HL := Lib.hid hln
  have HV := Lib.hid hv
  have HO := Lib.hid ho2
  have HM := Lib.hid hm2
  have HW := Lib.hid hw
  have HE : Hid ((cL cKnown).enc l = uv ln ++ l.flatMap (cKnown).enc) := by show _ = _; rw [← hln]; rfl
  have HLEN : Hid (xs.length + ((uv ln).length + (l.flatMap (cKnown).enc).length) + 10 ≤ 140737488355328) := by
    rw [HE.out] at hlen
    simp only [List.length_append] at hlen
    show _ ≤ _
    omega
  rw [hln] at ho1 hm1 ⊢
  have hln3 : ln ≤ 20000 := hm1
  obtain ⟨v1, hc1, hw1⟩ := hs
  have o0 : w0.cell? ⟨p, 0, none⟩ = some v1 := by rw [blk_cell hc1]; rfl
  have HC := Lib.hid (uint_any v1 xs ln w0 base (by omega) hw1 hB (by have := HLEN.out; omega))
  have HC1 := Lib.hid hc1
  have HO1 := Lib.hid hw1
  clear hv hln ho1 ho2 hm1 hm2 hlen hc1 hw1 hw
  go_enter Tryz.func98, Tryz.ntmps98
  go_wp2_with fail
  refine HC.out.mono ?_
  rintro e w2 ⟨v2, rfl, hown, hext⟩
  obtain ⟨A2, n2, c2, e2⟩ := hown.form
  subst e2
  obtain ⟨q1, q2, q3⟩ := WSt.store HC1.out HO1.out hown hext hb
  have e3 := blk_cell q1 0
  have e4 := blk_free q1 0
  simp at e3
  have HQ2 := Lib.hid q2
  have HQ3 := Lib.hid q3
  clear q1 q2 q3 hown hext o0 HC HC1 HO1
  go_wp2
  clear e3 e4
  go_loopw [7, 21] (fun _ i wr => ∃ (k : Nat), i = .int .i64 k ∧ k ≤ ln ∧ Hid (WSt p base wr (xs ++ uv ln ++ (l.take k).flatMap (cKnown).enc) (bad || !(cL cKnown).okt (l.take k))) ∧ Hid (Keep isWr base w0 wr)) (fun _ i _ => ln - (intOf i).toNat)
  case atStart => exact ⟨0, rfl, by omega, by show WSt _ _ _ _ _; simpa [cL] using HQ2.out, HQ3⟩
  case round =>
    obtain ⟨k, rfl, hk, HST, HK⟩ := hrel
    by_cases hk4 : k < ln
    · obtain ⟨x, hxk⟩ : ∃ n, l[k]? = some n := ⟨l[k]'(by rw [HL.out]; exact hk4), List.getElem?_eq_getElem _⟩
      have HTK := Lib.hid (show (l.take (k + 1)).flatMap (cKnown).enc = (l.take k).flatMap (cKnown).enc ++ (cKnown).enc x by rw [List.take_add_one, hxk]; simp)
      have HTB := Lib.hid (show (bad || !(cL cKnown).okt (l.take (k + 1))) = ((bad || !(cL cKnown).okt (l.take k)) || !(cKnown).okt x) by
        rw [List.take_add_one, hxk]
        show (bad || !(List.all (l.take k ++ [x]) (cKnown).okt)) = ((bad || !(List.all (l.take k) (cKnown).okt)) || !(cKnown).okt x)
        rw [List.all_append]
        simp [Bool.not_and, Bool.or_assoc])
      have hmem := List.mem_of_getElem? hxk
      have hox := Lib.hid (HO.out x hmem)
      have hmx := Lib.hid (HM.out x hmem)
      have hsz : Hid ((xs ++ uv ln ++ (l.take k).flatMap (cKnown).enc).length + ((cKnown).enc x).length + 10 ≤ 140737488355328) := by
        show _ ≤ _
        have h8 := HLEN.out
        have h9 : (l.flatMap (cKnown).enc).length = ((l.take (k + 1)).flatMap (cKnown).enc).length + ((l.drop (k + 1)).flatMap (cKnown).enc).length := by
          rw [← List.length_append, ← List.flatMap_append, List.take_append_drop]
        rw [HTK.out] at h9
        simp only [List.length_append] at h9 ⊢
        omega
      obtain ⟨b, o, us, rfl, hbb, hus, hrep⟩ := (HV.out.keep mKnown_law (HK.out.below hB)).at hxk
      clear hmem hxk
      obtain ⟨qn, qt, qv⟩ := x
      have hrep0 := hrep
      obtain rfl := mKnown_form hrep
      have d0 := hus 0 _ rfl
      have d1 := hus 1 _ rfl
      have d2 := hus 2 _ rfl
      rw [show mKnown.n = 3 from rfl] at d0 d1 d2
      rw [Nat.add_zero] at d0
      have HSA := Lib.hid (HST.out.alloc (.cells #[.int .i64 qn, .int .i64 qt, .int .i64 qv] 202))
      have HRA : Hid (mKnown.rep base (wr.alloc (.cells #[.int .i64 qn, .int .i64 qt, .int .i64 qv] 202)) [.int .i64 qn, .int .i64 qt, .int .i64 qv] (qn, qt, qv)) := mKnown_law.keep hrep0 ((Below.refl _ _).alloc (by have := HK.out.size; omega) _)
      have HWr : Hid ((wr.alloc (.cells #[.int .i64 qn, .int .i64 qt, .int .i64 qv] 202)).heap[wb]? = _) := blk_alloc (HK.out.blk HW.out rfl) _
      clear hus hrep hrep0
      go_wp2_with fail
      refine (wKnown_any p base wb (qn, qt, qv) hox.out hmx.out _ _ _ (us := [.int .i64 qn, .int .i64 qt, .int .i64 qv]) HRA.out HSA.out HWr.out hb hsz.out).mono ?_
      rintro e w3 ⟨rfl, hst, hk2⟩
      have HS2 := Lib.hid hst
      have HK2 := Lib.hid ((HK.out.alloc _).trans hk2)
      clear hst hk2
      go_wp2
      go_roundw
      case rel => exact ⟨k + 1, by go_num, by omega, by show WSt _ _ _ _ _; rw [HTK.out, HTB.out, ← List.append_assoc]; exact HS2.out, HK2.out⟩
      case measure => simp [intOf]; omega
    · obtain rfl : k = ln := by omega
      have HF : Hid (WSt p base wr (xs ++ (cL cKnown).enc l) (bad || !(cL cKnown).okt l)) := by
        have := HST.out
        rw [List.take_of_length_le (by rw [HL.out]; exact Nat.le_refl _), List.append_assoc, ← HE.out] at this
        exact this
      go_wp2
      exact bodyPost_ret (v := .tuple #[]) (by simp [results]) rfl ⟨rfl, HF.out, HK.out⟩
set_option maxRecDepth 20000 in
set_option maxHeartbeats 1000000 in
theorem wSleep_any (p base wb : Nat) (x : DSleep) (ho : cSleep.okr x) (_hm : cSleep.sm x) (xs : List UInt8) (bad : Bool) (w : World) (us : List Value) (hu : mSleep.rep base w us x) (hs : WSt p base w xs bad) (hw : w.heap[wb]? = some (.cells #[.pointer (some ⟨p, 0, none⟩)] 68)) (hb : base ≤ p) (hlen : xs.length + (cSleep.enc x).length + 10 ≤ 140737488355328) :
    Calls Tryz.prog 61 #[.agg us.toArray, .pointer (some ⟨wb, 0, none⟩)] w (WPost p base w (xs ++ cSleep.enc x) (bad || !cSleep.okt x)) := by
  obtain ⟨qn, qd⟩ := x
  obtain rfl := mSleep_form hu
  clear hu
  obtain ⟨o1, o2⟩ := ho
  have HE : Hid (cSleep.enc (qn, qd) = ([qn].flatMap iv) ++ ([qd].flatMap iv)) := by show _ = _; simp [cSleep, cSeq, cI]
  have HT : Hid (cSleep.okt (qn, qd) = (true)) := by show _ = _; rfl
  have HLEN : Hid (xs.length + (([qn].flatMap iv).length + ([qd].flatMap iv).length) + 10 ≤ 140737488355328) := by
    rw [HE.out] at hlen
    simp only [List.length_append] at hlen
    show _ ≤ _
    omega
  have hB : base ≤ w.heap.size := by have := hs.lt; omega
  have HW0 := Lib.hid (blk_alloc hw (.cells #[.int .i64 qn, .int .i64 qd] 143))
  have HB0 := Lib.hid (alloc_at w (.cells #[.int .i64 qn, .int .i64 qd] 143))
  have HS0 := Lib.hid (hs.alloc (.cells #[.int .i64 qn, .int .i64 qd] 143))
  have HK0 : Hid (Keep isWr base w (w.alloc (.cells #[.int .i64 qn, .int .i64 qd] 143))) := (Keep.refl _ _ _).alloc _
  clear hw hs hlen
  go_enter Tryz.func61, Tryz.ntmps61
  have w0 := blk_cell HW0.out 0
  have c0 := blk_cell HB0.out 0
  simp at w0 c0
  have HSA := Lib.hid (HS0.out.alloc (.cells #[.int .i64 qn] 3))
  have HEL : Hid (ElemsAt (World.alloc (w.alloc (.cells #[.int .i64 qn, .int .i64 qd] 143)) (.cells #[.int .i64 qn] 3)) (World.heap (w.alloc (.cells #[.int .i64 qn, .int .i64 qd] 143))).size 3 [.int .i64 qn]) := elems_alloc _ _ _
  rw [show (World.heap (w.alloc (.cells #[.int .i64 qn, .int .i64 qd] 143))).size = w.heap.size + 1 by simp] at HEL
  go_wp2_with fail
  refine (ints_any p base _ [qn] 1 rfl _ _ _ HSA.out HEL.out (all1 o1) hb (by omega) (by have := HLEN.out; omega)).mono ?_
  rintro e y1 ⟨rfl, hst, hk⟩
  have HS1 := Lib.hid hst
  have HW1 := Lib.hid (hk.blk (blk_alloc (HW0.out) _) rfl)
  have HB1 := Lib.hid (hk.blk (blk_alloc (HB0.out) _) rfl)
  have HK1 := Lib.hid ((HK0.out.alloc _).trans hk)
  clear hst hk w0 c0 HSA HEL HS0 HK0 HW0 HB0
  have w0 := blk_cell HW1.out 0
  have c1 := blk_cell HB1.out 1
  simp at w0 c1
  have HSA := Lib.hid (HS1.out.alloc (.cells #[.int .i64 qd] 2))
  have HEL : Hid (ElemsAt (World.alloc y1 (.cells #[.int .i64 qd] 2)) (World.heap y1).size 2 [.int .i64 qd]) := elems_alloc _ _ _
  go_wp2_with fail
  refine (numbers_any p base _ [qd] 1 rfl _ _ _ HSA.out HEL.out (all1 o2) hb (by omega) (by have := HLEN.out; simp only [List.length_append]; omega)).mono ?_
  rintro e y2 ⟨rfl, hst, hk⟩
  have HS2 := Lib.hid hst
  have HW2 := Lib.hid (hk.blk (blk_alloc (HW1.out) _) rfl)
  have HB2 := Lib.hid (hk.blk (blk_alloc (HB1.out) _) rfl)
  have HK2 := Lib.hid ((HK1.out.alloc _).trans hk)
  clear hst hk w0 c1 HSA HEL HS1 HK1 HW1 HB1
  have HF := Lib.hid (HS2.out.cast (xs' := xs ++ cSleep.enc (qn, qd)) (bad' := bad || !cSleep.okt (qn, qd)) (by rw [HE.out]; simp only [List.append_assoc]) (by rw [HT.out]; exact bad0 _))
  go_wp2
  exact bodyPost_ret (v := .tuple #[]) (by simp [results]) rfl ⟨rfl, HF.out, HK2.out⟩
set_option maxRecDepth 20000 in
set_option maxHeartbeats 1000000 in
theorem lSleep_any (p base wb : Nat) (v : Value) (l : List DSleep) {w0 : World} (hv : LRep mSleep base w0 v l) (ho : (cL cSleep).okr l) (hm : (cL cSleep).sm l) (xs : List UInt8) (bad : Bool) (hs : WSt p base w0 xs bad) (hw : w0.heap[wb]? = some (.cells #[.pointer (some ⟨p, 0, none⟩)] 68)) (hb : base ≤ p) (hlen : xs.length + ((cL cSleep).enc l).length + 10 ≤ 140737488355328) :
    Calls Tryz.prog 60 #[.pointer (some ⟨p, 0, none⟩), v, .func (.func 61) #[] #[.pointer (some ⟨wb, 0, none⟩)]] w0 (WPost p base w0 (xs ++ (cL cSleep).enc l) (bad || !(cL cSleep).okt l)) := by
  obtain ⟨ho1, ho2⟩ := ho
  obtain ⟨hm1, hm2⟩ := hm
  have hB : base ≤ w0.heap.size := by have := hs.lt; omega
  obtain ⟨A, cp, rfl⟩ := hv.form
  obtain ⟨ln, hln⟩ : ∃ ln, l.length = ln := ⟨_, rfl⟩
  have HL := Lib.hid hln
  have HV := Lib.hid hv
  have HO := Lib.hid ho2
  have HM := Lib.hid hm2
  have HW := Lib.hid hw
  have HE : Hid ((cL cSleep).enc l = uv ln ++ l.flatMap (cSleep).enc) := by show _ = _; rw [← hln]; rfl
  have HLEN : Hid (xs.length + ((uv ln).length + (l.flatMap (cSleep).enc).length) + 10 ≤ 140737488355328) := by
    rw [HE.out] at hlen
    simp only [List.length_append] at hlen
    show _ ≤ _
    omega
  rw [hln] at ho1 hm1 ⊢
  have hln3 : ln ≤ 20000 := hm1
  obtain ⟨v1, hc1, hw1⟩ := hs
  have o0 : w0.cell? ⟨p, 0, none⟩ = some v1 := by rw [blk_cell hc1]; rfl
  have HC := Lib.hid (uint_any v1 xs ln w0 base (by omega) hw1 hB (by have := HLEN.out; omega))
  have HC1 := Lib.hid hc1
  have HO1 := Lib.hid hw1
  clear hv hln ho1 ho2 hm1 hm2 hlen hc1 hw1 hw
  go_enter Tryz.func60, Tryz.ntmps60
  go_wp2_with fail
  refine HC.out.mono ?_
  rintro e w2 ⟨v2, rfl, hown, hext⟩
  obtain ⟨A2, n2, c2, e2⟩ := hown.form
  subst e2
  obtain ⟨q1, q2, q3⟩ := WSt.store HC1.out HO1.out hown hext hb
  have e3 := blk_cell q1 0
  have e4 := blk_free q1 0
  simp at e3
  have HQ2 := Lib.hid q2
  have HQ3 := Lib.hid q3
  clear q1 q2 q3 hown hext o0 HC HC1 HO1
  go_wp2
  clear e3 e4
  go_loopw [7, 21] (fun _ i wr => ∃ (k : Nat), i = .int .i64 k ∧ k ≤ ln ∧ Hid (WSt p base wr (xs ++ uv ln ++ (l.take k).flatMap (cSleep).enc) (bad || !(cL cSleep).okt (l.take k))) ∧ Hid (Keep isWr base w0 wr)) (fun _ i _ => ln - (intOf i).toNat)
  case atStart => exact ⟨0, rfl, by omega, by show WSt _ _ _ _ _; simpa [cL] using HQ2.out, HQ3⟩
  case round =>
    obtain ⟨k, rfl, hk, HST, HK⟩ := hrel
    by_cases hk4 : k < ln
    · obtain ⟨x, hxk⟩ : ∃ n, l[k]? = some n := ⟨l[k]'(by rw [HL.out]; exact hk4), List.getElem?_eq_getElem _⟩
      have HTK := Lib.hid (show (l.take (k + 1)).flatMap (cSleep).enc = (l.take k).flatMap (cSleep).enc ++ (cSleep).enc x by rw [List.take_add_one, hxk]; simp)
      have HTB := Lib.hid (show (bad || !(cL cSleep).okt (l.take (k + 1))) = ((bad || !(cL cSleep).okt (l.take k)) || !(cSleep).okt x) by
        rw [List.take_add_one, hxk]
        show (bad || !(List.all (l.take k ++ [x]) (cSleep).okt)) = ((bad || !(List.all (l.take k) (cSleep).okt)) || !(cSleep).okt x)
        rw [List.all_append]
        simp [Bool.not_and, Bool.or_assoc])
      have hmem := List.mem_of_getElem? hxk
      have hox := Lib.hid (HO.out x hmem)
      have hmx := Lib.hid (HM.out x hmem)
      have hsz : Hid ((xs ++ uv ln ++ (l.take k).flatMap (cSleep).enc).length + ((cSleep).enc x).length + 10 ≤ 140737488355328) := by
        show _ ≤ _
        have h8 := HLEN.out
        have h9 : (l.flatMap (cSleep).enc).length = ((l.take (k + 1)).flatMap (cSleep).enc).length + ((l.drop (k + 1)).flatMap (cSleep).enc).length := by
          rw [← List.length_append, ← List.flatMap_append, List.take_append_drop]
        rw [HTK.out] at h9
        simp only [List.length_append] at h9 ⊢
        omega
      obtain ⟨b, o, us, rfl, hbb, hus, hrep⟩ := (HV.out.keep mSleep_law (HK.out.below hB)).at hxk
      clear hmem hxk
      obtain ⟨qn, qd⟩ := x
      have hrep0 := hrep
      obtain rfl := mSleep_form hrep
      have d0 := hus 0 _ rfl
      have d1 := hus 1 _ rfl
      rw [show mSleep.n = 2 from rfl] at d0 d1
      rw [Nat.add_zero] at d0
      have HSA := Lib.hid (HST.out.alloc (.cells #[.int .i64 qn, .int .i64 qd] 143))
      have HRA : Hid (mSleep.rep base (wr.alloc (.cells #[.int .i64 qn, .int .i64 qd] 143)) [.int .i64 qn, .int .i64 qd] (qn, qd)) := mSleep_law.keep hrep0 ((Below.refl _ _).alloc (by have := HK.out.size; omega) _)
      have HWr : Hid ((wr.alloc (.cells #[.int .i64 qn, .int .i64 qd] 143)).heap[wb]? = _) := blk_alloc (HK.out.blk HW.out rfl) _
      clear hus hrep hrep0
      go_wp2_with fail
      refine (wSleep_any p base wb (qn, qd) hox.out hmx.out _ _ _ (us := [.int .i64 qn, .int .i64 qd]) HRA.out HSA.out HWr.out hb hsz.out).mono ?_
      rintro e w3 ⟨rfl, hst, hk2⟩
      have HS2 := Lib.hid hst
      have HK2 := Lib.hid ((HK.out.alloc _).trans hk2)
      clear hst hk2
      go_wp2
      go_roundw
      case rel => exact ⟨k + 1, by go_num, by omega, by show WSt _ _ _ _ _; rw [HTK.out, HTB.out, ← List.append_assoc]; exact HS2.out, HK2.out⟩
      case measure => simp [intOf]; omega
    · obtain rfl : k = ln := by omega
      have HF : Hid (WSt p base wr (xs ++ (cL cSleep).enc l) (bad || !(cL cSleep).okt l)) := by
        have := HST.out
        rw [List.take_of_length_le (by rw [HL.out]; exact Nat.le_refl _), List.append_assoc, ← HE.out] at this
        exact this
      go_wp2
      exact bodyPost_ret (v := .tuple #[]) (by simp [results]) rfl ⟨rfl, HF.out, HK.out⟩
set_option maxRecDepth 20000 in
set_option maxHeartbeats 1000000 in
theorem wTurn_any (p base wb : Nat) (x : DTurn) (ho : cTurn.okr x) (hm : cTurn.sm x) (xs : List UInt8) (bad : Bool) (w : World) (us : List Value) (hu : mTurn.rep base w us x) (hs : WSt p base w xs bad) (hw : w.heap[wb]? = some (.cells #[.pointer (some ⟨p, 0, none⟩)] 68)) (hb : base ≤ p) (hlen : xs.length + (cTurn.enc x).length + 10 ≤ 140737488355328) :
    Calls Tryz.prog 63 #[.agg us.toArray, .pointer (some ⟨wb, 0, none⟩)] w (WPost p base w (xs ++ cTurn.enc x) (bad || !cTurn.okt x)) := by
  obtain ⟨qs, qn, ql⟩ := x
  obtain rfl := mTurn_form hu
  clear hu
  obtain ⟨_, o2, o3⟩ := ho
  obtain ⟨m1, _, _⟩ := hm
  have HE : Hid (cTurn.enc (qs, qn, ql) = (blobs [qs]) ++ ([qn].flatMap iv) ++ ([ql].flatMap iv)) := by show _ = _; simp [cTurn, cSeq, cI, cS, blobs]
  have HT : Hid (cTurn.okt (qs, qn, ql) = ((shortB [qs]))) := by show _ = _; simp [cTurn, cSeq, cI, cS, shortB]
  have HLEN : Hid (xs.length + ((blobs [qs]).length + ([qn].flatMap iv).length + ([ql].flatMap iv).length) + 10 ≤ 140737488355328) := by
    rw [HE.out] at hlen
    simp only [List.length_append] at hlen
    show _ ≤ _
    omega
  have hB : base ≤ w.heap.size := by have := hs.lt; omega
  have HW0 := Lib.hid (blk_alloc hw (.cells #[.string qs, .int .i64 qn, .int .i64 ql] 147))
  have HB0 := Lib.hid (alloc_at w (.cells #[.string qs, .int .i64 qn, .int .i64 ql] 147))
  have HS0 := Lib.hid (hs.alloc (.cells #[.string qs, .int .i64 qn, .int .i64 ql] 147))
  have HK0 : Hid (Keep isWr base w (w.alloc (.cells #[.string qs, .int .i64 qn, .int .i64 ql] 147))) := (Keep.refl _ _ _).alloc _
  clear hw hs hlen
  go_enter Tryz.func63, Tryz.ntmps63
  have w0 := blk_cell HW0.out 0
  have c0 := blk_cell HB0.out 0
  simp at w0 c0
  have HSA := Lib.hid (HS0.out.alloc (.cells #[.string qs] 9))
  have HEL : Hid (ElemsAt (World.alloc (w.alloc (.cells #[.string qs, .int .i64 qn, .int .i64 ql] 147)) (.cells #[.string qs] 9)) (World.heap (w.alloc (.cells #[.string qs, .int .i64 qn, .int .i64 ql] 147))).size 9 [.string qs]) := elems_alloc _ _ _
  rw [show (World.heap (w.alloc (.cells #[.string qs, .int .i64 qn, .int .i64 ql] 147))).size = w.heap.size + 1 by simp] at HEL
  go_wp2_with fail
  refine (texts_any p base _ [qs] 1 rfl _ _ _ HSA.out HEL.out (all1 m1) hb (by omega) (by have := HLEN.out; omega)).mono ?_
  rintro e y1 ⟨rfl, hst, hk⟩
  have HS1 := Lib.hid hst
  have HW1 := Lib.hid (hk.blk (blk_alloc (HW0.out) _) rfl)
  have HB1 := Lib.hid (hk.blk (blk_alloc (HB0.out) _) rfl)
  have HK1 := Lib.hid ((HK0.out.alloc _).trans hk)
  clear hst hk w0 c0 HSA HEL HS0 HK0 HW0 HB0
  have w0 := blk_cell HW1.out 0
  have c1 := blk_cell HB1.out 1
  simp at w0 c1
  have HSA := Lib.hid (HS1.out.alloc (.cells #[.int .i64 qn] 3))
  have HEL : Hid (ElemsAt (World.alloc y1 (.cells #[.int .i64 qn] 3)) (World.heap y1).size 3 [.int .i64 qn]) := elems_alloc _ _ _
  go_wp2_with fail
  refine (ints_any p base _ [qn] 1 rfl _ _ _ HSA.out HEL.out (all1 o2) hb (by omega) (by have := HLEN.out; simp only [List.length_append]; omega)).mono ?_
  rintro e y2 ⟨rfl, hst, hk⟩
  have HS2 := Lib.hid hst
  have HW2 := Lib.hid (hk.blk (blk_alloc (HW1.out) _) rfl)
  have HB2 := Lib.hid (hk.blk (blk_alloc (HB1.out) _) rfl)
  have HK2 := Lib.hid ((HK1.out.alloc _).trans hk)
  clear hst hk w0 c1 HSA HEL HS1 HK1 HW1 HB1
  have w0 := blk_cell HW2.out 0
  have c2 := blk_cell HB2.out 2
  simp at w0 c2
  have HSA := Lib.hid (HS2.out.alloc (.cells #[.int .i64 ql] 2))
  have HEL : Hid (ElemsAt (World.alloc y2 (.cells #[.int .i64 ql] 2)) (World.heap y2).size 2 [.int .i64 ql]) := elems_alloc _ _ _
  go_wp2_with fail
  refine (numbers_any p base _ [ql] 1 rfl _ _ _ HSA.out HEL.out (all1 o3) hb (by omega) (by have := HLEN.out; simp only [List.length_append]; omega)).mono ?_
  rintro e y3 ⟨rfl, hst, hk⟩
  have HS3 := Lib.hid hst
  have HW3 := Lib.hid (hk.blk (blk_alloc (HW2.out) _) rfl)
  have HB3 := Lib.hid (hk.blk (blk_alloc (HB2.out) _) rfl)
  have HK3 := Lib.hid ((HK2.out.alloc _).trans hk)
  clear hst hk w0 c2 HSA HEL HS2 HK2 HW2 HB2
  have HF := Lib.hid (HS3.out.cast (xs' := xs ++ cTurn.enc (qs, qn, ql)) (bad' := bad || !cTurn.okt (qs, qn, ql)) (by rw [HE.out]; simp only [List.append_assoc]) (by rw [HT.out]))
  go_wp2
  exact bodyPost_ret (v := .tuple #[]) (by simp [results]) rfl ⟨rfl, HF.out, HK3.out⟩
set_option maxRecDepth 20000 in
set_option maxHeartbeats 1000000 in
theorem lTurn_any (p base wb : Nat) (v : Value) (l : List DTurn) {w0 : World} (hv : LRep mTurn base w0 v l) (ho : (cL cTurn).okr l) (hm : (cL cTurn).sm l) (xs : List UInt8) (bad : Bool) (hs : WSt p base w0 xs bad) (hw : w0.heap[wb]? = some (.cells #[.pointer (some ⟨p, 0, none⟩)] 68)) (hb : base ≤ p) (hlen : xs.length + ((cL cTurn).enc l).length + 10 ≤ 140737488355328) :
    Calls Tryz.prog 62 #[.pointer (some ⟨p, 0, none⟩), v, .func (.func 63) #[] #[.pointer (some ⟨wb, 0, none⟩)]] w0 (WPost p base w0 (xs ++ (cL cTurn).enc l) (bad || !(cL cTurn).okt l)) := by
  obtain ⟨ho1, ho2⟩ := ho
  obtain ⟨hm1, hm2⟩ := hm
  have hB : base ≤ w0.heap.size := by have := hs.lt; omega
  obtain ⟨A, cp, rfl⟩ := hv.form
  obtain ⟨ln, hln⟩ : ∃ ln, l.length = ln := ⟨_, rfl⟩
  have HL := Lib.hid hln
  have HV := Lib.hid hv
  have HO := Lib.hid ho2
  have HM := Lib.hid hm2
  have HW := Lib.hid hw
  have HE : Hid ((cL cTurn).enc l = uv ln ++ l.flatMap (cTurn).enc) := by show _ = _; rw [← hln]; rfl
  have HLEN : Hid (xs.length + ((uv ln).length + (l.flatMap (cTurn).enc).length) + 10 ≤ 140737488355328) := by
    rw [HE.out] at hlen
    simp only [List.length_append] at hlen
    show _ ≤ _
    omega
  rw [hln] at ho1 hm1 ⊢
  have hln3 : ln ≤ 20000 := hm1
  obtain ⟨v1, hc1, hw1⟩ := hs
  have o0 : w0.cell? ⟨p, 0, none⟩ = some v1 := by rw [blk_cell hc1]; rfl
  have HC := Lib.hid (uint_any v1 xs ln w0 base (by omega) hw1 hB (by have := HLEN.out; omega))
  have HC1 := Lib.hid hc1
  have HO1 := Lib.hid hw1
  clear hv hln ho1 ho2 hm1 hm2 hlen hc1 hw1 hw
  go_enter Tryz.func62, Tryz.ntmps62
  go_wp2_with fail
  refine HC.out.mono ?_
  rintro e w2 ⟨v2, rfl, hown, hext⟩
  obtain ⟨A2, n2, c2, e2⟩ := hown.form
  subst e2
  obtain ⟨q1, q2, q3⟩ := WSt.store HC1.out HO1.out hown hext hb
  have e3 := blk_cell q1 0
  have e4 := blk_free q1 0
  simp at e3
  have HQ2 := Lib.hid q2
  have HQ3 := Lib.hid q3
  clear q1 q2 q3 hown hext o0 HC HC1 HO1
  go_wp2
  clear e3 e4
  go_loopw [7, 21] (fun _ i wr => ∃ (k : Nat), i = .int .i64 k ∧ k ≤ ln ∧ Hid (WSt p base wr (xs ++ uv ln ++ (l.take k).flatMap (cTurn).enc) (bad || !(cL cTurn).okt (l.take k))) ∧ Hid (Keep isWr base w0 wr)) (fun _ i _ => ln - (intOf i).toNat)
  case atStart => exact ⟨0, rfl, by omega, by show WSt _ _ _ _ _; simpa [cL] using HQ2.out, HQ3⟩
  case round =>
    obtain ⟨k, rfl, hk, HST, HK⟩ := hrel
    by_cases hk4 : k < ln
    · obtain ⟨x, hxk⟩ : ∃ n, l[k]? = some n := ⟨l[k]'(by rw [HL.out]; exact hk4), List.getElem?_eq_getElem _⟩
      have HTK := Lib.hid (show (l.take (k + 1)).flatMap (cTurn).enc = (l.take k).flatMap (cTurn).enc ++ (cTurn).enc x by rw [List.take_add_one, hxk]; simp)
      have HTB := Lib.hid (show (bad || !(cL cTurn).okt (l.take (k + 1))) = ((bad || !(cL cTurn).okt (l.take k)) || !(cTurn).okt x) by
        rw [List.take_add_one, hxk]
        show (bad || !(List.all (l.take k ++ [x]) (cTurn).okt)) = ((bad || !(List.all (l.take k) (cTurn).okt)) || !(cTurn).okt x)
        rw [List.all_append]
        simp [Bool.not_and, Bool.or_assoc])
      have hmem := List.mem_of_getElem? hxk
      have hox := Lib.hid (HO.out x hmem)
      have hmx := Lib.hid (HM.out x hmem)
      have hsz : Hid ((xs ++ uv ln ++ (l.take k).flatMap (cTurn).enc).length + ((cTurn).enc x).length + 10 ≤ 140737488355328) := by
        show _ ≤ _
        have h8 := HLEN.out
        have h9 : (l.flatMap (cTurn).enc).length = ((l.take (k + 1)).flatMap (cTurn).enc).length + ((l.drop (k + 1)).flatMap (cTurn).enc).length := by
          rw [← List.length_append, ← List.flatMap_append, List.take_append_drop]
        rw [HTK.out] at h9
        simp only [List.length_append] at h9 ⊢
        omega
      obtain ⟨b, o, us, rfl, hbb, hus, hrep⟩ := (HV.out.keep mTurn_law (HK.out.below hB)).at hxk
      clear hmem hxk
      obtain ⟨qs, qn, ql⟩ := x
      have hrep0 := hrep
      obtain rfl := mTurn_form hrep
      have d0 := hus 0 _ rfl
      have d1 := hus 1 _ rfl
      have d2 := hus 2 _ rfl
      rw [show mTurn.n = 3 from rfl] at d0 d1 d2
      rw [Nat.add_zero] at d0
      have HSA := Lib.hid (HST.out.alloc (.cells #[.string qs, .int .i64 qn, .int .i64 ql] 147))
      have HRA : Hid (mTurn.rep base (wr.alloc (.cells #[.string qs, .int .i64 qn, .int .i64 ql] 147)) [.string qs, .int .i64 qn, .int .i64 ql] (qs, qn, ql)) := mTurn_law.keep hrep0 ((Below.refl _ _).alloc (by have := HK.out.size; omega) _)
      have HWr : Hid ((wr.alloc (.cells #[.string qs, .int .i64 qn, .int .i64 ql] 147)).heap[wb]? = _) := blk_alloc (HK.out.blk HW.out rfl) _
      clear hus hrep hrep0
      go_wp2_with fail
      refine (wTurn_any p base wb (qs, qn, ql) hox.out hmx.out _ _ _ (us := [.string qs, .int .i64 qn, .int .i64 ql]) HRA.out HSA.out HWr.out hb hsz.out).mono ?_
      rintro e w3 ⟨rfl, hst, hk2⟩
      have HS2 := Lib.hid hst
      have HK2 := Lib.hid ((HK.out.alloc _).trans hk2)
      clear hst hk2
      go_wp2
      go_roundw
      case rel => exact ⟨k + 1, by go_num, by omega, by show WSt _ _ _ _ _; rw [HTK.out, HTB.out, ← List.append_assoc]; exact HS2.out, HK2.out⟩
      case measure => simp [intOf]; omega
    · obtain rfl : k = ln := by omega
      have HF : Hid (WSt p base wr (xs ++ (cL cTurn).enc l) (bad || !(cL cTurn).okt l)) := by
        have := HST.out
        rw [List.take_of_length_le (by rw [HL.out]; exact Nat.le_refl _), List.append_assoc, ← HE.out] at this
        exact this
      go_wp2
      exact bodyPost_ret (v := .tuple #[]) (by simp [results]) rfl ⟨rfl, HF.out, HK.out⟩
set_option maxRecDepth 20000 in
set_option maxHeartbeats 1000000 in
theorem wItem_any (p base wb : Nat) (x : DItem) (ho : cItem.okr x) (_hm : cItem.sm x) (xs : List UInt8) (bad : Bool) (w : World) (us : List Value) (hu : mItem.rep base w us x) (hs : WSt p base w xs bad) (hw : w.heap[wb]? = some (.cells #[.pointer (some ⟨p, 0, none⟩)] 68)) (hb : base ≤ p) (hlen : xs.length + (cItem.enc x).length + 10 ≤ 140737488355328) :
    Calls Tryz.prog 67 #[.agg us.toArray, .pointer (some ⟨wb, 0, none⟩)] w (WPost p base w (xs ++ cItem.enc x) (bad || !cItem.okt x)) := by
  obtain ⟨qn, qc⟩ := x
  obtain rfl := mItem_form hu
  clear hu
  obtain ⟨o1, o2⟩ := ho
  have HE : Hid (cItem.enc (qn, qc) = ([qn, qc].flatMap iv)) := by show _ = _; simp [cItem, cSeq, cI]
  have HT : Hid (cItem.okt (qn, qc) = (true)) := by show _ = _; rfl
  have HLEN : Hid (xs.length + (([qn, qc].flatMap iv).length) + 10 ≤ 140737488355328) := by
    rw [HE.out] at hlen
    show _ ≤ _
    omega
  have hB : base ≤ w.heap.size := by have := hs.lt; omega
  have HW0 := Lib.hid (blk_alloc hw (.cells #[.int .i64 qn, .int .i64 qc] 152))
  have HB0 := Lib.hid (alloc_at w (.cells #[.int .i64 qn, .int .i64 qc] 152))
  have HS0 := Lib.hid (hs.alloc (.cells #[.int .i64 qn, .int .i64 qc] 152))
  have HK0 : Hid (Keep isWr base w (w.alloc (.cells #[.int .i64 qn, .int .i64 qc] 152))) := (Keep.refl _ _ _).alloc _
  clear hw hs hlen
  go_enter Tryz.func67, Tryz.ntmps67
  have w0 := blk_cell HW0.out 0
  have c0 := blk_cell HB0.out 0
  have c1 := blk_cell HB0.out 1
  simp at w0 c0 c1
  have HSA := Lib.hid (HS0.out.alloc (.cells #[.int .i64 qn, .int .i64 qc] 3))
  have HEL : Hid (ElemsAt (World.alloc (w.alloc (.cells #[.int .i64 qn, .int .i64 qc] 152)) (.cells #[.int .i64 qn, .int .i64 qc] 3)) (World.heap (w.alloc (.cells #[.int .i64 qn, .int .i64 qc] 152))).size 3 [.int .i64 qn, .int .i64 qc]) := elems_alloc _ _ _
  rw [show (World.heap (w.alloc (.cells #[.int .i64 qn, .int .i64 qc] 152))).size = w.heap.size + 1 by simp] at HEL
  go_wp2_with fail
  refine (ints_any p base _ [qn, qc] 2 rfl _ _ _ HSA.out HEL.out (all2 o1 o2) hb (by omega) (by have := HLEN.out; omega)).mono ?_
  rintro e y1 ⟨rfl, hst, hk⟩
  have HS1 := Lib.hid hst
  have HW1 := Lib.hid (hk.blk (blk_alloc (HW0.out) _) rfl)
  have HB1 := Lib.hid (hk.blk (blk_alloc (HB0.out) _) rfl)
  have HK1 := Lib.hid ((HK0.out.alloc _).trans hk)
  clear hst hk w0 c0 c1 HSA HEL HS0 HK0 HW0 HB0
  have HF := Lib.hid (HS1.out.cast (xs' := xs ++ cItem.enc (qn, qc)) (bad' := bad || !cItem.okt (qn, qc)) (by rw [HE.out]) (by rw [HT.out]; exact bad0 _))
  go_wp2
  exact bodyPost_ret (v := .tuple #[]) (by simp [results]) rfl ⟨rfl, HF.out, HK1.out⟩
set_option maxRecDepth 20000 in
set_option maxHeartbeats 1000000 in
theorem lItem_any (p base wb : Nat) (v : Value) (l : List DItem) {w0 : World} (hv : LRep mItem base w0 v l) (ho : (cL cItem).okr l) (hm : (cL cItem).sm l) (xs : List UInt8) (bad : Bool) (hs : WSt p base w0 xs bad) (hw : w0.heap[wb]? = some (.cells #[.pointer (some ⟨p, 0, none⟩)] 68)) (hb : base ≤ p) (hlen : xs.length + ((cL cItem).enc l).length + 10 ≤ 140737488355328) :
    Calls Tryz.prog 66 #[.pointer (some ⟨p, 0, none⟩), v, .func (.func 67) #[] #[.pointer (some ⟨wb, 0, none⟩)]] w0 (WPost p base w0 (xs ++ (cL cItem).enc l) (bad || !(cL cItem).okt l)) := by
  obtain ⟨ho1, ho2⟩ := ho
  obtain ⟨hm1, hm2⟩ := hm
  have hB : base ≤ w0.heap.size := by have := hs.lt; omega
  obtain ⟨A, cp, rfl⟩ := hv.form
  obtain ⟨ln, hln⟩ : ∃ ln, l.length = ln := ⟨_, rfl⟩
  have HL := Lib.hid hln
  have HV := Lib.hid hv
  have HO := Lib.hid ho2
  have HM := Lib.hid hm2
  have HW := Lib.hid hw
  have HE : Hid ((cL cItem).enc l = uv ln ++ l.flatMap (cItem).enc) := by show _ = _; rw [← hln]; rfl
  have HLEN : Hid (xs.length + ((uv ln).length + (l.flatMap (cItem).enc).length) + 10 ≤ 140737488355328) := by
    rw [HE.out] at hlen
    simp only [List.length_append] at hlen
    show _ ≤ _
    omega
  rw [hln] at ho1 hm1 ⊢
  have hln3 : ln ≤ 20000 := hm1
  obtain ⟨v1, hc1, hw1⟩ := hs
  have o0 : w0.cell? ⟨p, 0, none⟩ = some v1 := by rw [blk_cell hc1]; rfl
  have HC := Lib.hid (uint_any v1 xs ln w0 base (by omega) hw1 hB (by have := HLEN.out; omega))
  have HC1 := Lib.hid hc1
  have HO1 := Lib.hid hw1
  clear hv hln ho1 ho2 hm1 hm2 hlen hc1 hw1 hw
  go_enter Tryz.func66, Tryz.ntmps66
  go_wp2_with fail
  refine HC.out.mono ?_
  rintro e w2 ⟨v2, rfl, hown, hext⟩
  obtain ⟨A2, n2, c2, e2⟩ := hown.form
  subst e2
  obtain ⟨q1, q2, q3⟩ := WSt.store HC1.out HO1.out hown hext hb
  have e3 := blk_cell q1 0
  have e4 := blk_free q1 0
  simp at e3
  have HQ2 := Lib.hid q2
  have HQ3 := Lib.hid q3
  clear q1 q2 q3 hown hext o0 HC HC1 HO1
  go_wp2
  clear e3 e4
  go_loopw [7, 21] (fun _ i wr => ∃ (k : Nat), i = .int .i64 k ∧ k ≤ ln ∧ Hid (WSt p base wr (xs ++ uv ln ++ (l.take k).flatMap (cItem).enc) (bad || !(cL cItem).okt (l.take k))) ∧ Hid (Keep isWr base w0 wr)) (fun _ i _ => ln - (intOf i).toNat)
  case atStart => exact ⟨0, rfl, by omega, by show WSt _ _ _ _ _; simpa [cL] using HQ2.out, HQ3⟩
  case round =>
    obtain ⟨k, rfl, hk, HST, HK⟩ := hrel
    by_cases hk4 : k < ln
    · obtain ⟨x, hxk⟩ : ∃ n, l[k]? = some n := ⟨l[k]'(by rw [HL.out]; exact hk4), List.getElem?_eq_getElem _⟩
      have HTK := Lib.hid (show (l.take (k + 1)).flatMap (cItem).enc = (l.take k).flatMap (cItem).enc ++ (cItem).enc x by rw [List.take_add_one, hxk]; simp)
      have HTB := Lib.hid (show (bad || !(cL cItem).okt (l.take (k + 1))) = ((bad || !(cL cItem).okt (l.take k)) || !(cItem).okt x) by
        rw [List.take_add_one, hxk]
        show (bad || !(List.all (l.take k ++ [x]) (cItem).okt)) = ((bad || !(List.all (l.take k) (cItem).okt)) || !(cItem).okt x)
        rw [List.all_append]
        simp [Bool.not_and, Bool.or_assoc])
      have hmem := List.mem_of_getElem? hxk
      have hox := Lib.hid (HO.out x hmem)
      have hmx := Lib.hid (HM.out x hmem)
      have hsz : Hid ((xs ++ uv ln ++ (l.take k).flatMap (cItem).enc).length + ((cItem).enc x).length + 10 ≤ 140737488355328) := by
        show _ ≤ _
        have h8 := HLEN.out
        have h9 : (l.flatMap (cItem).enc).length = ((l.take (k + 1)).flatMap (cItem).enc).length + ((l.drop (k + 1)).flatMap (cItem).enc).length := by
          rw [← List.length_append, ← List.flatMap_append, List.take_append_drop]
        rw [HTK.out] at h9
        simp only [List.length_append] at h9 ⊢
        omega
      obtain ⟨b, o, us, rfl, hbb, hus, hrep⟩ := (HV.out.keep mItem_law (HK.out.below hB)).at hxk
      clear hmem hxk
      obtain ⟨qn, qc⟩ := x
      have hrep0 := hrep
      obtain rfl := mItem_form hrep
      have d0 := hus 0 _ rfl
      have d1 := hus 1 _ rfl
      rw [show mItem.n = 2 from rfl] at d0 d1
      rw [Nat.add_zero] at d0
      have HSA := Lib.hid (HST.out.alloc (.cells #[.int .i64 qn, .int .i64 qc] 152))
      have HRA : Hid (mItem.rep base (wr.alloc (.cells #[.int .i64 qn, .int .i64 qc] 152)) [.int .i64 qn, .int .i64 qc] (qn, qc)) := mItem_law.keep hrep0 ((Below.refl _ _).alloc (by have := HK.out.size; omega) _)
      have HWr : Hid ((wr.alloc (.cells #[.int .i64 qn, .int .i64 qc] 152)).heap[wb]? = _) := blk_alloc (HK.out.blk HW.out rfl) _
      clear hus hrep hrep0
      go_wp2_with fail
      refine (wItem_any p base wb (qn, qc) hox.out hmx.out _ _ _ (us := [.int .i64 qn, .int .i64 qc]) HRA.out HSA.out HWr.out hb hsz.out).mono ?_
      rintro e w3 ⟨rfl, hst, hk2⟩
      have HS2 := Lib.hid hst
      have HK2 := Lib.hid ((HK.out.alloc _).trans hk2)
      clear hst hk2
      go_wp2
      go_roundw
      case rel => exact ⟨k + 1, by go_num, by omega, by show WSt _ _ _ _ _; rw [HTK.out, HTB.out, ← List.append_assoc]; exact HS2.out, HK2.out⟩
      case measure => simp [intOf]; omega
    · obtain rfl : k = ln := by omega
      have HF : Hid (WSt p base wr (xs ++ (cL cItem).enc l) (bad || !(cL cItem).okt l)) := by
        have := HST.out
        rw [List.take_of_length_le (by rw [HL.out]; exact Nat.le_refl _), List.append_assoc, ← HE.out] at this
        exact this
      go_wp2
      exact bodyPost_ret (v := .tuple #[]) (by simp [results]) rfl ⟨rfl, HF.out, HK.out⟩
set_option maxRecDepth 20000 in
set_option maxHeartbeats 1000000 in
theorem wJob_any (p base wb : Nat) (x : DJob) (ho : cJob.okr x) (hm : cJob.sm x) (xs : List UInt8) (bad : Bool) (w : World) (us : List Value) (hu : mJob.rep base w us x) (hs : WSt p base w xs bad) (hw : w.heap[wb]? = some (.cells #[.pointer (some ⟨p, 0, none⟩)] 68)) (hb : base ≤ p) (hlen : xs.length + (cJob.enc x).length + 10 ≤ 140737488355328) :
    Calls Tryz.prog 27 #[.agg us.toArray, .pointer (some ⟨wb, 0, none⟩)] w (WPost p base w (xs ++ cJob.enc x) (bad || !cJob.okt x)) := by
  obtain ⟨qn, qs, qk⟩ := x
  obtain rfl := mJob_form hu
  clear hu
  obtain ⟨o1, _, o3⟩ := ho
  obtain ⟨_, m2, _⟩ := hm
  have HE : Hid (cJob.enc (qn, qs, qk) = ([qn].flatMap iv) ++ (blobs [qs]) ++ ([qk].flatMap iv)) := by show _ = _; simp [cJob, cSeq, cI, cS, blobs]
  have HT : Hid (cJob.okt (qn, qs, qk) = ((shortB [qs]))) := by show _ = _; simp [cJob, cSeq, cI, cS, shortB]
  have HLEN : Hid (xs.length + (([qn].flatMap iv).length + (blobs [qs]).length + ([qk].flatMap iv).length) + 10 ≤ 140737488355328) := by
    rw [HE.out] at hlen
    simp only [List.length_append] at hlen
    show _ ≤ _
    omega
  have hB : base ≤ w.heap.size := by have := hs.lt; omega
  have HW0 := Lib.hid (blk_alloc hw (.cells #[.int .i64 qn, .string qs, .int .i64 qk] 67))
  have HB0 := Lib.hid (alloc_at w (.cells #[.int .i64 qn, .string qs, .int .i64 qk] 67))
  have HS0 := Lib.hid (hs.alloc (.cells #[.int .i64 qn, .string qs, .int .i64 qk] 67))
  have HK0 : Hid (Keep isWr base w (w.alloc (.cells #[.int .i64 qn, .string qs, .int .i64 qk] 67))) := (Keep.refl _ _ _).alloc _
  clear hw hs hlen
  go_enter Tryz.func27, Tryz.ntmps27
  have w0 := blk_cell HW0.out 0
  have c0 := blk_cell HB0.out 0
  simp at w0 c0
  have HSA := Lib.hid (HS0.out.alloc (.cells #[.int .i64 qn] 3))
  have HEL : Hid (ElemsAt (World.alloc (w.alloc (.cells #[.int .i64 qn, .string qs, .int .i64 qk] 67)) (.cells #[.int .i64 qn] 3)) (World.heap (w.alloc (.cells #[.int .i64 qn, .string qs, .int .i64 qk] 67))).size 3 [.int .i64 qn]) := elems_alloc _ _ _
  rw [show (World.heap (w.alloc (.cells #[.int .i64 qn, .string qs, .int .i64 qk] 67))).size = w.heap.size + 1 by simp] at HEL
  go_wp2_with fail
  refine (ints_any p base _ [qn] 1 rfl _ _ _ HSA.out HEL.out (all1 o1) hb (by omega) (by have := HLEN.out; omega)).mono ?_
  rintro e y1 ⟨rfl, hst, hk⟩
  have HS1 := Lib.hid hst
  have HW1 := Lib.hid (hk.blk (blk_alloc (HW0.out) _) rfl)
  have HB1 := Lib.hid (hk.blk (blk_alloc (HB0.out) _) rfl)
  have HK1 := Lib.hid ((HK0.out.alloc _).trans hk)
  clear hst hk w0 c0 HSA HEL HS0 HK0 HW0 HB0
  have w0 := blk_cell HW1.out 0
  have c1 := blk_cell HB1.out 1
  simp at w0 c1
  have HSA := Lib.hid (HS1.out.alloc (.cells #[.string qs] 9))
  have HEL : Hid (ElemsAt (World.alloc y1 (.cells #[.string qs] 9)) (World.heap y1).size 9 [.string qs]) := elems_alloc _ _ _
  go_wp2_with fail
  refine (texts_any p base _ [qs] 1 rfl _ _ _ HSA.out HEL.out (all1 m2) hb (by omega) (by have := HLEN.out; simp only [List.length_append]; omega)).mono ?_
  rintro e y2 ⟨rfl, hst, hk⟩
  have HS2 := Lib.hid hst
  have HW2 := Lib.hid (hk.blk (blk_alloc (HW1.out) _) rfl)
  have HB2 := Lib.hid (hk.blk (blk_alloc (HB1.out) _) rfl)
  have HK2 := Lib.hid ((HK1.out.alloc _).trans hk)
  clear hst hk w0 c1 HSA HEL HS1 HK1 HW1 HB1
  have w0 := blk_cell HW2.out 0
  have c2 := blk_cell HB2.out 2
  simp at w0 c2
  have HSA := Lib.hid (HS2.out.alloc (.cells #[.int .i64 qk] 3))
  have HEL : Hid (ElemsAt (World.alloc y2 (.cells #[.int .i64 qk] 3)) (World.heap y2).size 3 [.int .i64 qk]) := elems_alloc _ _ _
  go_wp2_with fail
  refine (ints_any p base _ [qk] 1 rfl _ _ _ HSA.out HEL.out (all1 o3) hb (by omega) (by have := HLEN.out; simp only [List.length_append]; omega)).mono ?_
  rintro e y3 ⟨rfl, hst, hk⟩
  have HS3 := Lib.hid hst
  have HW3 := Lib.hid (hk.blk (blk_alloc (HW2.out) _) rfl)
  have HB3 := Lib.hid (hk.blk (blk_alloc (HB2.out) _) rfl)
  have HK3 := Lib.hid ((HK2.out.alloc _).trans hk)
  clear hst hk w0 c2 HSA HEL HS2 HK2 HW2 HB2
  have HF := Lib.hid (HS3.out.cast (xs' := xs ++ cJob.enc (qn, qs, qk)) (bad' := bad || !cJob.okt (qn, qs, qk)) (by rw [HE.out]; simp only [List.append_assoc]) (by rw [HT.out]))
  go_wp2
  exact bodyPost_ret (v := .tuple #[]) (by simp [results]) rfl ⟨rfl, HF.out, HK3.out⟩
set_option maxRecDepth 20000 in
set_option maxHeartbeats 1000000 in
theorem lJob_any (p base wb : Nat) (v : Value) (l : List DJob) {w0 : World} (hv : LRep mJob base w0 v l) (ho : (cL cJob).okr l) (hm : (cL cJob).sm l) (xs : List UInt8) (bad : Bool) (hs : WSt p base w0 xs bad) (hw : w0.heap[wb]? = some (.cells #[.pointer (some ⟨p, 0, none⟩)] 68)) (hb : base ≤ p) (hlen : xs.length + ((cL cJob).enc l).length + 10 ≤ 140737488355328) :
    Calls Tryz.prog 26 #[.pointer (some ⟨p, 0, none⟩), v, .func (.func 27) #[] #[.pointer (some ⟨wb, 0, none⟩)]] w0 (WPost p base w0 (xs ++ (cL cJob).enc l) (bad || !(cL cJob).okt l)) := by
  obtain ⟨ho1, ho2⟩ := ho
  obtain ⟨hm1, hm2⟩ := hm
  have hB : base ≤ w0.heap.size := by have := hs.lt; omega
  obtain ⟨A, cp, rfl⟩ := hv.form
  obtain ⟨ln, hln⟩ : ∃ ln, l.length = ln := ⟨_, rfl⟩
  have HL := Lib.hid hln
  have HV := Lib.hid hv
  have HO := Lib.hid ho2
  have HM := Lib.hid hm2
  have HW := Lib.hid hw
  have HE : Hid ((cL cJob).enc l = uv ln ++ l.flatMap (cJob).enc) := by show _ = _; rw [← hln]; rfl
  have HLEN : Hid (xs.length + ((uv ln).length + (l.flatMap (cJob).enc).length) + 10 ≤ 140737488355328) := by
    rw [HE.out] at hlen
    simp only [List.length_append] at hlen
    show _ ≤ _
    omega
  rw [hln] at ho1 hm1 ⊢
  have hln3 : ln ≤ 20000 := hm1
  obtain ⟨v1, hc1, hw1⟩ := hs
  have o0 : w0.cell? ⟨p, 0, none⟩ = some v1 := by rw [blk_cell hc1]; rfl
  have HC := Lib.hid (uint_any v1 xs ln w0 base (by omega) hw1 hB (by have := HLEN.out; omega))
  have HC1 := Lib.hid hc1
  have HO1 := Lib.hid hw1
  clear hv hln ho1 ho2 hm1 hm2 hlen hc1 hw1 hw
  go_enter Tryz.func26, Tryz.ntmps26
  go_wp2_with fail
  refine HC.out.mono ?_
  rintro e w2 ⟨v2, rfl, hown, hext⟩
  obtain ⟨A2, n2, c2, e2⟩ := hown.form
  subst e2
  obtain ⟨q1, q2, q3⟩ := WSt.store HC1.out HO1.out hown hext hb
  have e3 := blk_cell q1 0
  have e4 := blk_free q1 0
  simp at e3
  have HQ2 := Lib.hid q2
  have HQ3 := Lib.hid q3
  clear q1 q2 q3 hown hext o0 HC HC1 HO1
  go_wp2
  clear e3 e4
  go_loopw [7, 21] (fun _ i wr => ∃ (k : Nat), i = .int .i64 k ∧ k ≤ ln ∧ Hid (WSt p base wr (xs ++ uv ln ++ (l.take k).flatMap (cJob).enc) (bad || !(cL cJob).okt (l.take k))) ∧ Hid (Keep isWr base w0 wr)) (fun _ i _ => ln - (intOf i).toNat)
  case atStart => exact ⟨0, rfl, by omega, by show WSt _ _ _ _ _; simpa [cL] using HQ2.out, HQ3⟩
  case round =>
    obtain ⟨k, rfl, hk, HST, HK⟩ := hrel
    by_cases hk4 : k < ln
    · obtain ⟨x, hxk⟩ : ∃ n, l[k]? = some n := ⟨l[k]'(by rw [HL.out]; exact hk4), List.getElem?_eq_getElem _⟩
      have HTK := Lib.hid (show (l.take (k + 1)).flatMap (cJob).enc = (l.take k).flatMap (cJob).enc ++ (cJob).enc x by rw [List.take_add_one, hxk]; simp)
      have HTB := Lib.hid (show (bad || !(cL cJob).okt (l.take (k + 1))) = ((bad || !(cL cJob).okt (l.take k)) || !(cJob).okt x) by
        rw [List.take_add_one, hxk]
        show (bad || !(List.all (l.take k ++ [x]) (cJob).okt)) = ((bad || !(List.all (l.take k) (cJob).okt)) || !(cJob).okt x)
        rw [List.all_append]
        simp [Bool.not_and, Bool.or_assoc])
      have hmem := List.mem_of_getElem? hxk
      have hox := Lib.hid (HO.out x hmem)
      have hmx := Lib.hid (HM.out x hmem)
      have hsz : Hid ((xs ++ uv ln ++ (l.take k).flatMap (cJob).enc).length + ((cJob).enc x).length + 10 ≤ 140737488355328) := by
        show _ ≤ _
        have h8 := HLEN.out
        have h9 : (l.flatMap (cJob).enc).length = ((l.take (k + 1)).flatMap (cJob).enc).length + ((l.drop (k + 1)).flatMap (cJob).enc).length := by
          rw [← List.length_append, ← List.flatMap_append, List.take_append_drop]
        rw [HTK.out] at h9
        simp only [List.length_append] at h9 ⊢
        omega
      obtain ⟨b, o, us, rfl, hbb, hus, hrep⟩ := (HV.out.keep mJob_law (HK.out.below hB)).at hxk
      clear hmem hxk
      obtain ⟨qn, qs, qk⟩ := x
      have hrep0 := hrep
      obtain rfl := mJob_form hrep
      have d0 := hus 0 _ rfl
      have d1 := hus 1 _ rfl
      have d2 := hus 2 _ rfl
      rw [show mJob.n = 3 from rfl] at d0 d1 d2
      rw [Nat.add_zero] at d0
      have HSA := Lib.hid (HST.out.alloc (.cells #[.int .i64 qn, .string qs, .int .i64 qk] 67))
      have HRA : Hid (mJob.rep base (wr.alloc (.cells #[.int .i64 qn, .string qs, .int .i64 qk] 67)) [.int .i64 qn, .string qs, .int .i64 qk] (qn, qs, qk)) := mJob_law.keep hrep0 ((Below.refl _ _).alloc (by have := HK.out.size; omega) _)
      have HWr : Hid ((wr.alloc (.cells #[.int .i64 qn, .string qs, .int .i64 qk] 67)).heap[wb]? = _) := blk_alloc (HK.out.blk HW.out rfl) _
      clear hus hrep hrep0
      go_wp2_with fail
      refine (wJob_any p base wb (qn, qs, qk) hox.out hmx.out _ _ _ (us := [.int .i64 qn, .string qs, .int .i64 qk]) HRA.out HSA.out HWr.out hb hsz.out).mono ?_
      rintro e w3 ⟨rfl, hst, hk2⟩
      have HS2 := Lib.hid hst
      have HK2 := Lib.hid ((HK.out.alloc _).trans hk2)
      clear hst hk2
      go_wp2
      go_roundw
      case rel => exact ⟨k + 1, by go_num, by omega, by show WSt _ _ _ _ _; rw [HTK.out, HTB.out, ← List.append_assoc]; exact HS2.out, HK2.out⟩
      case measure => simp [intOf]; omega
    · obtain rfl : k = ln := by omega
      have HF : Hid (WSt p base wr (xs ++ (cL cJob).enc l) (bad || !(cL cJob).okt l)) := by
        have := HST.out
        rw [List.take_of_length_le (by rw [HL.out]; exact Nat.le_refl _), List.append_assoc, ← HE.out] at this
        exact this
      go_wp2
      exact bodyPost_ret (v := .tuple #[]) (by simp [results]) rfl ⟨rfl, HF.out, HK.out⟩
set_option maxRecDepth 20000 in
set_option maxHeartbeats 1000000 in
theorem wWorker_any (p base wb : Nat) (x : DWorker) (ho : cWorker.okr x) (_hm : cWorker.sm x) (xs : List UInt8) (bad : Bool) (w : World) (us : List Value) (hu : mWorker.rep base w us x) (hs : WSt p base w xs bad) (hw : w.heap[wb]? = some (.cells #[.pointer (some ⟨p, 0, none⟩)] 68)) (hb : base ≤ p) (hlen : xs.length + (cWorker.enc x).length + 10 ≤ 140737488355328) :
    Calls Tryz.prog 29 #[.agg us.toArray, .pointer (some ⟨wb, 0, none⟩)] w (WPost p base w (xs ++ cWorker.enc x) (bad || !cWorker.okt x)) := by
  obtain ⟨qn, qt⟩ := x
  obtain rfl := mWorker_form hu
  clear hu
  obtain ⟨o1, o2⟩ := ho
  have HE : Hid (cWorker.enc (qn, qt) = ([qn].flatMap iv) ++ ([qt].flatMap iv)) := by show _ = _; simp [cWorker, cSeq, cI]
  have HT : Hid (cWorker.okt (qn, qt) = (true)) := by show _ = _; rfl
  have HLEN : Hid (xs.length + (([qn].flatMap iv).length + ([qt].flatMap iv).length) + 10 ≤ 140737488355328) := by
    rw [HE.out] at hlen
    simp only [List.length_append] at hlen
    show _ ≤ _
    omega
  have hB : base ≤ w.heap.size := by have := hs.lt; omega
  have HW0 := Lib.hid (blk_alloc hw (.cells #[.int .i64 qn, .int .i64 qt] 87))
  have HB0 := Lib.hid (alloc_at w (.cells #[.int .i64 qn, .int .i64 qt] 87))
  have HS0 := Lib.hid (hs.alloc (.cells #[.int .i64 qn, .int .i64 qt] 87))
  have HK0 : Hid (Keep isWr base w (w.alloc (.cells #[.int .i64 qn, .int .i64 qt] 87))) := (Keep.refl _ _ _).alloc _
  clear hw hs hlen
  go_enter Tryz.func29, Tryz.ntmps29
  have w0 := blk_cell HW0.out 0
  have c0 := blk_cell HB0.out 0
  simp at w0 c0
  have HSA := Lib.hid (HS0.out.alloc (.cells #[.int .i64 qn] 3))
  have HEL : Hid (ElemsAt (World.alloc (w.alloc (.cells #[.int .i64 qn, .int .i64 qt] 87)) (.cells #[.int .i64 qn] 3)) (World.heap (w.alloc (.cells #[.int .i64 qn, .int .i64 qt] 87))).size 3 [.int .i64 qn]) := elems_alloc _ _ _
  rw [show (World.heap (w.alloc (.cells #[.int .i64 qn, .int .i64 qt] 87))).size = w.heap.size + 1 by simp] at HEL
  go_wp2_with fail
  refine (ints_any p base _ [qn] 1 rfl _ _ _ HSA.out HEL.out (all1 o1) hb (by omega) (by have := HLEN.out; omega)).mono ?_
  rintro e y1 ⟨rfl, hst, hk⟩
  have HS1 := Lib.hid hst
  have HW1 := Lib.hid (hk.blk (blk_alloc (HW0.out) _) rfl)
  have HB1 := Lib.hid (hk.blk (blk_alloc (HB0.out) _) rfl)
  have HK1 := Lib.hid ((HK0.out.alloc _).trans hk)
  clear hst hk w0 c0 HSA HEL HS0 HK0 HW0 HB0
  have w0 := blk_cell HW1.out 0
  have c1 := blk_cell HB1.out 1
  simp at w0 c1
  have HSA := Lib.hid (HS1.out.alloc (.cells #[.int .i64 qt] 2))
  have HEL : Hid (ElemsAt (World.alloc y1 (.cells #[.int .i64 qt] 2)) (World.heap y1).size 2 [.int .i64 qt]) := elems_alloc _ _ _
  go_wp2_with fail
  refine (numbers_any p base _ [qt] 1 rfl _ _ _ HSA.out HEL.out (all1 o2) hb (by omega) (by have := HLEN.out; simp only [List.length_append]; omega)).mono ?_
  rintro e y2 ⟨rfl, hst, hk⟩
  have HS2 := Lib.hid hst
  have HW2 := Lib.hid (hk.blk (blk_alloc (HW1.out) _) rfl)
  have HB2 := Lib.hid (hk.blk (blk_alloc (HB1.out) _) rfl)
  have HK2 := Lib.hid ((HK1.out.alloc _).trans hk)
  clear hst hk w0 c1 HSA HEL HS1 HK1 HW1 HB1
  have HF := Lib.hid (HS2.out.cast (xs' := xs ++ cWorker.enc (qn, qt)) (bad' := bad || !cWorker.okt (qn, qt)) (by rw [HE.out]; simp only [List.append_assoc]) (by rw [HT.out]; exact bad0 _))
  go_wp2
  exact bodyPost_ret (v := .tuple #[]) (by simp [results]) rfl ⟨rfl, HF.out, HK2.out⟩
set_option maxRecDepth 20000 in
set_option maxHeartbeats 1000000 in
theorem lWorker_any (p base wb : Nat) (v : Value) (l : List DWorker) {w0 : World} (hv : LRep mWorker base w0 v l) (ho : (cL cWorker).okr l) (hm : (cL cWorker).sm l) (xs : List UInt8) (bad : Bool) (hs : WSt p base w0 xs bad) (hw : w0.heap[wb]? = some (.cells #[.pointer (some ⟨p, 0, none⟩)] 68)) (hb : base ≤ p) (hlen : xs.length + ((cL cWorker).enc l).length + 10 ≤ 140737488355328) :
    Calls Tryz.prog 28 #[.pointer (some ⟨p, 0, none⟩), v, .func (.func 29) #[] #[.pointer (some ⟨wb, 0, none⟩)]] w0 (WPost p base w0 (xs ++ (cL cWorker).enc l) (bad || !(cL cWorker).okt l)) := by
  obtain ⟨ho1, ho2⟩ := ho
  obtain ⟨hm1, hm2⟩ := hm
  have hB : base ≤ w0.heap.size := by have := hs.lt; omega
  obtain ⟨A, cp, rfl⟩ := hv.form
  obtain ⟨ln, hln⟩ : ∃ ln, l.length = ln := ⟨_, rfl⟩
  have HL := Lib.hid hln
  have HV := Lib.hid hv
  have HO := Lib.hid ho2
  have HM := Lib.hid hm2
  have HW := Lib.hid hw
  have HE : Hid ((cL cWorker).enc l = uv ln ++ l.flatMap (cWorker).enc) := by show _ = _; rw [← hln]; rfl
  have HLEN : Hid (xs.length + ((uv ln).length + (l.flatMap (cWorker).enc).length) + 10 ≤ 140737488355328) := by
    rw [HE.out] at hlen
    simp only [List.length_append] at hlen
    show _ ≤ _
    omega
  rw [hln] at ho1 hm1 ⊢
  have hln3 : ln ≤ 20000 := hm1
  obtain ⟨v1, hc1, hw1⟩ := hs
  have o0 : w0.cell? ⟨p, 0, none⟩ = some v1 := by rw [blk_cell hc1]; rfl
  have HC := Lib.hid (uint_any v1 xs ln w0 base (by omega) hw1 hB (by have := HLEN.out; omega))
  have HC1 := Lib.hid hc1
  have HO1 := Lib.hid hw1
  clear hv hln ho1 ho2 hm1 hm2 hlen hc1 hw1 hw
  go_enter Tryz.func28, Tryz.ntmps28
  go_wp2_with fail
  refine HC.out.mono ?_
  rintro e w2 ⟨v2, rfl, hown, hext⟩
  obtain ⟨A2, n2, c2, e2⟩ := hown.form
  subst e2
  obtain ⟨q1, q2, q3⟩ := WSt.store HC1.out HO1.out hown hext hb
  have e3 := blk_cell q1 0
  have e4 := blk_free q1 0
  simp at e3
  have HQ2 := Lib.hid q2
  have HQ3 := Lib.hid q3
  clear q1 q2 q3 hown hext o0 HC HC1 HO1
  go_wp2
  clear e3 e4
  go_loopw [7, 21] (fun _ i wr => ∃ (k : Nat), i = .int .i64 k ∧ k ≤ ln ∧ Hid (WSt p base wr (xs ++ uv ln ++ (l.take k).flatMap (cWorker).enc) (bad || !(cL cWorker).okt (l.take k))) ∧ Hid (Keep isWr base w0 wr)) (fun _ i _ => ln - (intOf i).toNat)
  case atStart => exact ⟨0, rfl, by omega, by show WSt _ _ _ _ _; simpa [cL] using HQ2.out, HQ3⟩
  case round =>
    obtain ⟨k, rfl, hk, HST, HK⟩ := hrel
    by_cases hk4 : k < ln
    · obtain ⟨x, hxk⟩ : ∃ n, l[k]? = some n := ⟨l[k]'(by rw [HL.out]; exact hk4), List.getElem?_eq_getElem _⟩
      have HTK := Lib.hid (show (l.take (k + 1)).flatMap (cWorker).enc = (l.take k).flatMap (cWorker).enc ++ (cWorker).enc x by rw [List.take_add_one, hxk]; simp)
      have HTB := Lib.hid (show (bad || !(cL cWorker).okt (l.take (k + 1))) = ((bad || !(cL cWorker).okt (l.take k)) || !(cWorker).okt x) by
        rw [List.take_add_one, hxk]
        show (bad || !(List.all (l.take k ++ [x]) (cWorker).okt)) = ((bad || !(List.all (l.take k) (cWorker).okt)) || !(cWorker).okt x)
        rw [List.all_append]
        simp [Bool.not_and, Bool.or_assoc])
      have hmem := List.mem_of_getElem? hxk
      have hox := Lib.hid (HO.out x hmem)
      have hmx := Lib.hid (HM.out x hmem)
      have hsz : Hid ((xs ++ uv ln ++ (l.take k).flatMap (cWorker).enc).length + ((cWorker).enc x).length + 10 ≤ 140737488355328) := by
        show _ ≤ _
        have h8 := HLEN.out
        have h9 : (l.flatMap (cWorker).enc).length = ((l.take (k + 1)).flatMap (cWorker).enc).length + ((l.drop (k + 1)).flatMap (cWorker).enc).length := by
          rw [← List.length_append, ← List.flatMap_append, List.take_append_drop]
        rw [HTK.out] at h9
        simp only [List.length_append] at h9 ⊢
        omega
      obtain ⟨b, o, us, rfl, hbb, hus, hrep⟩ := (HV.out.keep mWorker_law (HK.out.below hB)).at hxk
      clear hmem hxk
      obtain ⟨qn, qt⟩ := x
      have hrep0 := hrep
      obtain rfl := mWorker_form hrep
      have d0 := hus 0 _ rfl
      have d1 := hus 1 _ rfl
      rw [show mWorker.n = 2 from rfl] at d0 d1
      rw [Nat.add_zero] at d0
      have HSA := Lib.hid (HST.out.alloc (.cells #[.int .i64 qn, .int .i64 qt] 87))
      have HRA : Hid (mWorker.rep base (wr.alloc (.cells #[.int .i64 qn, .int .i64 qt] 87)) [.int .i64 qn, .int .i64 qt] (qn, qt)) := mWorker_law.keep hrep0 ((Below.refl _ _).alloc (by have := HK.out.size; omega) _)
      have HWr : Hid ((wr.alloc (.cells #[.int .i64 qn, .int .i64 qt] 87)).heap[wb]? = _) := blk_alloc (HK.out.blk HW.out rfl) _
      clear hus hrep hrep0
      go_wp2_with fail
      refine (wWorker_any p base wb (qn, qt) hox.out hmx.out _ _ _ (us := [.int .i64 qn, .int .i64 qt]) HRA.out HSA.out HWr.out hb hsz.out).mono ?_
      rintro e w3 ⟨rfl, hst, hk2⟩
      have HS2 := Lib.hid hst
      have HK2 := Lib.hid ((HK.out.alloc _).trans hk2)
      clear hst hk2
      go_wp2
      go_roundw
      case rel => exact ⟨k + 1, by go_num, by omega, by show WSt _ _ _ _ _; rw [HTK.out, HTB.out, ← List.append_assoc]; exact HS2.out, HK2.out⟩
      case measure => simp [intOf]; omega
    · obtain rfl : k = ln := by omega
      have HF : Hid (WSt p base wr (xs ++ (cL cWorker).enc l) (bad || !(cL cWorker).okt l)) := by
        have := HST.out
        rw [List.take_of_length_le (by rw [HL.out]; exact Nat.le_refl _), List.append_assoc, ← HE.out] at this
        exact this
      go_wp2
      exact bodyPost_ret (v := .tuple #[]) (by simp [results]) rfl ⟨rfl, HF.out, HK.out⟩
end Go.Proofs.YtckooioikcenmaaGreat

/- What writes a number of a list, and lists of numbers; how each kind of data lies. Conditions: sizes a machine can have. -/
import Derived.Test.YtckooioikcenmaaGreatCkM2
import Derived.Deep.MidRow
namespace Go.Proofs.YtckooioikcenmaaGreat
open Go.RowKit
theorem below_cells {B b : Nat} {a : World} (hb : B ≤ b) : ∀ (vs : List Value) (o : Nat) (w : World), Below B a w → Below B a (w.setCells b o vs)
  | [], _, _, h => h
  | v :: r, o, w, h => below_cells hb r (o + 1) (w.setCell ⟨b, o, none⟩ v) (h.setCell hb v)
theorem there_new (w : World) (Z : Array Value) (T : TypeId) (n : Nat) (hz : Z.size = n) : (w.alloc (.cells Z T)).there w.heap.size 0 n := fun j hj => by
  have h := alloc_at w (.cells Z T)
  rw [Nat.zero_add]
  refine ⟨?_, blk_free h j⟩
  rw [blk_cell h, Array.getElem?_eq_getElem (by omega)]
  rfl
theorem bad0 (b : Bool) : b = (b || !true) := by cases b <;> rfl
theorem bad1 (b t : Bool) : (b || !t) = (b || !t) := rfl
theorem bad2 (b t u : Bool) : (b || !t || !u) = (b || !(t && u)) := by cases b <;> cases t <;> cases u <;> rfl
theorem bad3 (b t u v : Bool) : (b || !t || !u || !v) = (b || !(t && u && v)) := by cases b <;> cases t <;> cases u <;> cases v <;> rfl
theorem bad4 (b t u v x : Bool) : (b || !t || !u || !v || !x) = (b || !(t && u && v && x)) := by cases b <;> cases t <;> cases u <;> cases v <;> cases x <;> rfl
theorem bad5 (b t u v x y : Bool) : (b || !t || !u || !v || !x || !y) = (b || !(t && u && v && x && y)) := by cases b <;> cases t <;> cases u <;> cases v <;> cases x <;> cases y <;> rfl
set_option maxRecDepth 20000 in
set_option maxHeartbeats 1000000 in
theorem wInt_any (p base wb : Nat) (x : Int) (ho : cI.okr x) (_hm : cI.sm x) (xs : List UInt8) (bad : Bool) (w : World) (hs : WSt p base w xs bad) (hw : w.heap[wb]? = some (.cells #[.pointer (some ⟨p, 0, none⟩)] 68)) (hb : base ≤ p) (hlen : xs.length + (cI.enc x).length + 10 ≤ 140737488355328) :
    Calls Tryz.prog 97 #[.int .i64 x, .pointer (some ⟨wb, 0, none⟩)] w (WPost p base w (xs ++ cI.enc x) (bad || !cI.okt x)) := by
  have HE : Hid (cI.enc x = ([x].flatMap iv)) := by show _ = _; simp [cI]
  have HT : Hid (cI.okt x = (true)) := by show _ = _; rfl
  have HLEN : Hid (xs.length + (([x].flatMap iv).length) + 10 ≤ 140737488355328) := by
    rw [HE.out] at hlen
    show _ ≤ _
    omega
  have hB : base ≤ w.heap.size := by have := hs.lt; omega
  have HW0 := Lib.hid hw
  have HS0 := Lib.hid hs
  have HK0 : Hid (Keep isWr base w w) := Keep.refl _ _ _
  clear hw hs hlen
  go_enter Tryz.func97, Tryz.ntmps97
  have w0 := blk_cell HW0.out 0
  simp at w0
  have HSA := Lib.hid (HS0.out.alloc (.cells #[.int .i64 x] 3))
  have HEL : Hid (ElemsAt (World.alloc w (.cells #[.int .i64 x] 3)) (World.heap w).size 3 [.int .i64 x]) := elems_alloc _ _ _
  go_wp2_with fail
  refine (ints_any p base _ [x] 1 rfl _ _ _ HSA.out HEL.out (all1 ho) hb (by omega) (by have := HLEN.out; omega)).mono ?_
  rintro e y1 ⟨rfl, hst, hk⟩
  have HS1 := Lib.hid hst
  have HW1 := Lib.hid (hk.blk (blk_alloc (HW0.out) _) rfl)
  have HK1 := Lib.hid ((HK0.out.alloc _).trans hk)
  clear hst hk w0 HSA HEL HS0 HK0 HW0
  have HF := Lib.hid (HS1.out.cast (xs' := xs ++ cI.enc x) (bad' := bad || !cI.okt x) (by rw [HE.out]) (by rw [HT.out]; exact bad0 _))
  go_wp2
  exact bodyPost_ret (v := .tuple #[]) (by simp [results]) rfl ⟨rfl, HF.out, HK1.out⟩
set_option maxRecDepth 20000 in
set_option maxHeartbeats 1000000 in
theorem wNum_any (p base wb : Nat) (x : Int) (ho : cI.okr x) (_hm : cI.sm x) (xs : List UInt8) (bad : Bool) (w : World) (hs : WSt p base w xs bad) (hw : w.heap[wb]? = some (.cells #[.pointer (some ⟨p, 0, none⟩)] 68)) (hb : base ≤ p) (hlen : xs.length + (cI.enc x).length + 10 ≤ 140737488355328) :
    Calls Tryz.prog 101 #[.int .i64 x, .pointer (some ⟨wb, 0, none⟩)] w (WPost p base w (xs ++ cI.enc x) (bad || !cI.okt x)) := by
  have HE : Hid (cI.enc x = ([x].flatMap iv)) := by show _ = _; simp [cI]
  have HT : Hid (cI.okt x = (true)) := by show _ = _; rfl
  have HLEN : Hid (xs.length + (([x].flatMap iv).length) + 10 ≤ 140737488355328) := by
    rw [HE.out] at hlen
    show _ ≤ _
    omega
  have hB : base ≤ w.heap.size := by have := hs.lt; omega
  have HW0 := Lib.hid hw
  have HS0 := Lib.hid hs
  have HK0 : Hid (Keep isWr base w w) := Keep.refl _ _ _
  clear hw hs hlen
  go_enter Tryz.func101, Tryz.ntmps101
  have w0 := blk_cell HW0.out 0
  simp at w0
  have HSA := Lib.hid (HS0.out.alloc (.cells #[.int .i64 x] 2))
  have HEL : Hid (ElemsAt (World.alloc w (.cells #[.int .i64 x] 2)) (World.heap w).size 2 [.int .i64 x]) := elems_alloc _ _ _
  go_wp2_with fail
  refine (numbers_any p base _ [x] 1 rfl _ _ _ HSA.out HEL.out (all1 ho) hb (by omega) (by have := HLEN.out; omega)).mono ?_
  rintro e y1 ⟨rfl, hst, hk⟩
  have HS1 := Lib.hid hst
  have HW1 := Lib.hid (hk.blk (blk_alloc (HW0.out) _) rfl)
  have HK1 := Lib.hid ((HK0.out.alloc _).trans hk)
  clear hst hk w0 HSA HEL HS0 HK0 HW0
  have HF := Lib.hid (HS1.out.cast (xs' := xs ++ cI.enc x) (bad' := bad || !cI.okt x) (by rw [HE.out]) (by rw [HT.out]; exact bad0 _))
  go_wp2
  exact bodyPost_ret (v := .tuple #[]) (by simp [results]) rfl ⟨rfl, HF.out, HK1.out⟩
set_option maxRecDepth 20000 in
set_option maxHeartbeats 1000000 in
theorem lInt_any (p base wb : Nat) (v : Value) (l : List Int) {w0 : World} (hv : LRep mI base w0 v l) (ho : (cL cI).okr l) (hm : (cL cI).sm l) (xs : List UInt8) (bad : Bool) (hs : WSt p base w0 xs bad) (hw : w0.heap[wb]? = some (.cells #[.pointer (some ⟨p, 0, none⟩)] 68)) (hb : base ≤ p) (hlen : xs.length + ((cL cI).enc l).length + 10 ≤ 140737488355328) :
    Calls Tryz.prog 96 #[.pointer (some ⟨p, 0, none⟩), v, .func (.func 97) #[] #[.pointer (some ⟨wb, 0, none⟩)]] w0 (WPost p base w0 (xs ++ (cL cI).enc l) (bad || !(cL cI).okt l)) := by
  obtain ⟨ho1, ho2⟩ := ho
  obtain ⟨hm1, hm2⟩ := hm
  have hB : base ≤ w0.heap.size := by have := hs.lt; omega
  obtain ⟨A, cp, rfl⟩ := hv.form
  obtain ⟨ln, hln⟩ : ∃ ln, l.length = ln := ⟨_, rfl⟩
  have HL := Lib.hid hln
  have HV := Lib.hid hv
  have HO := Lib.hid ho2
  have HM := Lib.hid hm2
  have HW := Lib.hid hw
  have HE : Hid ((cL cI).enc l = uv ln ++ l.flatMap (cI).enc) := by show _ = _; rw [← hln]; rfl
  have HLEN : Hid (xs.length + ((uv ln).length + (l.flatMap (cI).enc).length) + 10 ≤ 140737488355328) := by
    rw [HE.out] at hlen
    simp only [List.length_append] at hlen
    show _ ≤ _
    omega
  rw [hln] at ho1 hm1 ⊢
  have hln3 : ln ≤ 20000 := hm1
  obtain ⟨v1, hc1, hw1⟩ := hs
  have o0 : w0.cell? ⟨p, 0, none⟩ = some v1 := by rw [blk_cell hc1]; rfl
  have HC := Lib.hid (uint_any v1 xs ln w0 base (by omega) hw1 hB (by have := HLEN.out; omega))
  have HC1 := Lib.hid hc1
  have HO1 := Lib.hid hw1
  clear hv hln ho1 ho2 hm1 hm2 hlen hc1 hw1 hw
  go_enter Tryz.func96, Tryz.ntmps96
  go_wp2_with fail
  refine HC.out.mono ?_
  rintro e w2 ⟨v2, rfl, hown, hext⟩
  obtain ⟨A2, n2, c2, e2⟩ := hown.form
  subst e2
  obtain ⟨q1, q2, q3⟩ := WSt.store HC1.out HO1.out hown hext hb
  have e3 := blk_cell q1 0
  have e4 := blk_free q1 0
  simp at e3
  have HQ2 := Lib.hid q2
  have HQ3 := Lib.hid q3
  clear q1 q2 q3 hown hext o0 HC HC1 HO1
  go_wp2
  clear e3 e4
  go_loopw [7, 21] (fun _ i wr => ∃ (k : Nat), i = .int .i64 k ∧ k ≤ ln ∧ Hid (WSt p base wr (xs ++ uv ln ++ (l.take k).flatMap (cI).enc) (bad || !(cL cI).okt (l.take k))) ∧ Hid (Keep isWr base w0 wr)) (fun _ i _ => ln - (intOf i).toNat)
  case atStart => exact ⟨0, rfl, by omega, by show WSt _ _ _ _ _; simpa [cL] using HQ2.out, HQ3⟩
  case round =>
    obtain ⟨k, rfl, hk, HST, HK⟩ := hrel
    by_cases hk4 : k < ln
    · obtain ⟨x, hxk⟩ : ∃ n, l[k]? = some n := ⟨l[k]'(by rw [HL.out]; exact hk4), List.getElem?_eq_getElem _⟩
      have HTK := Lib.hid (show (l.take (k + 1)).flatMap (cI).enc = (l.take k).flatMap (cI).enc ++ (cI).enc x by rw [List.take_add_one, hxk]; simp)
      have HTB := Lib.hid (show (bad || !(cL cI).okt (l.take (k + 1))) = ((bad || !(cL cI).okt (l.take k)) || !(cI).okt x) by
        rw [List.take_add_one, hxk]
        show (bad || !(List.all (l.take k ++ [x]) (cI).okt)) = ((bad || !(List.all (l.take k) (cI).okt)) || !(cI).okt x)
        rw [List.all_append]
        simp [Bool.not_and, Bool.or_assoc])
      have hmem := List.mem_of_getElem? hxk
      have hox := Lib.hid (HO.out x hmem)
      have hmx := Lib.hid (HM.out x hmem)
      have hsz : Hid ((xs ++ uv ln ++ (l.take k).flatMap (cI).enc).length + ((cI).enc x).length + 10 ≤ 140737488355328) := by
        show _ ≤ _
        have h8 := HLEN.out
        have h9 : (l.flatMap (cI).enc).length = ((l.take (k + 1)).flatMap (cI).enc).length + ((l.drop (k + 1)).flatMap (cI).enc).length := by
          rw [← List.length_append, ← List.flatMap_append, List.take_append_drop]
        rw [HTK.out] at h9
        simp only [List.length_append] at h9 ⊢
        omega
      obtain ⟨b, o, us, rfl, hbb, hus, hrep⟩ := (HV.out.keep mI_law (HK.out.below hB)).at hxk
      clear hmem hxk
      have hus' : us = [.int .i64 x] := hrep
      subst hus'
      have d0 := hus 0 _ rfl
      rw [show k * mI.n = k from Nat.mul_one k, Nat.add_zero] at d0
      clear hus hrep
      have HWr := Lib.hid (HK.out.blk HW.out rfl)
      go_wp2_with fail
      refine (wInt_any p base wb x hox.out hmx.out _ _ _ HST.out HWr.out hb hsz.out).mono ?_
      rintro e w3 ⟨rfl, hst, hk2⟩
      have HS2 := Lib.hid hst
      have HK2 := Lib.hid (HK.out.trans hk2)
      clear hst hk2
      go_wp2
      go_roundw
      case rel => exact ⟨k + 1, by go_num, by omega, by show WSt _ _ _ _ _; rw [HTK.out, HTB.out, ← List.append_assoc]; exact HS2.out, HK2.out⟩
      case measure => simp [intOf]; omega
    · obtain rfl : k = ln := by omega
      have HF : Hid (WSt p base wr (xs ++ (cL cI).enc l) (bad || !(cL cI).okt l)) := by
        have := HST.out
        rw [List.take_of_length_le (by rw [HL.out]; exact Nat.le_refl _), List.append_assoc, ← HE.out] at this
        exact this
      go_wp2
      exact bodyPost_ret (v := .tuple #[]) (by simp [results]) rfl ⟨rfl, HF.out, HK.out⟩
set_option maxRecDepth 20000 in
set_option maxHeartbeats 1000000 in
theorem lNum_any (p base wb : Nat) (v : Value) (l : List Int) {w0 : World} (hv : LRep mI base w0 v l) (ho : (cL cI).okr l) (hm : (cL cI).sm l) (xs : List UInt8) (bad : Bool) (hs : WSt p base w0 xs bad) (hw : w0.heap[wb]? = some (.cells #[.pointer (some ⟨p, 0, none⟩)] 68)) (hb : base ≤ p) (hlen : xs.length + ((cL cI).enc l).length + 10 ≤ 140737488355328) :
    Calls Tryz.prog 100 #[.pointer (some ⟨p, 0, none⟩), v, .func (.func 101) #[] #[.pointer (some ⟨wb, 0, none⟩)]] w0 (WPost p base w0 (xs ++ (cL cI).enc l) (bad || !(cL cI).okt l)) := by
  obtain ⟨ho1, ho2⟩ := ho
  obtain ⟨hm1, hm2⟩ := hm
  have hB : base ≤ w0.heap.size := by have := hs.lt; omega
  obtain ⟨A, cp, rfl⟩ := hv.form
  obtain ⟨ln, hln⟩ : ∃ ln, l.length = ln := ⟨_, rfl⟩
  have HL := Lib.hid hln
  have HV := Lib.hid hv
  have HO := Lib.hid ho2
  have HM := Lib.hid hm2
  have HW := Lib.hid hw
  have HE : Hid ((cL cI).enc l = uv ln ++ l.flatMap (cI).enc) := by show _ = _; rw [← hln]; rfl
  have HLEN : Hid (xs.length + ((uv ln).length + (l.flatMap (cI).enc).length) + 10 ≤ 140737488355328) := by
    rw [HE.out] at hlen
    simp only [List.length_append] at hlen
    show _ ≤ _
    omega
  rw [hln] at ho1 hm1 ⊢
  have hln3 : ln ≤ 20000 := hm1
  obtain ⟨v1, hc1, hw1⟩ := hs
  have o0 : w0.cell? ⟨p, 0, none⟩ = some v1 := by rw [blk_cell hc1]; rfl
  have HC := Lib.hid (uint_any v1 xs ln w0 base (by omega) hw1 hB (by have := HLEN.out; omega))
  have HC1 := Lib.hid hc1
  have HO1 := Lib.hid hw1
  clear hv hln ho1 ho2 hm1 hm2 hlen hc1 hw1 hw
  go_enter Tryz.func100, Tryz.ntmps100
  go_wp2_with fail
  refine HC.out.mono ?_
  rintro e w2 ⟨v2, rfl, hown, hext⟩
  obtain ⟨A2, n2, c2, e2⟩ := hown.form
  subst e2
  obtain ⟨q1, q2, q3⟩ := WSt.store HC1.out HO1.out hown hext hb
  have e3 := blk_cell q1 0
  have e4 := blk_free q1 0
  simp at e3
  have HQ2 := Lib.hid q2
  have HQ3 := Lib.hid q3
  clear q1 q2 q3 hown hext o0 HC HC1 HO1
  go_wp2
  clear e3 e4
  go_loopw [7, 21] (fun _ i wr => ∃ (k : Nat), i = .int .i64 k ∧ k ≤ ln ∧ Hid (WSt p base wr (xs ++ uv ln ++ (l.take k).flatMap (cI).enc) (bad || !(cL cI).okt (l.take k))) ∧ Hid (Keep isWr base w0 wr)) (fun _ i _ => ln - (intOf i).toNat)
  case atStart => exact ⟨0, rfl, by omega, by show WSt _ _ _ _ _; simpa [cL] using HQ2.out, HQ3⟩
  case round =>
    obtain ⟨k, rfl, hk, HST, HK⟩ := hrel
    by_cases hk4 : k < ln
    · obtain ⟨x, hxk⟩ : ∃ n, l[k]? = some n := ⟨l[k]'(by rw [HL.out]; exact hk4), List.getElem?_eq_getElem _⟩
      have HTK := Lib.hid (show (l.take (k + 1)).flatMap (cI).enc = (l.take k).flatMap (cI).enc ++ (cI).enc x by rw [List.take_add_one, hxk]; simp)
      have HTB := Lib.hid (show (bad || !(cL cI).okt (l.take (k + 1))) = ((bad || !(cL cI).okt (l.take k)) || !(cI).okt x) by
        rw [List.take_add_one, hxk]
        show (bad || !(List.all (l.take k ++ [x]) (cI).okt)) = ((bad || !(List.all (l.take k) (cI).okt)) || !(cI).okt x)
        rw [List.all_append]
        simp [Bool.not_and, Bool.or_assoc])
      have hmem := List.mem_of_getElem? hxk
      have hox := Lib.hid (HO.out x hmem)
      have hmx := Lib.hid (HM.out x hmem)
      have hsz : Hid ((xs ++ uv ln ++ (l.take k).flatMap (cI).enc).length + ((cI).enc x).length + 10 ≤ 140737488355328) := by
        show _ ≤ _
        have h8 := HLEN.out
        have h9 : (l.flatMap (cI).enc).length = ((l.take (k + 1)).flatMap (cI).enc).length + ((l.drop (k + 1)).flatMap (cI).enc).length := by
          rw [← List.length_append, ← List.flatMap_append, List.take_append_drop]
        rw [HTK.out] at h9
        simp only [List.length_append] at h9 ⊢
        omega
      obtain ⟨b, o, us, rfl, hbb, hus, hrep⟩ := (HV.out.keep mI_law (HK.out.below hB)).at hxk
      clear hmem hxk
      have hus' : us = [.int .i64 x] := hrep
      subst hus'
      have d0 := hus 0 _ rfl
      rw [show k * mI.n = k from Nat.mul_one k, Nat.add_zero] at d0
      clear hus hrep
      have HWr := Lib.hid (HK.out.blk HW.out rfl)
      go_wp2_with fail
      refine (wNum_any p base wb x hox.out hmx.out _ _ _ HST.out HWr.out hb hsz.out).mono ?_
      rintro e w3 ⟨rfl, hst, hk2⟩
      have HS2 := Lib.hid hst
      have HK2 := Lib.hid (HK.out.trans hk2)
      clear hst hk2
      go_wp2
      go_roundw
      case rel => exact ⟨k + 1, by go_num, by omega, by show WSt _ _ _ _ _; rw [HTK.out, HTB.out, ← List.append_assoc]; exact HS2.out, HK2.out⟩
      case measure => simp [intOf]; omega
    · obtain rfl : k = ln := by omega
      have HF : Hid (WSt p base wr (xs ++ (cL cI).enc l) (bad || !(cL cI).okt l)) := by
        have := HST.out
        rw [List.take_of_length_le (by rw [HL.out]; exact Nat.le_refl _), List.append_assoc, ← HE.out] at this
        exact this
      go_wp2
      exact bodyPost_ret (v := .tuple #[]) (by simp [results]) rfl ⟨rfl, HF.out, HK.out⟩
theorem mCmd_form {B : Nat} {w : World} {us : List Value} {qn qk qs qa qp : _} (hyp : mCmd.rep B w us (qn, qk, qs, qa, qp)) : us = [.int .i64 qn, .int .u8 qk, .string qs, .int .i64 qa, .int .i64 qp] := by
  obtain ⟨u0, r0, rfl, h0, u1, r1, rfl, h1, u2, r2, rfl, h2, u3, u4, rfl, h3, h4⟩ := hyp
  have g0 : u0 = [.int .i64 qn] := h0
  subst g0
  have g1 : u1 = [.int .u8 qk] := h1
  subst g1
  have g2 : u2 = [.string qs] := h2
  subst g2
  have g3 : u3 = [.int .i64 qa] := h3
  subst g3
  have g4 : u4 = [.int .i64 qp] := h4
  subst g4
  exact rfl
theorem mKnown_form {B : Nat} {w : World} {us : List Value} {qn qt qv : _} (hyp : mKnown.rep B w us (qn, qt, qv)) : us = [.int .i64 qn, .int .i64 qt, .int .i64 qv] := by
  obtain ⟨u0, r0, rfl, h0, u1, u2, rfl, h1, h2⟩ := hyp
  have g0 : u0 = [.int .i64 qn] := h0
  subst g0
  have g1 : u1 = [.int .i64 qt] := h1
  subst g1
  have g2 : u2 = [.int .i64 qv] := h2
  subst g2
  exact rfl
theorem mSleep_form {B : Nat} {w : World} {us : List Value} {qn qd : _} (hyp : mSleep.rep B w us (qn, qd)) : us = [.int .i64 qn, .int .i64 qd] := by
  obtain ⟨u0, u1, rfl, h0, h1⟩ := hyp
  have g0 : u0 = [.int .i64 qn] := h0
  subst g0
  have g1 : u1 = [.int .i64 qd] := h1
  subst g1
  exact rfl
theorem mTurn_form {B : Nat} {w : World} {us : List Value} {qs qn ql : _} (hyp : mTurn.rep B w us (qs, qn, ql)) : us = [.string qs, .int .i64 qn, .int .i64 ql] := by
  obtain ⟨u0, r0, rfl, h0, u1, u2, rfl, h1, h2⟩ := hyp
  have g0 : u0 = [.string qs] := h0
  subst g0
  have g1 : u1 = [.int .i64 qn] := h1
  subst g1
  have g2 : u2 = [.int .i64 ql] := h2
  subst g2
  exact rfl
theorem mItem_form {B : Nat} {w : World} {us : List Value} {qn qc : _} (hyp : mItem.rep B w us (qn, qc)) : us = [.int .i64 qn, .int .i64 qc] := by
  obtain ⟨u0, u1, rfl, h0, h1⟩ := hyp
  have g0 : u0 = [.int .i64 qn] := h0
  subst g0
  have g1 : u1 = [.int .i64 qc] := h1
  subst g1
  exact rfl
theorem mJob_form {B : Nat} {w : World} {us : List Value} {qn qs qk : _} (hyp : mJob.rep B w us (qn, qs, qk)) : us = [.int .i64 qn, .string qs, .int .i64 qk] := by
  obtain ⟨u0, r0, rfl, h0, u1, u2, rfl, h1, h2⟩ := hyp
  have g0 : u0 = [.int .i64 qn] := h0
  subst g0
  have g1 : u1 = [.string qs] := h1
  subst g1
  have g2 : u2 = [.int .i64 qk] := h2
  subst g2
  exact rfl
theorem mWorker_form {B : Nat} {w : World} {us : List Value} {qn qt : _} (hyp : mWorker.rep B w us (qn, qt)) : us = [.int .i64 qn, .int .i64 qt] := by
  obtain ⟨u0, u1, rfl, h0, h1⟩ := hyp
  have g0 : u0 = [.int .i64 qn] := h0
  subst g0
  have g1 : u1 = [.int .i64 qt] := h1
  subst g1
  exact rfl
theorem mTask_form {B : Nat} {w : World} {us : List Value} {qa qb qc qd qe qf qg qh qi qj : _} (hyp : mTask.rep B w us (qa, qb, qc, qd, qe, qf, qg, qh, qi, qj)) : us = [.int .i64 qa, .int .i64 qb, .int .u8 qc, .int .i64 qd, .int .i64 qe, .int .i64 qf, .int .i64 qg, .int .i64 qh, .int .i64 qi, .int .i64 qj] := by
  obtain ⟨u0, r0, rfl, h0, u1, r1, rfl, h1, u2, r2, rfl, h2, u3, r3, rfl, h3, u4, r4, rfl, h4, u5, r5, rfl, h5, u6, r6, rfl, h6, u7, r7, rfl, h7, u8, u9, rfl, h8, h9⟩ := hyp
  have g0 : u0 = [.int .i64 qa] := h0
  subst g0
  have g1 : u1 = [.int .i64 qb] := h1
  subst g1
  have g2 : u2 = [.int .u8 qc] := h2
  subst g2
  have g3 : u3 = [.int .i64 qd] := h3
  subst g3
  have g4 : u4 = [.int .i64 qe] := h4
  subst g4
  have g5 : u5 = [.int .i64 qf] := h5
  subst g5
  have g6 : u6 = [.int .i64 qg] := h6
  subst g6
  have g7 : u7 = [.int .i64 qh] := h7
  subst g7
  have g8 : u8 = [.int .i64 qi] := h8
  subst g8
  have g9 : u9 = [.int .i64 qj] := h9
  subst g9
  exact rfl
theorem mAct_form {B : Nat} {w : World} {us : List Value} {qn qt_qa qt_qb qt_qc qt_qd qt_qe qt_qf qt_qg qt_qh qt_qi qt_qj : _} (hyp : mAct.rep B w us (qn, (qt_qa, qt_qb, qt_qc, qt_qd, qt_qe, qt_qf, qt_qg, qt_qh, qt_qi, qt_qj))) : us = [.int .i64 qn, .int .i64 qt_qa, .int .i64 qt_qb, .int .u8 qt_qc, .int .i64 qt_qd, .int .i64 qt_qe, .int .i64 qt_qf, .int .i64 qt_qg, .int .i64 qt_qh, .int .i64 qt_qi, .int .i64 qt_qj] ∧ mTask.rep B w [.int .i64 qt_qa, .int .i64 qt_qb, .int .u8 qt_qc, .int .i64 qt_qd, .int .i64 qt_qe, .int .i64 qt_qf, .int .i64 qt_qg, .int .i64 qt_qh, .int .i64 qt_qi, .int .i64 qt_qj] (qt_qa, qt_qb, qt_qc, qt_qd, qt_qe, qt_qf, qt_qg, qt_qh, qt_qi, qt_qj) := by
  obtain ⟨u0, u1, rfl, h0, h1⟩ := hyp
  have g0 : u0 = [.int .i64 qn] := h0
  subst g0
  have s1 := h1
  obtain rfl := mTask_form h1
  exact ⟨rfl, s1⟩
theorem mHist_form {B : Nat} {w : World} {us : List Value} {qp qa qcs qts qks qss qst qcl qo qov qln qla : _} (hyp : mHist.rep B w us (qp, qa, qcs, qts, qks, qss, qst, qcl, qo, qov, qln, qla)) : ∃ vqcs vqts vqks vqss, us = [.string qp, .int .i64 qa, vqcs, vqts, vqks, vqss, .bool qst, .bool qcl, .int .i64 qo, .int .i64 qov, .int .i64 qln, .int .i64 qla] ∧ LRep mCmd B w vqcs qcs ∧ LRep mI B w vqts qts ∧ LRep mKnown B w vqks qks ∧ LRep mI B w vqss qss := by
  obtain ⟨u0, r0, rfl, h0, u1, r1, rfl, h1, u2, r2, rfl, h2, u3, r3, rfl, h3, u4, r4, rfl, h4, u5, r5, rfl, h5, u6, r6, rfl, h6, u7, r7, rfl, h7, u8, r8, rfl, h8, u9, r9, rfl, h9, u10, u11, rfl, h10, h11⟩ := hyp
  have g0 : u0 = [.string qp] := h0
  subst g0
  have g1 : u1 = [.int .i64 qa] := h1
  subst g1
  obtain ⟨vqcs, g2, l2⟩ := h2
  subst g2
  obtain ⟨vqts, g3, l3⟩ := h3
  subst g3
  obtain ⟨vqks, g4, l4⟩ := h4
  subst g4
  obtain ⟨vqss, g5, l5⟩ := h5
  subst g5
  have g6 : u6 = [.bool qst] := h6
  subst g6
  have g7 : u7 = [.bool qcl] := h7
  subst g7
  have g8 : u8 = [.int .i64 qo] := h8
  subst g8
  have g9 : u9 = [.int .i64 qov] := h9
  subst g9
  have g10 : u10 = [.int .i64 qln] := h10
  subst g10
  have g11 : u11 = [.int .i64 qla] := h11
  subst g11
  exact ⟨vqcs, vqts, vqks, vqss, rfl, l2, l3, l4, l5⟩
theorem mLine_form {B : Nat} {w : World} {us : List Value} {qs qn ql : _} (hyp : mLine.rep B w us (qs, qn, ql)) : ∃ vql, us = [.string qs, .int .i64 qn, vql] ∧ LRep mItem B w vql ql := by
  obtain ⟨u0, r0, rfl, h0, u1, u2, rfl, h1, h2⟩ := hyp
  have g0 : u0 = [.string qs] := h0
  subst g0
  have g1 : u1 = [.int .i64 qn] := h1
  subst g1
  obtain ⟨vql, g2, l2⟩ := h2
  subst g2
  exact ⟨vql, rfl, l2⟩
theorem mDesk_form {B : Nat} {w : World} {us : List Value} {qq qqs qat qhad qls : _} (hyp : mDesk.rep B w us (qq, qqs, qat, qhad, qls)) : ∃ vqqs vqls, us = [.int .i64 qq, vqqs, .int .i64 qat, .bool qhad, vqls] ∧ LRep mTurn B w vqqs qqs ∧ LRep mLine B w vqls qls := by
  obtain ⟨u0, r0, rfl, h0, u1, r1, rfl, h1, u2, r2, rfl, h2, u3, u4, rfl, h3, h4⟩ := hyp
  have g0 : u0 = [.int .i64 qq] := h0
  subst g0
  obtain ⟨vqqs, g1, l1⟩ := h1
  subst g1
  have g2 : u2 = [.int .i64 qat] := h2
  subst g2
  have g3 : u3 = [.bool qhad] := h3
  subst g3
  obtain ⟨vqls, g4, l4⟩ := h4
  subst g4
  exact ⟨vqqs, vqls, rfl, l1, l4⟩
theorem mRec_form {B : Nat} {w : World} {us : List Value} {qi qq qh_qp qh_qa qh_qcs qh_qts qh_qks qh_qss qh_qst qh_qcl qh_qo qh_qov qh_qln qh_qla qas qsl qpa qn : _} (hyp : mRec.rep B w us (qi, qq, qpa, qn, (qh_qp, qh_qa, qh_qcs, qh_qts, qh_qks, qh_qss, qh_qst, qh_qcl, qh_qo, qh_qov, qh_qln, qh_qla), qas, qsl)) : ∃ vqh_qcs vqh_qts vqh_qks vqh_qss vqas vqsl, us = [.string qi, .string qq, .string qh_qp, .int .i64 qh_qa, vqh_qcs, vqh_qts, vqh_qks, vqh_qss, .bool qh_qst, .bool qh_qcl, .int .i64 qh_qo, .int .i64 qh_qov, .int .i64 qh_qln, .int .i64 qh_qla, vqas, vqsl, .string qpa, .int .i64 qn] ∧ LRep mCmd B w vqh_qcs qh_qcs ∧ LRep mI B w vqh_qts qh_qts ∧ LRep mKnown B w vqh_qks qh_qks ∧ LRep mI B w vqh_qss qh_qss ∧ LRep mAct B w vqas qas ∧ LRep mSleep B w vqsl qsl ∧ mHist.rep B w [.string qh_qp, .int .i64 qh_qa, vqh_qcs, vqh_qts, vqh_qks, vqh_qss, .bool qh_qst, .bool qh_qcl, .int .i64 qh_qo, .int .i64 qh_qov, .int .i64 qh_qln, .int .i64 qh_qla] (qh_qp, qh_qa, qh_qcs, qh_qts, qh_qks, qh_qss, qh_qst, qh_qcl, qh_qo, qh_qov, qh_qln, qh_qla) := by
  obtain ⟨u0, r0, rfl, h0, u1, r1, rfl, h1, u2, r2, rfl, h2, u3, r3, rfl, h3, u4, r4, rfl, h4, u5, u6, rfl, h5, h6⟩ := hyp
  have g0 : u0 = [.string qi] := h0
  subst g0
  have g1 : u1 = [.string qq] := h1
  subst g1
  have s2 := h2
  obtain ⟨vqh_qcs, vqh_qts, vqh_qks, vqh_qss, rfl, l2_qcs, l2_qts, l2_qks, l2_qss⟩ := mHist_form h2
  obtain ⟨vqas, g3, l3⟩ := h3
  subst g3
  obtain ⟨vqsl, g4, l4⟩ := h4
  subst g4
  have g5 : u5 = [.string qpa] := h5
  subst g5
  have g6 : u6 = [.int .i64 qn] := h6
  subst g6
  exact ⟨vqh_qcs, vqh_qts, vqh_qks, vqh_qss, vqas, vqsl, rfl, l2_qcs, l2_qts, l2_qks, l2_qss, l3, l4, s2⟩
theorem mShop_form {B : Nat} {w : World} {us : List Value} {qnow qrs qd_qq qd_qqs qd_qat qd_qhad qd_qls qjs qla qws qdr : _} (hyp : mShop.rep B w us (qnow, qrs, (qd_qq, qd_qqs, qd_qat, qd_qhad, qd_qls), qjs, qla, qws, qdr)) : ∃ vqrs vqd_qqs vqd_qls vqjs vqws, us = [.int .i64 qnow, vqrs, .int .i64 qd_qq, vqd_qqs, .int .i64 qd_qat, .bool qd_qhad, vqd_qls, vqjs, .int .i64 qla, vqws, .bool qdr] ∧ LRep mRec B w vqrs qrs ∧ LRep mTurn B w vqd_qqs qd_qqs ∧ LRep mLine B w vqd_qls qd_qls ∧ LRep mJob B w vqjs qjs ∧ LRep mWorker B w vqws qws ∧ mDesk.rep B w [.int .i64 qd_qq, vqd_qqs, .int .i64 qd_qat, .bool qd_qhad, vqd_qls] (qd_qq, qd_qqs, qd_qat, qd_qhad, qd_qls) := by
  obtain ⟨u0, r0, rfl, h0, u1, r1, rfl, h1, u2, r2, rfl, h2, u3, r3, rfl, h3, u4, r4, rfl, h4, u5, u6, rfl, h5, h6⟩ := hyp
  have g0 : u0 = [.int .i64 qnow] := h0
  subst g0
  obtain ⟨vqrs, g1, l1⟩ := h1
  subst g1
  have s2 := h2
  obtain ⟨vqd_qqs, vqd_qls, rfl, l2_qqs, l2_qls⟩ := mDesk_form h2
  obtain ⟨vqjs, g3, l3⟩ := h3
  subst g3
  have g4 : u4 = [.int .i64 qla] := h4
  subst g4
  obtain ⟨vqws, g5, l5⟩ := h5
  subst g5
  have g6 : u6 = [.bool qdr] := h6
  subst g6
  exact ⟨vqrs, vqd_qqs, vqd_qls, vqjs, vqws, rfl, l1, l2_qqs, l2_qls, l3, l5, s2⟩
theorem mOp_form {B : Nat} {w : World} {us : List Value} {qdo qi qq qp qt qa qj qs qw qm : _} (hyp : mOp.rep B w us (qdo, qi, qq, qp, qt, qa, qj, qs, qw, qm)) : us = [.int .u8 qdo, .string qi, .string qq, .string qp, .string qt, .int .i64 qa, .int .i64 qj, .int .i64 qs, .int .i64 qw, .int .i64 qm] := by
  obtain ⟨u0, r0, rfl, h0, u1, r1, rfl, h1, u2, r2, rfl, h2, u3, r3, rfl, h3, u4, r4, rfl, h4, u5, r5, rfl, h5, u6, r6, rfl, h6, u7, r7, rfl, h7, u8, u9, rfl, h8, h9⟩ := hyp
  have g0 : u0 = [.int .u8 qdo] := h0
  subst g0
  have g1 : u1 = [.string qi] := h1
  subst g1
  have g2 : u2 = [.string qq] := h2
  subst g2
  have g3 : u3 = [.string qp] := h3
  subst g3
  have g4 : u4 = [.string qt] := h4
  subst g4
  have g5 : u5 = [.int .i64 qa] := h5
  subst g5
  have g6 : u6 = [.int .i64 qj] := h6
  subst g6
  have g7 : u7 = [.int .i64 qs] := h7
  subst g7
  have g8 : u8 = [.int .i64 qw] := h8
  subst g8
  have g9 : u9 = [.int .i64 qm] := h9
  subst g9
  exact rfl
end Go.Proofs.YtckooioikcenmaaGreat

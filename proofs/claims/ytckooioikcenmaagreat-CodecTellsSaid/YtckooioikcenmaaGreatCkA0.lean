/- awake: the chapter's examples hold. Conditions: none. -/
import Derived.Test.YtckooioikcenmaaGreatCkS10
import Derived.Test.YtckooioikcenmaaGreatCkM6
import Derived.Test.YtckooioikcenmaaGreatCkM7
namespace Go.Proofs.YtckooioikcenmaaGreat
open Go.RowKit
def opT : DOp := (8, ⟨#[]⟩, ⟨#[]⟩, ⟨#[]⟩, ⟨#[]⟩, 5, 0, 0, 0, 0)
def shop0 : DShop := (0, [], (0, [], 0, false, []), [], 0, [], false)
theorem opT_enc : cOp.enc opT = [16, 0, 0, 0, 0, 10, 0, 0, 0, 0] := by decide +kernel
theorem shop0_enc : cShop.enc shop0 = [0, 0, 0, 0, 0, 0, 0, 0, 0, 0, 0] := by decide +kernel
theorem opT_rep (B : Nat) (w : World) : mOp.rep B w [.int .u8 8, .string ⟨#[]⟩, .string ⟨#[]⟩, .string ⟨#[]⟩, .string ⟨#[]⟩, .int .i64 5, .int .i64 0, .int .i64 0, .int .i64 0, .int .i64 0] opT :=
  ⟨[_], _, rfl, rfl, [_], _, rfl, rfl, [_], _, rfl, rfl, [_], _, rfl, rfl, [_], _, rfl, rfl, [_], _, rfl, rfl, [_], _, rfl, rfl, [_], _, rfl, rfl, [_], [_], rfl, rfl, rfl⟩
theorem nil_rep {α : Type} (m : Mv α) (B : Nat) (w : World) : LRep m B w (.slice none 0 0) [] := .inl ⟨⟨_, _, rfl⟩, rfl⟩
theorem shop0_rep (B : Nat) (w : World) : mShop.rep B w [.int .i64 0, .slice none 0 0, .int .i64 0, .slice none 0 0, .int .i64 0, .bool false, .slice none 0 0, .slice none 0 0, .int .i64 0, .slice none 0 0, .bool false] shop0 :=
  ⟨[_], _, rfl, rfl, [_], _, rfl, ⟨_, rfl, nil_rep _ _ _⟩, [_, _, _, _, _], _, rfl, ⟨[_], _, rfl, rfl, [_], _, rfl, ⟨_, rfl, nil_rep _ _ _⟩, [_], _, rfl, rfl, [_], [_], rfl, rfl, ⟨_, rfl, nil_rep _ _ _⟩⟩, [_], _, rfl, ⟨_, rfl, nil_rep _ _ _⟩, [_], _, rfl, rfl, [_], [_], rfl, ⟨_, rfl, nil_rep _ _ _⟩, rfl⟩
theorem opT_ok : cOp.okr opT ∧ cOp.okt opT = true ∧ cOp.sm opT := by
  refine ⟨⟨⟨by decide, by decide⟩, ?_, ?_, ?_, ?_, ⟨by decide, by decide⟩, ⟨by decide, by decide⟩, ⟨by decide, by decide⟩, ⟨by decide, by decide⟩, ⟨by decide, by decide⟩⟩, by decide +kernel, ?_⟩
  · show 0 < 18446744073709551616; decide
  · show 0 < 18446744073709551616; decide
  · show 0 < 18446744073709551616; decide
  · show 0 < 18446744073709551616; decide
  · exact ⟨trivial, Nat.zero_le _, Nat.zero_le _, Nat.zero_le _, Nat.zero_le _, trivial, trivial, trivial, trivial, trivial⟩
theorem shop0_ok : cShop.okr shop0 ∧ cShop.okt shop0 = true ∧ cShop.sm shop0 := by
  have e : ∀ {α : Type} (c : Cd α), (cL c).okr [] := fun c => ⟨by simp, fun x h => by cases h⟩
  have e2 : ∀ {α : Type} (c : Cd α), (cL c).sm [] := fun c => ⟨by simp, fun x h => by cases h⟩
  exact ⟨⟨⟨by decide, by decide⟩, e _, ⟨⟨by decide, by decide⟩, e _, ⟨by decide, by decide⟩, trivial, e _⟩, e _, ⟨by decide, by decide⟩, e _, trivial⟩, by decide +kernel, ⟨trivial, e2 _, ⟨trivial, e2 _, trivial, trivial, e2 _⟩, e2 _, trivial, e2 _, trivial⟩⟩
theorem opT_cut : cOp.all [16, 0, 0, 0, 0, 10, 0, 0, 0] = false := by
  have h := cOp_law.cut (x := opT) (k := 9) opT_ok.1 opT_ok.2.1 (by rw [opT_enc]; decide)
  rw [opT_enc] at h
  exact h
theorem Bytes.some {base : Nat} {w : World} {v : Value} {xs : List UInt8} (h : Bytes base w v xs) (h0 : 0 < xs.length) : ∃ g c, v = .slice (some ⟨g, 0, none⟩) xs.length c ∧ xs.length ≤ c ∧ c ≤ maxLen := by
  rcases h.2 with ⟨_, h2⟩ | ⟨g, cap, cur, rfl, _, _, h3, h4, _⟩
  · omega
  · exact ⟨g, cap, rfl, h3, h4⟩
/-- the beginning of bytes -/
theorem RdB.take {w : World} {g n c : Nat} {ys : List UInt8} (h : RdB w (.slice (some ⟨g, 0, none⟩) n c) ys) (k : Nat) (hk : k ≤ ys.length) : RdB w (.slice (some ⟨g, 0, none⟩) k c) (ys.take k) := by
  rcases h with ⟨h1, _⟩ | ⟨b, o, c', h1, h2, h3, h4, h5⟩
  · cases h1
  · injection h1 with q1 q2 q3
    injection q1 with q1
    injection q1 with q4 q5 _
    subst q3; subst q4; subst q5
    have hl : (ys.take k).length = k := by rw [List.length_take]; omega
    refine .inr ⟨g, 0, c, by rw [hl], by rw [hl]; omega, h3, h4, fun j x hx => ?_⟩
    rw [List.getElem?_take] at hx
    split at hx
    · exact h5 j x hx
    · cases hx
theorem lit_rd (w : World) (xs : List UInt8) (cs : Array Value) (hcs : cs = (xs.map fun x => Value.int .u8 x.toNat).toArray) (n : Nat) (hn : n = xs.length) (hl : xs.length ≤ maxLen) : RdB (w.alloc (.cells cs 5)) (.slice (some ⟨w.heap.size, 0, none⟩) n n) xs := by
  subst hn
  refine .inr ⟨w.heap.size, 0, _, rfl, Nat.le_refl _, hl, by simp, fun j x hx => ?_⟩
  rw [blk_cell (alloc_at w _), hcs]
  simp [hx]
theorem rd_cell {w : World} {g n c : Nat} {ys : List UInt8} (h : RdB w (.slice (some ⟨g, 0, none⟩) n c) ys) {k : Nat} {x : UInt8} (hx : ys[k]? = some x) : w.cell? ⟨g, k, none⟩ = some (.int .u8 x.toNat) := by
  rcases h with ⟨h1, _⟩ | ⟨b, o, c', h1, h2, h3, h4, h5⟩
  · cases h1
  · injection h1 with q1 q2 q3
    injection q1 with q1
    injection q1 with q4 q5 _
    subst q4; subst q5
    have := h5 k x hx
    rwa [Nat.zero_add] at this
/-- what reads of lower blocks reads of more blocks -/
def Mv.Wide {α : Type} (m : Mv α) : Prop := ∀ {B B' : Nat} {w : World} {vs : List Value} {x : α}, B ≤ B' → m.rep B w vs x → m.rep B' w vs x
theorem mOne_wide {α : Type} (f : α → Value) : (mOne f).Wide := fun _ h => h
theorem mSeq_wide {α β : Type} {a : Mv α} {b : Mv β} (ha : a.Wide) (hb : b.Wide) : (mSeq a b).Wide := fun hB h => by
  obtain ⟨us, ws, rfl, h1, h2⟩ := h
  exact ⟨us, ws, rfl, ha hB h1, hb hB h2⟩
theorem LRep.wide {α : Type} {m : Mv α} (hm : m.Wide) {B B' : Nat} {w : World} {v : Value} {xs : List α} (hB : B ≤ B') (h : LRep m B w v xs) : LRep m B' w v xs := by
  rcases h with h | ⟨b, o, c, rfl, h1, h2, h3, h4⟩
  · exact .inl h
  · refine .inr ⟨b, o, c, rfl, h1, h2, Nat.lt_of_lt_of_le h3 hB, fun j x hx => ?_⟩
    obtain ⟨us, hu, hr⟩ := h4 j x hx
    exact ⟨us, hu, hm hB hr⟩
theorem mL_wide {α : Type} {T : TypeId} {m : Mv α} (hm : m.Wide) : (mL T m).Wide := fun hB h => by
  obtain ⟨v, rfl, h⟩ := h
  exact ⟨v, rfl, h.wide hm hB⟩
theorem mIso_wide {α β : Type} (f : β → α) {m : Mv α} (h : m.Wide) : (mIso f m).Wide := fun hB k => h hB k
theorem mI_wide : mI.Wide := mOne_wide _
theorem mB_wide : mB.Wide := mOne_wide _
theorem mS_wide : mS.Wide := mOne_wide _
theorem mF_wide : mF.Wide := mOne_wide _
theorem mCmd_wide : mCmd.Wide := (mSeq_wide mI_wide (mSeq_wide mB_wide (mSeq_wide mS_wide (mSeq_wide mI_wide mI_wide))))
theorem mKnown_wide : mKnown.Wide := (mSeq_wide mI_wide (mSeq_wide mI_wide mI_wide))
theorem mHist_wide : mHist.Wide := (mSeq_wide mS_wide (mSeq_wide mI_wide (mSeq_wide (mL_wide mCmd_wide) (mSeq_wide (mL_wide mI_wide) (mSeq_wide (mL_wide mKnown_wide) (mSeq_wide (mL_wide mI_wide) (mSeq_wide mF_wide (mSeq_wide mF_wide (mSeq_wide mI_wide (mSeq_wide mI_wide (mSeq_wide mI_wide mI_wide)))))))))))
theorem mTask_wide : mTask.Wide := (mSeq_wide mI_wide (mSeq_wide mI_wide (mSeq_wide mB_wide (mSeq_wide mI_wide (mSeq_wide mI_wide (mSeq_wide mI_wide (mSeq_wide mI_wide (mSeq_wide mI_wide (mSeq_wide mI_wide mI_wide)))))))))
theorem mAct_wide : mAct.Wide := (mSeq_wide mI_wide mTask_wide)
theorem mSleep_wide : mSleep.Wide := (mSeq_wide mI_wide mI_wide)
theorem mTurn_wide : mTurn.Wide := (mSeq_wide mS_wide (mSeq_wide mI_wide mI_wide))
theorem mItem_wide : mItem.Wide := (mSeq_wide mI_wide mI_wide)
theorem mLine_wide : mLine.Wide := (mSeq_wide mS_wide (mSeq_wide mI_wide (mL_wide mItem_wide)))
theorem mDesk_wide : mDesk.Wide := (mSeq_wide mI_wide (mSeq_wide (mL_wide mTurn_wide) (mSeq_wide mI_wide (mSeq_wide mF_wide (mL_wide mLine_wide)))))
theorem mJob_wide : mJob.Wide := (mSeq_wide mI_wide (mSeq_wide mS_wide mI_wide))
theorem mWorker_wide : mWorker.Wide := (mSeq_wide mI_wide mI_wide)
theorem mOp_wide : mOp.Wide := (mSeq_wide mB_wide (mSeq_wide mS_wide (mSeq_wide mS_wide (mSeq_wide mS_wide (mSeq_wide mS_wide (mSeq_wide mI_wide (mSeq_wide mI_wide (mSeq_wide mI_wide (mSeq_wide mI_wide mI_wide)))))))))
theorem mRec_wide : mRec.Wide := mIso_wide _ (mSeq_wide mS_wide (mSeq_wide mS_wide (mSeq_wide mHist_wide (mSeq_wide (mL_wide mAct_wide) (mSeq_wide (mL_wide mSleep_wide) (mSeq_wide mS_wide mI_wide))))))
theorem mShop_wide : mShop.Wide := (mSeq_wide mI_wide (mSeq_wide (mL_wide mRec_wide) (mSeq_wide mDesk_wide (mSeq_wide (mL_wide mJob_wide) (mSeq_wide mI_wide (mSeq_wide (mL_wide mWorker_wide) mF_wide))))))
set_option maxRecDepth 20000 in
set_option maxHeartbeats 4000000 in
theorem awake23 (w : World) : Calls Tryz.prog 5 #[] w (SPost w) := by
  go_enter Tryz.func5, Tryz.ntmps5
  go_wp2_with fail
  refine (wOp_any opT opT_ok.1 opT_ok.2.2 (by rw [opT_enc]; decide) _ _ (opT_rep _ _)).mono ?_
  rintro e w1 ⟨hb, h1⟩
  rw [if_pos opT_ok.2.1, opT_enc] at h1
  obtain ⟨v1, rfl, hv1⟩ := h1
  obtain ⟨g1, c1, e1, k1, k2⟩ := hv1.some (by simp)
  have e1 : v1 = .slice (some ⟨g1, 0, none⟩) 10 c1 := e1
  subst e1
  have hc1 : 10 ≤ c1 := k1
  have HB := Lib.hid hb
  have HV1 := Lib.hid hv1
  clear hb hv1 k1
  go_wp2_with fail
  refine (wShop_any shop0 shop0_ok.1 shop0_ok.2.2 (by rw [shop0_enc]; decide) _ _ (shop0_rep _ _)).mono ?_
  rintro e w2 ⟨hb, h1⟩
  rw [if_pos shop0_ok.2.1, shop0_enc] at h1
  obtain ⟨v2, rfl, hv2⟩ := h1
  obtain ⟨g2, c2, e2, k1, k3⟩ := hv2.some (by simp)
  have e2 : v2 = .slice (some ⟨g2, 0, none⟩) 11 c2 := e2
  subst e2
  have HB2 := Lib.hid (HB.out.trans (hb.mono HB.out.size))
  have HV1' := Lib.hid (HV1.out.below hb)
  have HV2 := Lib.hid hv2
  clear hb hv2 k1 HB HV1
  go_wp2_with fail
  have HL := Lib.hid (lit_rd w2 [16, 0, 0, 0, 0, 10, 0, 0, 0, 0] #[.int .u8 16, .int .u8 0, .int .u8 0, .int .u8 0, .int .u8 0, .int .u8 10, .int .u8 0, .int .u8 0, .int .u8 0, .int .u8 0] rfl 10 rfl (by decide))
  have HBL := Lib.hid ((Below.refl w2.heap.size w2).alloc (Nat.le_refl _) (.cells #[.int .u8 16, .int .u8 0, .int .u8 0, .int .u8 0, .int .u8 0, .int .u8 10, .int .u8 0, .int .u8 0, .int .u8 0, .int .u8 0] 5))
  refine (sameBytes_any _ _ [16, 0, 0, 0, 0, 10, 0, 0, 0, 0] [16, 0, 0, 0, 0, 10, 0, 0, 0, 0] _ (HV1'.out.reads.below HBL.out) HL.out).mono ?_
  rintro e w3 ⟨rfl, rfl⟩
  rw [decide_eq_true rfl]
  generalize hw : w2.alloc (.cells #[.int .u8 16, .int .u8 0, .int .u8 0, .int .u8 0, .int .u8 0, .int .u8 10, .int .u8 0, .int .u8 0, .int .u8 0, .int .u8 0] 5) = w3 at *
  clear hw
  have HR2 := Lib.hid (HV2.out.reads.below HBL.out)
  have HR1 := Lib.hid ((HV1'.out.reads.below HBL.out).take 9 (by decide))
  have HB3 := Lib.hid (HB2.out.trans (HBL.out.mono HB2.out.size))
  clear HL HBL HV2 HV1' HB2
  go_wp2
  go_loopw [38] (fun i wr => ∃ k : Nat, i = .int .i64 k ∧ wr = w3 ∧ k ≤ 11) (fun i _ => 11 - (intOf i).toNat)
  case atStart => exact ⟨0, rfl, rfl, by omega⟩
  case round =>
    obtain ⟨k, rfl, rfl, hk⟩ := hrel
    by_cases hk4 : k < 11
    · have d0 : wr.cell? ⟨g2, k, none⟩ = some (.int .u8 0) := rd_cell HR2.out (x := 0) (by rw [show ([0, 0, 0, 0, 0, 0, 0, 0, 0, 0, 0] : List UInt8) = List.replicate 11 0 from rfl, List.getElem?_replicate, if_pos hk4])
      go_wp2
      go_roundw
      case rel => exact ⟨k + 1, by go_num, by first | trivial | rfl, by omega⟩
      case measure => simp [intOf]; omega
    · obtain rfl : k = 11 := by omega
      go_wp2_with fail
      refine (rdOp_any _ [16, 0, 0, 0, 0, 10, 0, 0, 0] _ HR1.out (by decide)).mono ?_
      rintro e w4 ⟨h | ⟨_, rfl⟩, hb⟩
      · rw [opT_cut] at h; cases h.1
      have HB4 := Lib.hid (HB3.out.trans (hb.mono HB3.out.size))
      clear hb
      go_wp2
      go_ret
      exact ⟨rfl, HB4.out.alloc (by have := HB4.out.size; omega) _⟩
end Go.Proofs.YtckooioikcenmaaGreat

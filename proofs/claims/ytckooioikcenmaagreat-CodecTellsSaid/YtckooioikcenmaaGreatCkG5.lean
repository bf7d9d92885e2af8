/- Great of a shop. Conditions: sizes a machine can have. -/
import Derived.Test.YtckooioikcenmaaGreatCkG4
namespace Go.Proofs.YtckooioikcenmaaGreat
open Go.RowKit
/-- a workflow's cells that are asked -/
def gRec (x : DRec) : Bool := gFlow x.1 x.2.1 (gHist x.2.2.2.2.1.1 x.2.2.2.2.1.2.2.1 x.2.2.2.2.1.2.2.2.1 x.2.2.2.2.1.2.2.2.2.1 x.2.2.2.2.1.2.2.2.2.2.1) x.2.2.2.2.2.1.length x.2.2.2.2.2.2.length || decide (3000 < x.2.2.1.size)
def gShop (x : DShop) : Bool := decide (60 < x.2.1.length) || gDesk x.2.2.1.2.1 x.2.2.1.2.2.2.2 || decide (300 < x.2.2.2.1.length) || decide (70 < x.2.2.2.2.2.1.length) || x.2.1.any gRec || x.2.2.2.1.any fun j => decide (3000 < j.2.1.size)
theorem range_pre {w : World} {b o : Nat} {cs post : List Value} (h : ∀ (i : Nat) (u : Value), (cs ++ post)[i]? = some u → w.cell? ⟨b, o + i, none⟩ = some u) : w.rangeAt b o cs := fun j u hj => h j u (by rw [List.getElem?_append_left (List.getElem?_eq_some_iff.1 hj).1]; exact hj)
/-- texts of a size that a sum bears -/
def shopSz (x : DShop) : Prop := ∀ y ∈ x.2.1, ∀ z ∈ y.2.2.2.2.1.2.2.1, z.2.2.1.size ≤ 140737488351232
set_option maxRecDepth 20000 in
set_option maxHeartbeats 4000000 in
theorem great22_any (x : DShop) (w : World) (us : List Value) (hu : mShop.rep w.heap.size w us x) (hsz : shopSz x) : Calls Tryz.prog 4 #[.agg us.toArray] w (GPost (gShop x) w) := by
  obtain ⟨qnow, qrs, ⟨qd_qq, qd_qqs, qd_qat, qd_qhad, qd_qls⟩, qjs, qla, qws, qdr⟩ := x
  obtain ⟨vqrs, vqd_qqs, vqd_qls, vqjs, vqws, rfl, hrqrs, hrqd_qqs, hrqd_qls, hrqjs, hrqws, hrqd⟩ := mShop_form hu
  obtain ⟨A1, c1, rfl⟩ := hrqrs.form
  obtain ⟨A2, c2, rfl⟩ := hrqd_qqs.form
  obtain ⟨A3, c3, rfl⟩ := hrqd_qls.form
  obtain ⟨A4, c4, rfl⟩ := hrqjs.form
  obtain ⟨A5, c5, rfl⟩ := hrqws.form
  have hm1 := hrqrs.max
  have hm4 := hrqjs.max
  obtain ⟨nr, hnr⟩ : ∃ n, qrs.length = n := ⟨_, rfl⟩
  obtain ⟨nj, hnj⟩ : ∃ n, qjs.length = n := ⟨_, rfl⟩
  obtain ⟨nw, hnw⟩ : ∃ n, qws.length = n := ⟨_, rfl⟩
  have HD : Hid (gShop (qnow, qrs, (qd_qq, qd_qqs, qd_qat, qd_qhad, qd_qls), qjs, qla, qws, qdr) = (decide (60 < nr) || gDesk qd_qqs qd_qls || decide (300 < nj) || decide (70 < nw) || qrs.any gRec || qjs.any fun j => decide (3000 < j.2.1.size))) := by show _ = _; rw [← hnr, ← hnj, ← hnw]; rfl
  have HSZ := Lib.hid hsz
  rw [hnr] at hm1 hrqrs ⊢
  rw [hnj] at hm4 hrqjs ⊢
  rw [hnw] at ⊢
  have HN1 := Lib.hid hnr
  have HN2 := Lib.hid hnj
  have hb : Below w.heap.size w (w.alloc (.cells #[.int .i64 qnow, .slice A1 nr c1, .int .i64 qd_qq, .slice A2 qd_qqs.length c2, .int .i64 qd_qat, .bool qd_qhad, .slice A3 qd_qls.length c3, .slice A4 nj c4, .int .i64 qla, .slice A5 nw c5, .bool qdr] 35)) := (Below.refl _ _).alloc (Nat.le_refl _) _
  have HC := Lib.hid (great18_any w.heap.size qd_qq qd_qat qd_qhad _ _ qd_qqs qd_qls _ (hrqd_qqs.keep mTurn_law hb) (hrqd_qls.keep mLine_law hb) hb.size)
  have HB := Lib.hid hb
  have HV1 := Lib.hid hrqrs
  have HV4 := Lib.hid hrqjs
  have HA := Lib.hid (alloc_at w (.cells #[.int .i64 qnow, .slice A1 nr c1, .int .i64 qd_qq, .slice A2 qd_qqs.length c2, .int .i64 qd_qat, .bool qd_qhad, .slice A3 qd_qls.length c3, .slice A4 nj c4, .int .i64 qla, .slice A5 nw c5, .bool qdr] 35))
  clear hu hrqws hrqd hrqrs hrqjs hrqd_qqs hrqd_qls hb hnr hnj hnw hsz
  generalize hS : gShop (qnow, qrs, (qd_qq, qd_qqs, qd_qat, qd_qhad, qd_qls), qjs, qla, qws, qdr) = S at *
  clear hS
  by_cases e1 : 60 < nr
  · have HT : Hid (S = true) := by show _ = _; rw [HD.out]; simp [e1]
    clear HD HC
    go_enter Tryz.func4, Tryz.ntmps4
    go_wp2
    go_ret
    exact ⟨by rw [HT.out]; rfl, HB.out⟩
  go_enter Tryz.func4, Tryz.ntmps4
  go_wp2_with fail
  refine HC.out.mono ?_
  rintro e w1 ⟨rfl, hbl⟩
  have HB1 := Lib.hid (HB.out.trans (hbl.mono HB.out.size))
  have HK := Lib.hid (blk_below hbl HA.out)
  clear HB
  have HB := HB1
  have b1 := blk_cell HK.out 1
  have b7 := blk_cell HK.out 7
  have b9 := blk_cell HK.out 9
  simp at b1 b7 b9
  clear hbl HC HA HB1
  generalize gDesk qd_qqs qd_qls = g at *
  cases g with
  | true =>
    have HT : Hid (S = true) := by show _ = _; rw [HD.out]; simp
    go_wp2
    go_ret
    exact ⟨by rw [HT.out]; rfl, HB.out⟩
  | false =>
    by_cases e2 : 300 < nj
    · have HT : Hid (S = true) := by show _ = _; rw [HD.out]; simp [e2]
      go_wp2
      go_ret
      exact ⟨by rw [HT.out]; rfl, HB.out⟩
    by_cases e3 : 70 < nw
    · have HT : Hid (S = true) := by show _ = _; rw [HD.out]; simp [e3]
      go_wp2
      go_ret
      exact ⟨by rw [HT.out]; rfl, HB.out⟩
    have HT : Hid (S = (qrs.any gRec || qjs.any fun j => decide (3000 < j.2.1.size))) := by show _ = _; rw [HD.out]; simp [e1, e2, e3]
    clear HD
    go_wp2
    clear b1 b7 b9
    go_loopw [3, 29] (fun _ i wr => ∃ (k : Nat), i = .int .i64 k ∧ k ≤ nr ∧ Hid (Below w.heap.size w wr) ∧ Hid (wr.heap[w.heap.size]? = some (.cells #[.int .i64 qnow, .slice A1 nr c1, .int .i64 qd_qq, .slice A2 qd_qqs.length c2, .int .i64 qd_qat, .bool qd_qhad, .slice A3 qd_qls.length c3, .slice A4 nj c4, .int .i64 qla, .slice A5 nw c5, .bool qdr] 35)) ∧ Hid ((qrs.take k).any gRec = false)) (fun _ i _ => nr - (intOf i).toNat)
    case atStart => exact ⟨0, rfl, by omega, HB, HK, rfl⟩
    case round =>
      clear HB HK
      obtain ⟨k, rfl, hk, HB, HK, HE⟩ := hrel
      have b1 := blk_cell HK.out 1
      simp at b1
      by_cases hk4 : k < nr
      · obtain ⟨x, hxk⟩ : ∃ n, qrs[k]? = some n := ⟨qrs[k]'(by rw [HN1.out]; exact hk4), List.getElem?_eq_getElem _⟩
        have hxs := HSZ.out x (List.mem_of_getElem? hxk)
        obtain ⟨b, o, us, rfl, hbb, hus, hrep⟩ := (HV1.out.keep mRec_law HB.out).at hxk
        obtain ⟨qi, qq, qpa, qn, ⟨qp, qa, qcs, qts, qks, qss, qst, qcl, qo, qov, qln, qlx⟩, qas, qsl⟩ := x
        obtain ⟨u1, u2, u3, u4, u5, u6, rfl, l1, l2, l3, l4, l5, l6, _⟩ := mRec_form hrep
        obtain ⟨f16, hf16⟩ : ∃ l : List Value, l = [.string qi, .string qq, .string qp, .int .i64 qa, u1, u2, u3, u4, .bool qst, .bool qcl, .int .i64 qo, .int .i64 qov, .int .i64 qln, .int .i64 qlx, u5, u6] := ⟨_, rfl⟩
        have HRG : Hid (World.rangeAt wr b (o + k * 18) f16) := by rw [hf16]; exact range_pre (post := [.string qpa, .int .i64 qn]) hus
        have d16 := hus 16 _ rfl
        change World.cell? _ ⟨b, o + k * 18 + 16, none⟩ = some (.string qpa) at d16
        have HD16 := Lib.hid d16
        have HC : Hid (Calls Tryz.prog 17 #[.agg f16.toArray] wr (GPost (gFlow qi qq (gHist qp qcs qts qks qss) qas.length qsl.length) wr)) := by
          rw [hf16]
          exact great21_any w.heap.size qi qq qp qa qo qov qln qlx qst qcl u1 u2 u3 u4 u5 u6 qcs qts qks qss qas qsl _ l1 l2 l3 l4 l5 l6 HB.out.size hxs
        have HX := Lib.hid hxk
        have HP : Hid (gRec (qi, qq, qpa, qn, (qp, qa, qcs, qts, qks, qss, qst, qcl, qo, qov, qln, qlx), qas, qsl) = (gFlow qi qq (gHist qp qcs qts qks qss) qas.length qsl.length || decide (3000 < qpa.size))) := rfl
        have hi : Hid ((Tryz.prog.info? 63).map (·.size) = some f16.length) := by show _ = _; rw [hf16]; kernel_rfl
        clear hf16
        clear hxk hxs hus hrep l1 l2 l3 l4 l5 l6 d16
        go_wp2_with (with_reducible refine wpList_load_mid rfl 63 (.tmp 36) rfl b (o + k * 18) rfl f16 _ HRG.out Tryz.underlying63 rfl hi.out ?_)
        refine HC.out.mono ?_
        rintro e w2 ⟨rfl, hbl⟩
        have hbb2 := Nat.lt_of_lt_of_le hbb HB.out.size
        have d16 : w2.cell? ⟨b, o + k * 18 + 16, none⟩ = some (.string qpa) := (hbl.cell (p := ⟨b, o + k * 18 + 16, none⟩) hbb2).trans HD16.out
        have HB2 := Lib.hid (HB.out.trans (hbl.mono HB.out.size))
        have HK2 := Lib.hid (blk_below hbl HK.out)
        clear HB HK hbl HC HRG HD16 b1
        have HB := HB2
        clear HB2
        have b1 := blk_cell HK2.out 1
        simp at b1
        generalize gFlow qi qq (gHist qp qcs qts qks qss) qas.length qsl.length = g at *
        cases g with
        | true =>
          have HT2 : Hid (S = true) := by show _ = _; rw [HT.out, any_at HX.out (by rw [HP.out]; simp)]; simp
          go_wp2
          go_ret
          exact ⟨by rw [HT2.out]; rfl, HB.out⟩
        | false =>
          by_cases e4 : 3000 < qpa.size
          · have HT2 : Hid (S = true) := by show _ = _; rw [HT.out, any_at HX.out (by rw [HP.out]; simp [e4])]; simp
            go_wp2
            go_ret
            exact ⟨by rw [HT2.out]; rfl, HB.out⟩
          · have HE2 := Lib.hid (any_take HX.out HE.out (by rw [HP.out]; simp; omega))
            go_wp2
            go_roundw
            case rel => exact ⟨k + 1, by go_num, by omega, HB, HK2, HE2⟩
            case measure => simp [intOf]; omega
      · obtain rfl : k = nr := by omega
        have HT2 : Hid (S = qjs.any fun j => decide (3000 < j.2.1.size)) := by show _ = _; rw [HT.out, any_all (by rw [HN1.out]; exact Nat.le_refl _) HE.out]; simp
        have b7 := blk_cell HK.out 7
        simp at b7
        clear HE HT
        go_wp2
        clear b1 b7
        go_loopw [4, 53] (fun _ i wr => ∃ (j : Nat), i = .int .i64 j ∧ j ≤ nj ∧ Hid (Below w.heap.size w wr) ∧ Hid (wr.heap[w.heap.size]? = some (.cells #[.int .i64 qnow, .slice A1 k c1, .int .i64 qd_qq, .slice A2 qd_qqs.length c2, .int .i64 qd_qat, .bool qd_qhad, .slice A3 qd_qls.length c3, .slice A4 nj c4, .int .i64 qla, .slice A5 nw c5, .bool qdr] 35)) ∧ Hid ((qjs.take j).any (fun j => decide (3000 < j.2.1.size)) = false)) (fun _ i _ => nj - (intOf i).toNat)
        case atStart => exact ⟨0, rfl, by omega, HB, HK, rfl⟩
        case round =>
          clear HB HK
          obtain ⟨j, rfl, hj, HB, HK, HE⟩ := hrel
          have b7 := blk_cell HK.out 7
          simp at b7
          by_cases hj4 : j < nj
          · obtain ⟨x, hxk⟩ : ∃ n, qjs[j]? = some n := ⟨qjs[j]'(by rw [HN2.out]; exact hj4), List.getElem?_eq_getElem _⟩
            obtain ⟨b, o, us, rfl, hbb, hus, hrep⟩ := (HV4.out.keep mJob_law HB.out).at hxk
            obtain ⟨qn, qs, qk⟩ := x
            have hf := mJob_form hrep
            subst hf
            have d1 := hus 1 _ rfl
            change World.cell? _ ⟨b, o + j * 3 + 1, none⟩ = some (.string qs) at d1
            have HX := Lib.hid hxk
            clear hxk hus hrep
            by_cases hx : 3000 < qs.size
            · have HT3 : Hid (S = true) := by show _ = _; rw [HT2.out]; exact any_at HX.out (by simpa using hx)
              go_wp2
              go_ret
              exact ⟨by rw [HT3.out]; rfl, HB.out⟩
            · have HE2 := Lib.hid (any_take HX.out HE.out (by simpa using hx))
              go_wp2
              go_roundw
              case rel => exact ⟨j + 1, by go_num, by omega, HB, HK, HE2⟩
              case measure => simp [intOf]; omega
          · obtain rfl : j = nj := by omega
            have HT3 : Hid (S = false) := by show _ = _; rw [HT2.out]; exact any_all (by rw [HN2.out]; exact Nat.le_refl _) HE.out
            go_wp2
            go_ret
            exact ⟨by rw [HT3.out]; rfl, HB.out⟩
end Go.Proofs.YtckooioikcenmaaGreat

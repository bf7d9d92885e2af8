/- CodecCuts: the walk. Conditions: sizes a machine can have. -/
import Derived.Test.YtckooioikcenmaaCkA3
namespace Go.Proofs.Ytckooioikcenmaa
open Go.RowKit
section
attribute [local go_sem] frozen?_alloc_cells World.cell?_alloc_some
set_option maxRecDepth 20000 in
set_option maxHeartbeats 8000000 in
theorem cuts23 (x x' : DOp) (y : DShop) (at' : Int) (mo : Nat) (hmo : mo < 256) (us us' vs : List Value) (w : World) (ho : cOp.okr x) (ho' : cOp.okr x') (hs : cShop.okr y) (hsz : shopSz y)
    (hx : x.2.1.size ≤ 140737488351232 ∧ x.2.2.1.size ≤ 140737488351232 ∧ x.2.2.2.1.size ≤ 140737488351232 ∧ x.2.2.2.2.1.size ≤ 140737488351232) (hx' : x'.2.1.size ≤ 140737488351232 ∧ x'.2.2.1.size ≤ 140737488351232 ∧ x'.2.2.2.1.size ≤ 140737488351232 ∧ x'.2.2.2.2.1.size ≤ 140737488351232)
    (hu : mOp.rep w.heap.size w us x) (hu' : mOp.rep w.heap.size w us' x') (hv : mShop.rep w.heap.size w vs y) :
    Calls Try.prog 4 #[.agg us.toArray, .agg us'.toArray, .agg (vs ++ [Value.int .i64 at', Value.int .u8 (mo : Int)]).toArray] w (SPost w) := by
  obtain ⟨qdo, q1, q2, q3, q4, q5, q6, q7, q8, q9⟩ := x
  obtain ⟨pdo, p1, p2, p3, p4, p5, p6, p7, p8, p9⟩ := x'
  obtain rfl := mOp_form hu
  obtain rfl := mOp_form hu'
  have HX := Lib.hid hu
  have HX' := Lib.hid hu'
  have HY := Lib.hid hv
  have HOX := Lib.hid ho
  have HOX' := Lib.hid ho'
  have HOY := Lib.hid hs
  have HSZ := Lib.hid hsz
  obtain ⟨qnow, qrs, ⟨qq, qqs, qat, qhad, qls⟩, qjs, qla, qws, qdr⟩ := y
  obtain ⟨v1, v2, v3, v4, v5, rfl, hu1, hu2, hu3, hu4, hu5, _⟩ := mShop_form hv
  obtain ⟨A1, c1, rfl⟩ := hu1.form
  obtain ⟨A2, c2, rfl⟩ := hu2.form
  obtain ⟨A3, c3, rfl⟩ := hu3.form
  obtain ⟨A4, c4, rfl⟩ := hu4.form
  obtain ⟨A5, c5, rfl⟩ := hu5.form
  obtain ⟨hx1, hx2, hx3, hx4⟩ := hx
  obtain ⟨hx5, hx6, hx7, hx8⟩ := hx'
  simp only at hx1 hx2 hx3 hx4 hx5 hx6 hx7 hx8
  simp only [List.cons_append, List.nil_append]
  clear hu hu' hv ho ho' hs hsz hu1 hu2 hu3 hu4 hu5
  have HS := Lib.hid (OPB.first w #[.int .u8 qdo, .string q1, .string q2, .string q3, .string q4, .int .i64 q5, .int .i64 q6, .int .i64 q7, .int .i64 q8, .int .i64 q9] #[.int .u8 pdo, .string p1, .string p2, .string p3, .string p4, .int .i64 p5, .int .i64 p6, .int .i64 p7, .int .i64 p8, .int .i64 p9] #[.int .i64 qnow, .slice A1 qrs.length c1, .int .i64 qq, .slice A2 qqs.length c2, .int .i64 qat, .bool qhad, .slice A3 qls.length c3, .slice A4 qjs.length c4, .int .i64 qla, .slice A5 qws.length c5, .bool qdr, .int .i64 at', .int .u8 (mo : Int)])
  obtain ⟨yy, hyy⟩ : ∃ yy : DShop, yy = (qnow, qrs, (qq, qqs, qat, qhad, qls), qjs, qla, qws, qdr) := ⟨_, rfl⟩
  rw [← hyy] at HY HOY HSZ
  clear hyy
  obtain ⟨xx, hxx⟩ : ∃ xx : DOp, xx = (qdo, q1, q2, q3, q4, q5, q6, q7, q8, q9) := ⟨_, rfl⟩
  obtain ⟨xy, hxy⟩ : ∃ xy : DOp, xy = (pdo, p1, p2, p3, p4, p5, p6, p7, p8, p9) := ⟨_, rfl⟩
  have HXX := Lib.hid hxx
  have HXY := Lib.hid hxy
  rw [← hxx] at HX HOX
  rw [← hxy] at HX' HOX'
  clear hxx hxy
  go_enter Try.func4, Try.ntmps4
  go_upto_region 1 with fail
  go_cut [59] (fun s wx => ∃ g : Bool, s = .bool g ∧ Hid (g = false → (q1.size + q2.size + q3.size + q4.size ≤ 3000 ∧ p1.size + p2.size + p3.size + p4.size ≤ 3000 ∧ gShop yy = false)) ∧ Hid (OPB w #[.int .u8 qdo, .string q1, .string q2, .string q3, .string q4, .int .i64 q5, .int .i64 q6, .int .i64 q7, .int .i64 q8, .int .i64 q9] #[.int .u8 pdo, .string p1, .string p2, .string p3, .string p4, .int .i64 p5, .int .i64 p6, .int .i64 p7, .int .i64 p8, .int .i64 p9] #[.int .i64 qnow, .slice A1 qrs.length c1, .int .i64 qq, .slice A2 qqs.length c2, .int .i64 qat, .bool qhad, .slice A3 qls.length c3, .slice A4 qjs.length c4, .int .i64 qla, .slice A5 qws.length c5, .bool qdr, .int .i64 at', .int .u8 (mo : Int)] wx))
  case first =>
    by_cases e1 : 3000 < q1.size + q2.size + q3.size + q4.size
    · go_wp2
      go_meet
      exact ⟨_, rfl, fun h => (by simp at h <;> omega), HS⟩
    by_cases e2 : 3000 < p1.size + p2.size + p3.size + p4.size
    · go_wp2
      go_meet
      exact ⟨_, rfl, fun h => (by simp at h <;> omega), HS⟩
    go_wp2_with fail
    refine (great22_any yy _ _ (mShop_wide HS.out.bel.size (mShop_law.keep HY.out HS.out.bel)) HSZ.out).mono ?_
    rintro e w1 ⟨rfl, hb⟩
    have HS1 := Lib.hid (HS.out.below hb)
    clear hb
    obtain ⟨g, hg⟩ : ∃ g, gShop yy = g := ⟨_, rfl⟩
    rw [hg]
    have HG := Lib.hid hg
    clear hg
    cases g with
    | true =>
      go_wp2
      go_meet
      exact ⟨true, rfl, fun h => (by cases h), HS1⟩
    | false =>
      go_wp2
      go_meet
      exact ⟨_, rfl, fun _ => ⟨by omega, by omega, HG.out⟩, HS1⟩
  case rest =>
    obtain ⟨g, rfl, HF, HS1⟩ := hcut
    clear HS
    go_upto_if 59 with fail
    go_cut [] (fun wx => Hid (q1.size + q2.size + q3.size + q4.size ≤ 3000 ∧ p1.size + p2.size + p3.size + p4.size ≤ 3000 ∧ gShop yy = false) ∧ Hid (OPB w #[.int .u8 qdo, .string q1, .string q2, .string q3, .string q4, .int .i64 q5, .int .i64 q6, .int .i64 q7, .int .i64 q8, .int .i64 q9] #[.int .u8 pdo, .string p1, .string p2, .string p3, .string p4, .int .i64 p5, .int .i64 p6, .int .i64 p7, .int .i64 p8, .int .i64 p9] #[.int .i64 qnow, .slice A1 qrs.length c1, .int .i64 qq, .slice A2 qqs.length c2, .int .i64 qat, .bool qhad, .slice A3 qls.length c3, .slice A4 qjs.length c4, .int .i64 qla, .slice A5 qws.length c5, .bool qdr, .int .i64 at', .int .u8 (mo : Int)] wx))
    case first =>
      cases g with
      | true =>
        go_wp2_with fail
        refine (awake23 _).mono ?_
        rintro e w2 ⟨rfl, hb⟩
        go_wp2
        go_ret
        exact ⟨rfl, HS1.out.bel.trans (hb.mono HS1.out.bel.size)⟩
      | false =>
        have HF2 := Lib.hid (HF.out rfl)
        go_wp2
        go_meet
        exact ⟨HF2, HS1⟩
    case rest =>
      clear HF HS1
      obtain ⟨HF, HS⟩ := hcut
      clear hx1 hx2 hx3 hx4 hx5 hx6 hx7 hx8
      have hpx : bOp.P xx := by rw [HXX.out]; exact op_small HF.out.1
      have hpy : bOp.P xy := by rw [HXY.out]; exact op_small HF.out.2.1
      have HLX := Lib.hid (op_len HOX.out hpx)
      have HLY := Lib.hid (op_len HOX'.out hpy)
      have HMX := Lib.hid (bOp_sm xx hpx)
      have HMY := Lib.hid (bOp_sm xy hpy)
      have HSK := Lib.hid (shop_ok HOY.out HF.out.2.2)
      have HLX2 := Lib.hid (op_len2 HOX.out hpx)
      have HLS2 := Lib.hid (shop_len2 HOY.out HF.out.2.2)
      have HPX := Lib.hid (cOp_law.one xx)
      have HPS := Lib.hid (cShop_law.one yy)
      clear hpx hpy HF
      apply_assumption
      refine wp_seq_k ?_
      intro K3 hK3
      go_cut [7, 8] (fun s t wx => Hid (EncIs cOp xx wx s t) ∧ Hid (OPB w #[.int .u8 qdo, .string q1, .string q2, .string q3, .string q4, .int .i64 q5, .int .i64 q6, .int .i64 q7, .int .i64 q8, .int .i64 q9] #[.int .u8 pdo, .string p1, .string p2, .string p3, .string p4, .int .i64 p5, .int .i64 p6, .int .i64 p7, .int .i64 p8, .int .i64 p9] #[.int .i64 qnow, .slice A1 qrs.length c1, .int .i64 qq, .slice A2 qqs.length c2, .int .i64 qat, .bool qhad, .slice A3 qls.length c3, .slice A4 qjs.length c4, .int .i64 qla, .slice A5 qws.length c5, .bool qdr, .int .i64 at', .int .u8 (mo : Int)] wx))
      case first =>
        have d0 := blk_cell HS.out.b0 0
        have d1 := blk_cell HS.out.b0 1
        have d2 := blk_cell HS.out.b0 2
        have d3 := blk_cell HS.out.b0 3
        have d4 := blk_cell HS.out.b0 4
        have d5 := blk_cell HS.out.b0 5
        have d6 := blk_cell HS.out.b0 6
        have d7 := blk_cell HS.out.b0 7
        have d8 := blk_cell HS.out.b0 8
        have d9 := blk_cell HS.out.b0 9
        simp at d0 d1 d2 d3 d4 d5 d6 d7 d8 d9
        go_wp2_with fail
        refine (wOp_any xx HOX.out HMX.out HLX.out _ _ (mOp_wide HS.out.bel.size (mOp_law.keep HX.out HS.out.bel))).mono ?_
        rintro e w1 ⟨hb, h1⟩
        have HS1 := Lib.hid (HS.out.below hb)
        clear d0 d1 d2 d3 d4 d5 d6 d7 d8 d9
        clear hb
        cases hk : cOp.okt xx with
        | true =>
          rw [if_pos hk] at h1
          obtain ⟨vb, rfl, hown⟩ := h1
          obtain ⟨gb, cb, rfl, _, _⟩ := hown.some (by have := cOp_law.one xx; omega)
          have HE : Hid (EncIs cOp xx w1 _ (.int .i64 0)) := .inl ⟨hk, rfl, gb, cb, rfl, hown.reads⟩
          clear hown hk
          go_wp2
          go_meet
          exact ⟨HE, HS1⟩
        | false =>
          rw [if_neg (by rw [hk]; simp)] at h1
          subst h1
          have HE : Hid (EncIs cOp xx w1 (.slice none 0 0) (.int .i64 2)) := .inr ⟨hk, rfl, rfl⟩
          clear hk
          go_wp2
          go_meet
          exact ⟨HE, HS1⟩
      case rest =>
        obtain ⟨HE, HS'⟩ := hcut
        clear HS
        have HS := HS'
        clear HS'
        refine hK3 _ _ ?_
        refine wp_seq_k ?_
        intro K4 hK4
        go_cut [9, 10] (fun s t wx => Hid (EncIs cOp xy wx s t) ∧ Hid (EncIs cOp xx wx u7 u8) ∧ Hid (OPB w #[.int .u8 qdo, .string q1, .string q2, .string q3, .string q4, .int .i64 q5, .int .i64 q6, .int .i64 q7, .int .i64 q8, .int .i64 q9] #[.int .u8 pdo, .string p1, .string p2, .string p3, .string p4, .int .i64 p5, .int .i64 p6, .int .i64 p7, .int .i64 p8, .int .i64 p9] #[.int .i64 qnow, .slice A1 qrs.length c1, .int .i64 qq, .slice A2 qqs.length c2, .int .i64 qat, .bool qhad, .slice A3 qls.length c3, .slice A4 qjs.length c4, .int .i64 qla, .slice A5 qws.length c5, .bool qdr, .int .i64 at', .int .u8 (mo : Int)] wx))
        case first =>
          have d0 := blk_cell HS.out.b1 0
          have d1 := blk_cell HS.out.b1 1
          have d2 := blk_cell HS.out.b1 2
          have d3 := blk_cell HS.out.b1 3
          have d4 := blk_cell HS.out.b1 4
          have d5 := blk_cell HS.out.b1 5
          have d6 := blk_cell HS.out.b1 6
          have d7 := blk_cell HS.out.b1 7
          have d8 := blk_cell HS.out.b1 8
          have d9 := blk_cell HS.out.b1 9
          simp at d0 d1 d2 d3 d4 d5 d6 d7 d8 d9
          go_wp2_with fail
          refine (wOp_any xy HOX'.out HMY.out HLY.out _ _ (mOp_wide HS.out.bel.size (mOp_law.keep HX'.out HS.out.bel))).mono ?_
          rintro e w1 ⟨hb, h1⟩
          have HS1 := Lib.hid (HS.out.below hb)
          clear d0 d1 d2 d3 d4 d5 d6 d7 d8 d9
          have HE1 := Lib.hid (HE.out.below hb)
          clear hb
          cases hk : cOp.okt xy with
          | true =>
            rw [if_pos hk] at h1
            obtain ⟨vb, rfl, hown⟩ := h1
            obtain ⟨gb, cb, rfl, _, _⟩ := hown.some (by have := cOp_law.one xy; omega)
            have HE2 : Hid (EncIs cOp xy w1 _ (.int .i64 0)) := .inl ⟨hk, rfl, gb, cb, rfl, hown.reads⟩
            clear hown hk
            go_wp2
            go_meet
            exact ⟨HE2, HE1, HS1⟩
          | false =>
            rw [if_neg (by rw [hk]; simp)] at h1
            subst h1
            have HE2 : Hid (EncIs cOp xy w1 (.slice none 0 0) (.int .i64 2)) := .inr ⟨hk, rfl, rfl⟩
            clear hk
            go_wp2
            go_meet
            exact ⟨HE2, HE1, HS1⟩
        case rest =>
          clear HS HE
          obtain ⟨HE2, HE, HS⟩ := hcut
          refine hK4 _ _ ?_
          refine wp_seq_k ?_
          intro K5 hK5
          go_cut [] (fun wx => Hid (EncIs cOp xx wx u7 u8) ∧ Hid (OPB w #[.int .u8 qdo, .string q1, .string q2, .string q3, .string q4, .int .i64 q5, .int .i64 q6, .int .i64 q7, .int .i64 q8, .int .i64 q9] #[.int .u8 pdo, .string p1, .string p2, .string p3, .string p4, .int .i64 p5, .int .i64 p6, .int .i64 p7, .int .i64 p8, .int .i64 p9] #[.int .i64 qnow, .slice A1 qrs.length c1, .int .i64 qq, .slice A2 qqs.length c2, .int .i64 qat, .bool qhad, .slice A3 qls.length c3, .slice A4 qjs.length c4, .int .i64 qla, .slice A5 qws.length c5, .bool qdr, .int .i64 at', .int .u8 (mo : Int)] wx))
          case first =>
            have d0 := blk_cell HS.out.b0 0
            have d1 := blk_cell HS.out.b0 1
            have d2 := blk_cell HS.out.b0 2
            have d3 := blk_cell HS.out.b0 3
            have d4 := blk_cell HS.out.b0 4
            have d5 := blk_cell HS.out.b0 5
            have d6 := blk_cell HS.out.b0 6
            have d7 := blk_cell HS.out.b0 7
            have d8 := blk_cell HS.out.b0 8
            have d9 := blk_cell HS.out.b0 9
            simp at d0 d1 d2 d3 d4 d5 d6 d7 d8 d9
            have e0 := blk_cell HS.out.b1 0
            have e1 := blk_cell HS.out.b1 1
            have e2 := blk_cell HS.out.b1 2
            have e3 := blk_cell HS.out.b1 3
            have e4 := blk_cell HS.out.b1 4
            have e5 := blk_cell HS.out.b1 5
            have e6 := blk_cell HS.out.b1 6
            have e7 := blk_cell HS.out.b1 7
            have e8 := blk_cell HS.out.b1 8
            have e9 := blk_cell HS.out.b1 9
            simp at e0 e1 e2 e3 e4 e5 e6 e7 e8 e9
            rcases HE.out with ⟨h1, rfl, g, cp, rfl, hrd⟩ | ⟨h1, rfl, rfl⟩
            · rcases HE2.out with ⟨h1', rfl, g', cp', rfl, hrd'⟩ | ⟨h1', rfl, rfl⟩
              · obtain ⟨bb, hbb⟩ : ∃ bb, decide (cOp.enc xx = cOp.enc xy) = bb := ⟨_, rfl⟩
                have HSB : Hid (∀ n, Calls Try.prog 12 #[.slice (some ⟨g, 0, none⟩) (cOp.enc xx).length cp, .slice (some ⟨g', 0, none⟩) (cOp.enc xy).length cp'] (wc.drewN n) fun e w' => e = .returned (.bool bb) ∧ w' = wc.drewN n) := fun n => by
                  refine (sameBytes_any _ _ _ _ _ (hrd.drewN n) (hrd'.drewN n)).mono ?_
                  rintro e w' ⟨rfl, rfl⟩
                  rw [hbb]
                  exact ⟨rfl, rfl⟩
                have hq : ∀ w, Sem.run Try.prog (binOp .eql 24 (.agg #[.int .u8 qdo, .string q1, .string q2, .string q3, .string q4, .int .i64 q5, .int .i64 q6, .int .i64 q7, .int .i64 q8, .int .i64 q9]) (.agg #[.int .u8 pdo, .string p1, .string p2, .string p3, .string p4, .int .i64 p5, .int .i64 p6, .int .i64 p7, .int .i64 p8, .int .i64 p9])) w = .ok (.bool bb) w := fun w => by
                  rw [eqlOp, ← hbb, enc_same cOp_law HOX.out h1 HOX'.out h1', HXX.out, HXY.out]
                clear hbb hrd hrd' h1 h1'
                go_wp2
                go_quiet ((go_at_call 12; exact Calls.quiet_of_same (HSB.out _)))
                go_wp2
                go_meet
                exact ⟨HE.below (below_drewN (Below.refl _ _) _), HS.drewN _⟩
              · go_wp2
                go_quiet (fail)
                go_wp2
                go_meet
                exact ⟨HE.out.below (below_drewN (Below.refl _ _) _), HS.out.drewN _⟩
            · go_wp2
              go_quiet (fail)
              go_wp2
              go_meet
              exact ⟨HE.out.below (below_drewN (Below.refl _ _) _), HS.out.drewN _⟩
          case rest =>
            clear HS HE HE2
            obtain ⟨HE, HS⟩ := hcut
            refine hK5 _ _ ?_
            refine wp_seq_k ?_
            intro K6 hK6
            go_cut [7] (fun _ wx => Hid (OPB w #[.int .u8 qdo, .string q1, .string q2, .string q3, .string q4, .int .i64 q5, .int .i64 q6, .int .i64 q7, .int .i64 q8, .int .i64 q9] #[.int .u8 pdo, .string p1, .string p2, .string p3, .string p4, .int .i64 p5, .int .i64 p6, .int .i64 p7, .int .i64 p8, .int .i64 p9] #[.int .i64 qnow, .slice A1 qrs.length c1, .int .i64 qq, .slice A2 qqs.length c2, .int .i64 qat, .bool qhad, .slice A3 qls.length c3, .slice A4 qjs.length c4, .int .i64 qla, .slice A5 qws.length c5, .bool qdr, .int .i64 at', .int .u8 (mo : Int)] wx))
            case first =>
              rcases HE.out with ⟨h1, rfl, g, cp, rfl, hrd⟩ | ⟨h1, rfl, rfl⟩
              · have HCT := Lib.hid (fun k (hk : k < (cOp.enc xx).length) => cOp_law.cut (x := xx) (k := k) HOX.out h1 hk)
                have HMR := Lib.hid (fun b => cOp_law.more (x := xx) b HOX.out h1)
                generalize hax : cOp.enc xx = ax at *
                clear hax
                obtain ⟨nx, hnx⟩ : ∃ n, ax.length = n := ⟨_, rfl⟩
                have hcap : nx ≤ cp := by
                  obtain ⟨_, c9, h9, h10, _⟩ := hrd.form
                  injection h9 with _ _ h9
                  omega
                have HRX := Lib.hid hrd
                have HNX := Lib.hid hnx
                have HPX' : Hid (1 ≤ nx) := by show _ ≤ _; rw [← hnx]; exact HPX.out
                have HLX' : Hid (nx ≤ 99999999999) := by show _ ≤ _; rw [← hnx]; exact HLX2.out
                obtain ⟨r, hr0, hr1, hc⟩ := pick_any at' nx wc (by have := HPX'.out; omega) (by have := HLX'.out; omega)
                obtain ⟨kk, rfl⟩ : ∃ kk : Nat, r = kk := ⟨r.toNat, by omega⟩
                have hkk : kk < nx := by omega
                have HC := Lib.hid hc
                have m11 := blk_cell HS.out.b2 11
                simp at m11
                rw [hnx] at HRX ⊢
                clear hc hrd h1 hr0 hnx
                go_wp2_with fail
                refine HC.out.mono ?_
                rintro e w1 ⟨rfl, rfl⟩
                clear HC
                go_wp2_with fail
                refine (rdOp_any _ (ax.take kk) _ (HRX.out.take kk (by rw [HNX.out]; omega)) (by rw [List.length_take]; have := HLX'.out; omega)).mono ?_
                rintro e w1 ⟨h | ⟨_, rfl⟩, hb⟩
                · rw [HCT.out kk (by rw [HNX.out]; exact hkk)] at h; cases h.1
                have HS1 := Lib.hid (HS.out.below hb)
                have HRX1 := Lib.hid (HRX.out.below hb)
                clear hb m11
                go_upto_region 9 with fail
                go_cut [14] (fun s wx => s = .int .i64 10 ∧ Hid (OPB w #[.int .u8 qdo, .string q1, .string q2, .string q3, .string q4, .int .i64 q5, .int .i64 q6, .int .i64 q7, .int .i64 q8, .int .i64 q9] #[.int .u8 pdo, .string p1, .string p2, .string p3, .string p4, .int .i64 p5, .int .i64 p6, .int .i64 p7, .int .i64 p8, .int .i64 p9] #[.int .i64 qnow, .slice A1 qrs.length c1, .int .i64 qq, .slice A2 qqs.length c2, .int .i64 qat, .bool qhad, .slice A3 qls.length c3, .slice A4 qjs.length c4, .int .i64 qla, .slice A5 qws.length c5, .bool qdr, .int .i64 at', .int .u8 (mo : Int)] wx))
                case first =>
                  have HS2 := Lib.hid (HS1.out.alloc (.cells #[.int .u8 0, .string ⟨#[]⟩, .string ⟨#[]⟩, .string ⟨#[]⟩, .string ⟨#[]⟩, .int .i64 0, .int .i64 0, .int .i64 0, .int .i64 0, .int .i64 0] 24))
                  have HRX2 := Lib.hid (HRX1.out.below ((Below.refl _ _).alloc (Nat.le_refl _) (.cells #[.int .u8 0, .string ⟨#[]⟩, .string ⟨#[]⟩, .string ⟨#[]⟩, .string ⟨#[]⟩, .int .i64 0, .int .i64 0, .int .i64 0, .int .i64 0, .int .i64 0] 24)))
                  generalize hw2 : w1.alloc (.cells #[.int .u8 0, .string ⟨#[]⟩, .string ⟨#[]⟩, .string ⟨#[]⟩, .string ⟨#[]⟩, .int .i64 0, .int .i64 0, .int .i64 0, .int .i64 0, .int .i64 0] 24) = w2 at HS2 HRX2 ⊢
                  clear hw2
                  have HM12 := Lib.hid (show w2.cell? ⟨w.heap.size + 1 + 1, 12, none⟩ = some (.int .u8 (mo : Int)) by rw [blk_cell HS2.out.b2]; rfl)
                  generalize hbase : (#[_, _, _, _, _, _, _, _, _, _, _, _, _, _, _, _, _, _, _, _, _, _, _, _, _, _, _, _, _, _, _, _, _, _, _, _, _, _, _, _, _, _, _, _, _, _, _, _, _, _, _, _, _, _, _, _, _, _, _, _, _, _, _, _, _, _, _, _, _, _, _, _, _, _, _, _, _, _, _, _, _, _, _, _, _, _, _, _, _, _, _, _, _, _, _, _, _, _, _, _, _, _, _, _, _, _, _, _, _, _, _, _, _, _, _, _, _, _, _, _, _, _, _, _, _, _, _, _, _, _, _, _, _, _, _, _, _, _, _, _, _, _, _, _, _, _, _, _, _, _, _, _, _, _] : Array Value) = base
                  have hb7 : base[7]? = some (.slice (some ⟨g, 0, none⟩) nx cp) := by rw [← hbase]; rfl
                  have hb5 : base[5]? = some (.pointer (some ⟨w.heap.size + 1 + 1, 0, none⟩)) := by rw [← hbase]; rfl
                  have hbs : base.size = 154 := by rw [← hbase]; rfl
                  have HBS := Lib.hid hbase
                  clear hbase
                  rename_i hJ hK
                  refine more_region ⟨w2, base, sl9, 7, 5, .slice (some ⟨g, 0, none⟩) nx cp, ax, w.heap.size + 1 + 1, mo, zOp, 24⟩ "outright.go:57" 8 42 9 sorted9 sl9_inj (fun i hi => by rw [hbs]; exact (show ∀ i < 13, sl9 i < 154 by decide) i hi) (fun i h1 h2 => (free9 i h1 h2).1) (fun i h1 h2 => (free9 i h1 h2).2) hb7 hb5 hmo HRX2.out (by rw [HNX.out]; have := HLX'.out; omega) HM12.out (read_op_bad _ (by rw [List.length_append, HNX.out]; have := HLX'.out; simp; omega) (HMR.out _)) call_op zero_op (show 24 ≠ 5 by decide) (by kernel_rfl) (by kernel_rfl) ?_
                  intro a W hsz hdf hsame h12 hbel
                  obtain ⟨tm, df⟩ := a
                  have hdf' : df = [] := hdf
                  subst hdf'
                  have h14 : tm.getD 14 undef = .int .i64 10 := h12.eval
                  have hfr := setAll_at tm [13, 14, 99, 100, 101, 102, 103, 104, 105, 106, 107, 108] base hsz (fun i hi => hsame i (fun j h1 h2 e => hi (by rw [e]; exact in9 j h1 h2)))
                  have HS3 := Lib.hid (HS2.out.below hbel)
                  refine hK _ _ ?_
                  rw [← hfr, ← HBS.out]
                  simp only [setAll, List.setIfInBounds_toArray, List.set_cons_zero, List.set_cons_succ]
                  rw [h14]
                  go_meet
                  exact ⟨rfl, HS3⟩
                case rest =>
                  obtain ⟨rfl, HS2⟩ := hcut
                  go_wp2
                  go_meet
                  exact HS2
              · go_wp2
                go_meet
                exact HS
            case rest =>
              clear HS HE
              have HS := hcut
              refine hK6 _ _ ?_
              exact cuts_tail _ _ _ _ qnow qrs qq qqs qat qhad qls qjs qla qws qdr A1 A2 A3 A4 A5 c1 c2 c3 c4 c5 yy at' mo hmo HY.out HOY.out HSK.out HPS.out HLS2.out HS.out
end
end Go.Proofs.Ytckooioikcenmaa

/- CodecBack: the walk. Conditions: sizes a machine can have. -/
import Derived.Test.YtckooioikcenmaaCkA0
import Derived.Deep.DeepCutAuto
namespace Go.Proofs.Ytckooioikcenmaa
open Go.RowKit
/-- the boxes of an operation and of a shop, in a world later on -/
structure OSB (w : World) (cs ds : Array Value) (W : World) : Prop where
  b0 : W.heap[w.heap.size]? = some (.cells cs 24)
  b1 : W.heap[w.heap.size + 1]? = some (.cells ds 35)
  bel : Below w.heap.size w W
theorem OSB.first (w : World) (cs ds : Array Value) : OSB w cs ds ((w.alloc (.cells cs 24)).alloc (.cells ds 35)) := by
  refine ⟨blk_alloc (alloc_at _ _) _, ?_, ((Below.refl _ _).alloc (Nat.le_refl _) _).alloc (by simp) _⟩
  have := alloc_at (w.alloc (.cells cs 24)) (.cells ds 35)
  rw [show (w.alloc (.cells cs 24)).heap.size = w.heap.size + 1 by simp] at this
  exact this
theorem OSB.below {w W W' : World} {cs ds : Array Value} (h : OSB w cs ds W) (hb : Below W.heap.size W W') : OSB w cs ds W' := ⟨blk_below hb h.b0, blk_below hb h.b1, h.bel.trans (hb.mono h.bel.size)⟩
theorem OSB.alloc {w W : World} {cs ds : Array Value} (h : OSB w cs ds W) (o : Obj) : OSB w cs ds (W.alloc o) := h.below ((Below.refl _ _).alloc (Nat.le_refl _) o)
theorem OSB.drewN {w W : World} {cs ds : Array Value} (h : OSB w cs ds W) (n : Nat) : OSB w cs ds (W.drewN n) := h.below (below_drewN (Below.refl _ _) n)
def mx2 (x y : Int) : Int := if y > x then y else x
theorem run_max4 (a b c d : Int) (w : World) : Sem.run Try.prog (Builtin.max_ #[3, 3, 3, 3] 3 #[.int .i64 a, .int .i64 b, .int .i64 c, .int .i64 d]) w = .ok (.int .i64 (mx2 (mx2 (mx2 a b) c) d)) w := rfl
theorem mx_big {a b c d : Int} (h : 100 < a ∨ 100 < b ∨ 100 < c ∨ 100 < d) : 100 < mx2 (mx2 (mx2 a b) c) d := by
  unfold mx2
  split <;> split <;> split <;> omega
section
attribute [local go_sem] frozen?_alloc_cells World.cell?_alloc_some
set_option maxRecDepth 20000 in
set_option maxHeartbeats 8000000 in
theorem back23 (x : DOp) (y : DShop) (bs : List UInt8) (us vs : List Value) (v : Value) (w : World) (ho : cOp.okr x) (hs : cShop.okr y) (hsz : shopSz y) (hu : mOp.rep w.heap.size w us x) (hv : mShop.rep w.heap.size w vs y) (hr : RdB w v bs) :
    Calls Try.prog 3 #[.agg us.toArray, .agg vs.toArray, v] w (SPost w) := by
  obtain ⟨Av, cv, rfl, hv1, hv2⟩ := hr.form
  obtain ⟨qdo, q1, q2, q3, q4, q5, q6, q7, q8, q9⟩ := x
  obtain rfl := mOp_form hu
  have HX := Lib.hid hu
  have HY := Lib.hid hv
  have HOX := Lib.hid ho
  have HOY := Lib.hid hs
  have HSZ := Lib.hid hsz
  have HR := Lib.hid hr
  obtain ⟨qnow, qrs, ⟨qq, qqs, qat, qhad, qls⟩, qjs, qla, qws, qdr⟩ := y
  obtain ⟨v1, v2, v3, v4, v5, rfl, hu1, hu2, hu3, hu4, hu5, _⟩ := mShop_form hv
  obtain ⟨A1, c1, rfl⟩ := hu1.form
  obtain ⟨A2, c2, rfl⟩ := hu2.form
  obtain ⟨A3, c3, rfl⟩ := hu3.form
  obtain ⟨A4, c4, rfl⟩ := hu4.form
  obtain ⟨A5, c5, rfl⟩ := hu5.form
  clear hu hv ho hs hsz hr hu1 hu2 hu3 hu4 hu5
  have HS := Lib.hid (OSB.first w #[.int .u8 qdo, .string q1, .string q2, .string q3, .string q4, .int .i64 q5, .int .i64 q6, .int .i64 q7, .int .i64 q8, .int .i64 q9] #[.int .i64 qnow, .slice A1 qrs.length c1, .int .i64 qq, .slice A2 qqs.length c2, .int .i64 qat, .bool qhad, .slice A3 qls.length c3, .slice A4 qjs.length c4, .int .i64 qla, .slice A5 qws.length c5, .bool qdr])
  obtain ⟨yy, hyy⟩ : ∃ yy : DShop, yy = (qnow, qrs, (qq, qqs, qat, qhad, qls), qjs, qla, qws, qdr) := ⟨_, rfl⟩
  have HYY := Lib.hid hyy
  rw [← hyy] at HY HOY HSZ
  clear hyy
  obtain ⟨xx, hxx⟩ : ∃ xx : DOp, xx = (qdo, q1, q2, q3, q4, q5, q6, q7, q8, q9) := ⟨_, rfl⟩
  have HXX := Lib.hid hxx
  rw [← hxx] at HX HOX
  clear hxx
  have hm : bs.length ≤ 9223372036854775807 := by simp only [maxLen] at hv2; omega
  obtain ⟨nb, hnb⟩ : ∃ n, bs.length = n := ⟨_, rfl⟩
  have HNB := Lib.hid hnb
  rw [hnb] at HR hm ⊢
  clear hnb hv1 hv2
  go_enter Try.func3, Try.ntmps3
  go_upto_region 1 with fail
  go_cut [53] (fun s wx => ∃ g : Bool, s = .bool g ∧ Hid (g = false → (q1.size ≤ 3000 ∧ q2.size ≤ 3000 ∧ q3.size ≤ 3000 ∧ q4.size ≤ 3000 ∧ gShop yy = false ∧ nb ≤ 20000)) ∧ Hid (OSB w #[.int .u8 qdo, .string q1, .string q2, .string q3, .string q4, .int .i64 q5, .int .i64 q6, .int .i64 q7, .int .i64 q8, .int .i64 q9] #[.int .i64 qnow, .slice A1 qrs.length c1, .int .i64 qq, .slice A2 qqs.length c2, .int .i64 qat, .bool qhad, .slice A3 qls.length c3, .slice A4 qjs.length c4, .int .i64 qla, .slice A5 qws.length c5, .bool qdr] wx))
  case first =>
    by_cases e1 : 3000 < q1.size
    · go_wp2
      go_meet
      exact ⟨true, rfl, fun h => (by cases h), HS⟩
    by_cases e2 : 3000 < q2.size
    · go_wp2
      go_meet
      exact ⟨true, rfl, fun h => (by cases h), HS⟩
    by_cases e3 : 3000 < q3.size
    · go_wp2
      go_meet
      exact ⟨true, rfl, fun h => (by cases h), HS⟩
    by_cases e4 : 3000 < q4.size
    · go_wp2
      go_meet
      exact ⟨true, rfl, fun h => (by cases h), HS⟩
    go_wp2_with fail
    refine (great22_any yy _ _ (mShop_wide HS.out.bel.size (mShop_law.keep HY.out HS.out.bel)) HSZ.out).mono ?_
    rintro e w1 ⟨rfl, hb⟩
    have HS1 := Lib.hid (HS.out.below hb)
    clear hb
    obtain ⟨g, hg⟩ : ∃ g, gShop yy = g := ⟨_, rfl⟩
    rw [hg]
    have HG := Lib.hid hg
    clear hg
    cases g with
    | true =>
      go_wp2
      go_meet
      exact ⟨true, rfl, fun h => (by cases h), HS1⟩
    | false =>
      by_cases e5 : 20000 < nb
      · go_wp2
        go_meet
        exact ⟨_, rfl, fun h => (by simp at h; omega), HS1⟩
      · go_wp2
        go_meet
        exact ⟨_, rfl, fun _ => ⟨by omega, by omega, by omega, by omega, HG.out, by omega⟩, HS1⟩
  case rest =>
    obtain ⟨g, rfl, HF, HS1⟩ := hcut
    go_upto_if 53 with fail
    go_cut [] (fun wx => Hid (q1.size ≤ 3000 ∧ q2.size ≤ 3000 ∧ q3.size ≤ 3000 ∧ q4.size ≤ 3000 ∧ gShop yy = false ∧ nb ≤ 20000) ∧ Hid (OSB w #[.int .u8 qdo, .string q1, .string q2, .string q3, .string q4, .int .i64 q5, .int .i64 q6, .int .i64 q7, .int .i64 q8, .int .i64 q9] #[.int .i64 qnow, .slice A1 qrs.length c1, .int .i64 qq, .slice A2 qqs.length c2, .int .i64 qat, .bool qhad, .slice A3 qls.length c3, .slice A4 qjs.length c4, .int .i64 qla, .slice A5 qws.length c5, .bool qdr] wx))
    case first =>
      cases g with
      | true =>
        go_wp2_with fail
        refine (awake23 _).mono ?_
        rintro e w2 ⟨rfl, hb⟩
        go_wp2
        go_ret
        exact ⟨rfl, HS1.out.bel.trans (hb.mono HS1.out.bel.size)⟩
      | false =>
        have HF2 := Lib.hid (HF.out rfl)
        go_wp2
        go_meet
        exact ⟨HF2, HS1⟩
    case rest =>
      clear HF HS HS1
      obtain ⟨HF, HS⟩ := hcut
      apply_assumption
      refine wp_seq_k ?_
      intro K2 hK2
      go_cut [] (fun wx => Hid (OSB w #[.int .u8 qdo, .string q1, .string q2, .string q3, .string q4, .int .i64 q5, .int .i64 q6, .int .i64 q7, .int .i64 q8, .int .i64 q9] #[.int .i64 qnow, .slice A1 qrs.length c1, .int .i64 qq, .slice A2 qqs.length c2, .int .i64 qat, .bool qhad, .slice A3 qls.length c3, .slice A4 qjs.length c4, .int .i64 qla, .slice A5 qws.length c5, .bool qdr] wx))
      case first =>
        have hsm : cOp.sm xx := by
          rw [HXX.out]
          obtain ⟨h1, h2, h3, h4, _⟩ := HF.out
          exact ⟨trivial, by show q1.size ≤ 30000; omega, by show q2.size ≤ 30000; omega, by show q3.size ≤ 30000; omega, by show q4.size ≤ 30000; omega, trivial, trivial, trivial, trivial, trivial⟩
        have hpp : bOp.P xx := by
          rw [HXX.out]
          obtain ⟨h1, h2, h3, h4, _⟩ := HF.out
          exact ⟨trivial, by show q1.size ≤ 30000; omega, by show q2.size ≤ 30000; omega, by show q3.size ≤ 30000; omega, by show q4.size ≤ 30000; omega, trivial, trivial, trivial, trivial, trivial⟩
        have HSM := Lib.hid hsm
        have HLEN := Lib.hid (op_len HOX.out hpp)
        clear hsm hpp
        have d0 := blk_cell HS.out.b0 0
        have d1 := blk_cell HS.out.b0 1
        have d2 := blk_cell HS.out.b0 2
        have d3 := blk_cell HS.out.b0 3
        have d4 := blk_cell HS.out.b0 4
        have d5 := blk_cell HS.out.b0 5
        have d6 := blk_cell HS.out.b0 6
        have d7 := blk_cell HS.out.b0 7
        have d8 := blk_cell HS.out.b0 8
        have d9 := blk_cell HS.out.b0 9
        simp at d0 d1 d2 d3 d4 d5 d6 d7 d8 d9
        go_wp2_with fail
        refine (wOp_any xx HOX.out HSM.out HLEN.out _ _ (mOp_wide HS.out.bel.size (mOp_law.keep HX.out HS.out.bel))).mono ?_
        rintro e w1 ⟨hb, h1⟩
        have HS1 := Lib.hid (HS.out.below hb)
        clear hb d0 d1 d2 d3 d4 d5 d6 d7 d8 d9
        have d0 := blk_cell HS1.out.b0 0
        have d1 := blk_cell HS1.out.b0 1
        have d2 := blk_cell HS1.out.b0 2
        have d3 := blk_cell HS1.out.b0 3
        have d4 := blk_cell HS1.out.b0 4
        have d5 := blk_cell HS1.out.b0 5
        have d6 := blk_cell HS1.out.b0 6
        have d7 := blk_cell HS1.out.b0 7
        have d8 := blk_cell HS1.out.b0 8
        have d9 := blk_cell HS1.out.b0 9
        simp at d0 d1 d2 d3 d4 d5 d6 d7 d8 d9
        cases hk : cOp.okt xx with
        | true =>
          rw [if_pos hk] at h1
          obtain ⟨vb, rfl, hown⟩ := h1
          obtain ⟨Ab, cb, rfl, _, _⟩ := hown.reads.form
          obtain ⟨nx, hnx⟩ : ∃ n, (cOp.enc xx).length = n := ⟨_, rfl⟩
          have HL := Lib.hid HLEN.out
          rw [hnx] at hown ⊢
          have HOWN := Lib.hid hown.reads
          have HRD := Lib.hid (cOp_law.reads HOX.out hk)
          have hq := neqOp qdo q1 q2 q3 q4 q5 q6 q7 q8 q9
          clear hown hk hnx
          go_wp2_with fail
          refine (rdOp_any _ _ _ HOWN.out HL.out).mono ?_
          rintro e w2 ⟨h | ⟨h, _⟩, hb⟩
          · obtain ⟨_, us', rfl, hrep⟩ := h
            rw [HRD.out.2, HXX.out] at hrep
            obtain rfl := mOp_form hrep
            have HS2 := Lib.hid (HS1.out.below hb)
            clear hb hrep d0 d1 d2 d3 d4 d5 d6 d7 d8 d9
            have d0 := blk_cell HS2.out.b0 0
            have d1 := blk_cell HS2.out.b0 1
            have d2 := blk_cell HS2.out.b0 2
            have d3 := blk_cell HS2.out.b0 3
            have d4 := blk_cell HS2.out.b0 4
            have d5 := blk_cell HS2.out.b0 5
            have d6 := blk_cell HS2.out.b0 6
            have d7 := blk_cell HS2.out.b0 7
            have d8 := blk_cell HS2.out.b0 8
            have d9 := blk_cell HS2.out.b0 9
            simp at d0 d1 d2 d3 d4 d5 d6 d7 d8 d9
            go_wp2
            go_meet
            exact Lib.hid (HS2.out.alloc _)
          · rw [HRD.out.1] at h; cases h
        | false =>
          rw [if_neg (by rw [hk]; simp)] at h1
          subst h1
          have hbig : 100 < q1.size ∨ 100 < q2.size ∨ 100 < q3.size ∨ 100 < q4.size := by
            rw [HXX.out] at hk
            have hk' : (true && (decide (q1.size ≤ 100) && (decide (q2.size ≤ 100) && (decide (q3.size ≤ 100) && (decide (q4.size ≤ 100) && (true && (true && (true && (true && true))))))))) = false := hk
            simp at hk'
            omega
          clear hk
          obtain ⟨M, hM⟩ : ∃ M, mx2 (mx2 (mx2 (q1.size : Int) q2.size) q3.size) q4.size = M := ⟨_, rfl⟩
          have hmx := run_max4 q1.size q2.size q3.size q4.size
          rw [hM] at hmx
          have hM2 : 100 < M := by rw [← hM]; exact mx_big (by omega)
          clear hM hbig
          go_wp2
          go_meet
          exact HS1
      case rest =>
        clear HS
        have HS := hcut
        refine hK2 _ _ ?_
        refine wp_seq_k ?_
        intro K3 hK3
        go_cut [] (fun wx => Hid (OSB w #[.int .u8 qdo, .string q1, .string q2, .string q3, .string q4, .int .i64 q5, .int .i64 q6, .int .i64 q7, .int .i64 q8, .int .i64 q9] #[.int .i64 qnow, .slice A1 qrs.length c1, .int .i64 qq, .slice A2 qqs.length c2, .int .i64 qat, .bool qhad, .slice A3 qls.length c3, .slice A4 qjs.length c4, .int .i64 qla, .slice A5 qws.length c5, .bool qdr] wx))
        case first =>
          have HSK := Lib.hid (shop_ok HOY.out HF.out.2.2.2.2.1)
          have s0 := blk_cell HS.out.b1 0
          have s1 := blk_cell HS.out.b1 1
          have s2 := blk_cell HS.out.b1 2
          have s3 := blk_cell HS.out.b1 3
          have s4 := blk_cell HS.out.b1 4
          have s5 := blk_cell HS.out.b1 5
          have s6 := blk_cell HS.out.b1 6
          have s7 := blk_cell HS.out.b1 7
          have s8 := blk_cell HS.out.b1 8
          have s9 := blk_cell HS.out.b1 9
          have s10 := blk_cell HS.out.b1 10
          simp at s0 s1 s2 s3 s4 s5 s6 s7 s8 s9 s10
          go_wp2_with fail
          refine (wShop_any yy HOY.out HSK.out.1 HSK.out.2 _ _ (mShop_wide HS.out.bel.size (mShop_law.keep HY.out HS.out.bel))).mono ?_
          rintro e w1 ⟨hb, h1⟩
          have HS1 := Lib.hid (HS.out.below hb)
          clear s0 s1 s2 s3 s4 s5 s6 s7 s8 s9 s10 hb
          cases hk : cShop.okt yy with
          | true =>
            rw [if_pos hk] at h1
            obtain ⟨vb, rfl, hown⟩ := h1
            obtain ⟨Ab, cb, rfl, _, _⟩ := hown.reads.form
            obtain ⟨nx, hnx⟩ : ∃ n, (cShop.enc yy).length = n := ⟨_, rfl⟩
            have HL := Lib.hid HSK.out.2
            rw [hnx] at hown ⊢
            have HOWN := Lib.hid hown.reads
            have HRD := Lib.hid (cShop_law.reads HOY.out hk)
            clear hown hk hnx
            go_wp2_with fail
            refine (rdShop_any _ _ _ HOWN.out HL.out).mono ?_
            rintro e w2 ⟨h | ⟨h, _⟩, hb⟩
            · obtain ⟨_, us', rfl, hrep⟩ := h
              rw [HRD.out.2] at hrep
              have HP := Lib.hid hrep
              rw [HYY.out] at hrep
              obtain ⟨x1, x2, x3, x4, x5, rfl, l1, l2, l3, l4, l5, _⟩ := mShop_form hrep
              obtain ⟨E1, f1, rfl⟩ := l1.form
              obtain ⟨E2, f2, rfl⟩ := l2.form
              obtain ⟨E3, f3, rfl⟩ := l3.form
              obtain ⟨E4, f4, rfl⟩ := l4.form
              obtain ⟨E5, f5, rfl⟩ := l5.form
              have HS2 := Lib.hid (HS1.out.below hb)
              clear hb hrep l1 l2 l3 l4 l5
              have s0 := blk_cell HS2.out.b1 0
              have s1 := blk_cell HS2.out.b1 1
              have s2 := blk_cell HS2.out.b1 2
              have s3 := blk_cell HS2.out.b1 3
              have s4 := blk_cell HS2.out.b1 4
              have s5 := blk_cell HS2.out.b1 5
              have s6 := blk_cell HS2.out.b1 6
              have s7 := blk_cell HS2.out.b1 7
              have s8 := blk_cell HS2.out.b1 8
              have s9 := blk_cell HS2.out.b1 9
              have s10 := blk_cell HS2.out.b1 10
              simp at s0 s1 s2 s3 s4 s5 s6 s7 s8 s9 s10
              go_wp2_with fail
              trace_state
              refine (same22_any yy w2.heap.size _ _ _ (mShop_law.keep HP.out ((Below.refl _ _).alloc (Nat.le_refl _) _)) (mShop_wide HS2.out.bel.size (mShop_law.keep HY.out (HS2.out.bel.alloc HS2.out.bel.size _))) (by simp)).mono ?_
              rintro e w3 ⟨rfl, hb⟩
              have HS3 := Lib.hid ((HS2.out.alloc _).below hb)
              clear s0 s1 s2 s3 s4 s5 s6 s7 s8 s9 s10 hb
              go_wp2
              go_meet
              exact HS3
            · rw [HRD.out.1] at h; cases h
          | false =>
            rw [if_neg (by rw [hk]; simp)] at h1
            subst h1
            clear hk
            go_wp2
            go_meet
            exact HS1
        case rest =>
          clear HS
          have HS := hcut
          refine hK3 _ _ ?_
          refine wp_seq_k ?_
          intro K4 hK4
          go_cut [] (fun wx => Hid (OSB w #[.int .u8 qdo, .string q1, .string q2, .string q3, .string q4, .int .i64 q5, .int .i64 q6, .int .i64 q7, .int .i64 q8, .int .i64 q9] #[.int .i64 qnow, .slice A1 qrs.length c1, .int .i64 qq, .slice A2 qqs.length c2, .int .i64 qat, .bool qhad, .slice A3 qls.length c3, .slice A4 qjs.length c4, .int .i64 qla, .slice A5 qws.length c5, .bool qdr] wx))
          case first =>
            go_wp2_with fail
            refine (rdOp_any _ bs _ (HR.out.below HS.out.bel) (by rw [HNB.out]; have := HF.out.2.2.2.2.2; omega)).mono ?_
            rintro e w1 ⟨h | ⟨_, rfl⟩, hb⟩
            · obtain ⟨ha, us', rfl, hrep⟩ := h
              obtain ⟨hw1, hw2, hw3⟩ := cOp_law.was ha
              have HS1 := Lib.hid (HS.out.below hb)
              have hlb : bs.length ≤ 20000 := by rw [HNB.out]; exact HF.out.2.2.2.2.2
              generalize (cOp.rd bs ⟨0, false⟩).1 = z at *
              have HSM := Lib.hid (cOp_fit z hw3 (by rw [← hw1]; exact hlb))
              have HLE : Hid ((cOp.enc z).length ≤ 100000000000) := by show _ ≤ _; rw [← hw1]; omega
              have HW1 := Lib.hid hw1
              have HW2 := Lib.hid hw2
              have HW3 := Lib.hid hw3
              have HP := Lib.hid hrep
              obtain ⟨r0, r1, r2, r3, r4, r5, r6, r7, r8, r9⟩ := z
              obtain rfl := mOp_form hrep
              clear hw1 hw2 hw3 hrep ha hlb
              have HBA := Lib.hid ((Below.refl w1.heap.size w1).alloc (Nat.le_refl _) (.cells #[.int .u8 r0, .string r1, .string r2, .string r3, .string r4, .int .i64 r5, .int .i64 r6, .int .i64 r7, .int .i64 r8, .int .i64 r9] 24))
              go_wp2_with fail
              refine (wOp_any _ HW2.out HSM.out HLE.out _ _ (mOp_wide HBA.out.size (mOp_law.keep HP.out HBA.out))).mono ?_
              rintro e w2 ⟨hb2, h1⟩
              rw [if_pos HW3.out, ← HW1.out] at h1
              obtain ⟨vb, rfl, hown⟩ := h1
              obtain ⟨Ab, cb, rfl, _, _⟩ := hown.reads.form
              have HS2 := Lib.hid ((HS1.out.below HBA.out).below hb2)
              have HOWN := Lib.hid hown.reads
              rw [HNB.out] at HOWN ⊢
              clear hb hb2 hown
              go_wp2_with fail
              refine (sameBytes_any _ _ bs bs _ HOWN.out (HR.out.below HS2.out.bel)).mono ?_
              rintro e w3 ⟨rfl, rfl⟩
              rw [decide_eq_true rfl]
              go_wp2
              go_meet
              exact HS2
            · have HS1 := Lib.hid (HS.out.below hb)
              clear hb
              go_wp2
              go_meet
              exact Lib.hid (HS1.out.alloc _)
          case rest =>
            clear HS
            have HS := hcut
            refine hK4 _ _ ?_
            refine wp_seq_k ?_
            intro K5 hK5
            go_cut [] (fun wx => Hid (OSB w #[.int .u8 qdo, .string q1, .string q2, .string q3, .string q4, .int .i64 q5, .int .i64 q6, .int .i64 q7, .int .i64 q8, .int .i64 q9] #[.int .i64 qnow, .slice A1 qrs.length c1, .int .i64 qq, .slice A2 qqs.length c2, .int .i64 qat, .bool qhad, .slice A3 qls.length c3, .slice A4 qjs.length c4, .int .i64 qla, .slice A5 qws.length c5, .bool qdr] wx))
            case first =>
              go_wp2_with fail
              refine (rdShop_any _ bs _ (HR.out.below HS.out.bel) (by rw [HNB.out]; have := HF.out.2.2.2.2.2; omega)).mono ?_
              rintro e w1 ⟨h | ⟨_, rfl⟩, hb⟩
              · obtain ⟨ha, us', rfl, hrep⟩ := h
                obtain ⟨hw1, hw2, hw3⟩ := cShop_law.was ha
                have HS1 := Lib.hid (HS.out.below hb)
                have hlb : bs.length ≤ 20000 := by rw [HNB.out]; exact HF.out.2.2.2.2.2
                generalize (cShop.rd bs ⟨0, false⟩).1 = z at *
                have HSM := Lib.hid (cShop_fit z hw3 (by rw [← hw1]; exact hlb))
                have HLE : Hid ((cShop.enc z).length ≤ 100000000000) := by show _ ≤ _; rw [← hw1]; omega
                have HW1 := Lib.hid hw1
                have HW2 := Lib.hid hw2
                have HW3 := Lib.hid hw3
                have HP := Lib.hid hrep
                obtain ⟨z0, z1, ⟨z2, z3, z4, z5, z6⟩, z7, z8, z9, z10⟩ := z
                obtain ⟨x1, x2, x3, x4, x5, rfl, l1, l2, l3, l4, l5, _⟩ := mShop_form hrep
                obtain ⟨E1, f1, rfl⟩ := l1.form
                obtain ⟨E2, f2, rfl⟩ := l2.form
                obtain ⟨E3, f3, rfl⟩ := l3.form
                obtain ⟨E4, f4, rfl⟩ := l4.form
                obtain ⟨E5, f5, rfl⟩ := l5.form
                clear hw1 hw2 hw3 hrep ha hlb l1 l2 l3 l4 l5
                have HBA := Lib.hid ((Below.refl w1.heap.size w1).alloc (Nat.le_refl _) (.cells #[.int .i64 z0, .slice E1 z1.length f1, .int .i64 z2, .slice E2 z3.length f2, .int .i64 z4, .bool z5, .slice E3 z6.length f3, .slice E4 z7.length f4, .int .i64 z8, .slice E5 z9.length f5, .bool z10] 35))
                go_wp2_with fail
                refine (wShop_any _ HW2.out HSM.out HLE.out _ _ (mShop_wide HBA.out.size (mShop_law.keep HP.out HBA.out))).mono ?_
                rintro e w2 ⟨hb2, h1⟩
                rw [if_pos HW3.out, ← HW1.out] at h1
                obtain ⟨vb, rfl, hown⟩ := h1
                obtain ⟨Ab, cb, rfl, _, _⟩ := hown.reads.form
                have HS2 := Lib.hid ((HS1.out.below HBA.out).below hb2)
                have HOWN := Lib.hid hown.reads
                rw [HNB.out] at HOWN ⊢
                clear hb hb2 hown
                go_wp2_with fail
                refine (sameBytes_any _ _ bs bs _ HOWN.out (HR.out.below HS2.out.bel)).mono ?_
                rintro e w3 ⟨rfl, rfl⟩
                rw [decide_eq_true rfl]
                go_wp2
                go_meet
                exact HS2
              · have HS1 := Lib.hid (HS.out.below hb)
                clear hb
                go_wp2
                go_meet
                exact Lib.hid (HS1.out.alloc _)
            case rest =>
              clear HS
              have HS := hcut
              refine hK5 _ _ ?_
              go_wp2_with fail
              refine (awake23 _).mono ?_
              rintro e w2 ⟨rfl, hb⟩
              go_wp2
              go_ret
              exact ⟨rfl, HS.out.bel.trans (hb.mono HS.out.bel.size)⟩
end
end Go.Proofs.Ytckooioikcenmaa

/- The law LogEnded walked. Conditions: the library's variables read as they are laid. -/
import Derived.Test.YthehpafkaefohaaGreatDoorCkM26
namespace Go.Proofs.YthehpafkaefohaaGreatDoor
open Go.RowKit
set_option maxRecDepth 20000 in
set_option maxHeartbeats 4000000 in
theorem logEnded_any (most arm : Int) (m0 : 0 ≤ most) (m1 : most ≤ 65535) (a0 : 0 ≤ arm) (a1 : arm ≤ 65535) (vb vm : Value) (bs : List (List (List UInt8))) (mr : List (List UInt8)) (w : World) (hrb : RdLL w vb bs) (hrm : RdL w vm mr) (hg : GOK w) :
    Calls Tryz.prog 4 #[vb, .int .u16 most, .int .u16 arm, vm] w fun e w' => e = .returned (.bool true) ∧ Below w.heap.size w w' := by
  have HG := Lib.hid hg
  have HRB := Lib.hid hrb
  have HRM := Lib.hid hrm
  obtain ⟨A, c, rfl, _, _⟩ := hrb.form
  obtain ⟨B, f, rfl, _, _⟩ := hrm.form
  obtain ⟨n, hn⟩ : ∃ n, bs.length = n := ⟨_, rfl⟩
  have HN := Lib.hid hn
  rw [hn] at HRB ⊢
  obtain ⟨Lm, hLm⟩ : ∃ n, mr.length = n := ⟨_, rfl⟩
  rw [hLm] at HRM ⊢
  obtain ⟨M, hM⟩ : ∃ M, 10 + most % 400 = M := ⟨_, rfl⟩
  have HM1 : Hid (10 ≤ M ∧ M ≤ 409) := by show _ ∧ _; omega
  have e1 : IntKind.i64.wrap (most % 400) = most % 400 := by rw [IntKind.wrap_i64]; omega
  have e2 : IntKind.i64.wrap (arm % 100) = arm % 100 := by rw [IntKind.wrap_i64]; omega
  have e3 : IntKind.i64.wrap (10 + most % 400) = M := by rw [IntKind.wrap_i64]; omega
  have e4 : most.tmod 400 = most % 400 := Int.tmod_eq_emod_of_nonneg m0
  have e5 : arm.tmod 100 = arm % 100 := Int.tmod_eq_emod_of_nonneg a0
  have HAR : Hid (0 ≤ arm % 100 ∧ arm % 100 ≤ 99) := by show _ ∧ _; omega
  obtain ⟨qm, hqm⟩ : ∃ q, smallV mr = q := ⟨_, rfl⟩
  have HQM := Lib.hid hqm
  clear hg hrb hrm hn hLm hqm
  go_enter Tryz.func4, Tryz.ntmps4
  go_wp2_with fail
  refine (new_any M w (by have := HM1.out; omega) (by have := HM1.out; omega)).mono ?_
  rintro e w1 ⟨rfl, hd, hb1⟩
  have HD := Lib.hid hd
  have HB1 := Lib.hid hb1
  clear hd hb1 e1 e3 e4 hM m0 m1
  go_wp2_with fail
  refine (begin_ok HD.out (new_ok M (by have := HM1.out; omega) (by have := HM1.out; omega)) (by simp [newSt]) 64 0 (by omega) (by omega) (by omega) (by omega)).mono ?_
  rintro e w2 ⟨l, S0, rfl, _, hlb, hsub, hc⟩
  have H0 : Hid (AX w w2 w.heap.size l (newSt M) ⟨64, [], 0, 0, false⟩ S0) := AX.start HG.out HB1.out hlb hsub hc
  clear hlb hsub hc HD HB1
  have hsm := small_any (.slice B Lm f) mr w2 (HRM.out.below H0.out.be)
  rw [HQM.out] at hsm
  have HSM := Lib.hid hsm
  clear hsm
  go_wp2_with fail
  refine HSM.out.mono ?_
  rintro e w' ⟨rfl, hw⟩
  subst hw
  cases qm with
  | false =>
    go_wp2_with fail
    refine (awake_any _ (HG.out.below H0.out.be)).mono ?_
    rintro e w9 ⟨rfl, hb⟩
    have HB9 := Lib.hid (H0.out.be.trans (hb.mono H0.out.be.size))
    clear hb
    go_wp2
    exact bodyPost_ret (v := .bool true) (by simp [results]) rfl ⟨rfl, HB9.out⟩
  | true =>
    go_wp2_with fail
    obtain ⟨v0, u0, hd0, hl0, hS0⟩ := H0.out.lb
    refine (arm_lit hd0 rfl (arm % 100) HAR.out.1).mono ?_
    rintro e w3 ⟨rfl, hd3, hc3⟩
    have h3 : AX w w3 w.heap.size l { newSt M with fuse := arm % 100 } ⟨64, [], 0, 0, false⟩ S0 :=
      ⟨HG.out, ⟨v0, u0, hd3, hl0.keepD hd0 hc3, hS0⟩, H0.out.be.trans (hc3.below (fun x hx => H0.out.ge x (by rw [hS0]; exact List.mem_append_left _ hx)) H0.out.be.size), H0.out.ge⟩
    have H3 := Lib.hid h3
    have HLE : Hid (LE 0 { newSt M with fuse := arm % 100 } ⟨64, [], 0, 0, false⟩) := by
      have hM := HM1.out
      have hA := HAR.out
      have hk := new_ok M (by omega) (by omega)
      exact ⟨⟨hk.sorted, hk.many, hk.used, hk.room, by simp only; omega, hk.safe⟩, by simp only; omega, Int.le_refl _, Int.le_refl _, Nat.le_refl _⟩
    clear hd0 hl0 hS0 hd3 hc3 h3 H0 HSM e2 e5 a0 a1
    obtain ⟨dk0, hdk⟩ : ∃ x, ({ newSt M with fuse := arm % 100 } : DkSt) = x := ⟨_, rfl⟩
    obtain ⟨lg0, hlg⟩ : ∃ x, (⟨64, [], 0, 0, false⟩ : LgSt) = x := ⟨_, rfl⟩
    rw [hdk, hlg] at H3 HLE
    clear hdk hlg
    go_wp2_with fail
    go_loopw [13] (fun i wr => ∃ (k : Nat) (dk : DkSt) (lg : LgSt) (S : List Nat), i = .int .i64 k ∧ k ≤ n ∧ k ≤ 40 ∧ Hid (LE k dk lg) ∧ Hid (AX w wr w.heap.size l dk lg S)) (fun i _ => n - (intOf i).toNat)
    case atStart => exact ⟨0, dk0, lg0, S0, rfl, Nat.zero_le _, Nat.zero_le _, HLE, H3⟩
    case round =>
      obtain ⟨k, dk, lg, S, rfl, hk, hk40, HE, HX⟩ := hrel
      obtain ⟨ov, hov⟩ : ∃ b, lg.over = b := ⟨_, rfl⟩
      have hoa := over_any HX.out.lb
      rw [hov] at hoa
      have HOV := Lib.hid hov
      have HOA := Lib.hid hoa
      clear hov hoa
      obtain ⟨C, hC⟩ : ∃ C, (decide (k < n) && (decide (k < 40) && !ov)) = C := ⟨_, rfl⟩
      have HC := Lib.hid hC
      clear hC
      go_upto_region 9 with fail
      go_cut [68] (fun u wx => u = .bool C ∧ wr = wx)
      case first =>
        by_cases k1 : k < n
        · have k1i : (k : Int) < n := by omega
          by_cases k2 : k < 40
          · have k2i : (k : Int) < 40 := by omega
            go_wp2_with (go_at_call 20; (with_reducible refine HOA.out.mono ?_); rintro e w' ⟨rfl, hw⟩; subst hw)
            go_meet
            exact ⟨by rw [← HC.out]; simp [k1, k2], rfl⟩
          · have k2i : ¬ (k : Int) < 40 := by omega
            go_wp2_with fail
            go_meet
            exact ⟨by rw [← HC.out]; simp [k2], rfl⟩
        · have k1i : ¬ (k : Int) < n := by omega
          go_wp2_with fail
          go_meet
          exact ⟨by rw [← HC.out]; simp [k1], rfl⟩
      case rest =>
        obtain ⟨rfl, rfl⟩ := hcut
        cases C with
        | true =>
          have hc := HC.out
          simp only [Bool.and_eq_true, decide_eq_true_eq, Bool.not_eq_true'] at hc
          obtain ⟨k1, k2, rfl⟩ := hc
          go_upto_region 11 with fail
          have k1i : (k : Int) < n := by omega
          obtain ⟨x, hx⟩ : ∃ x, bs[k]? = some x := ⟨_, List.getElem?_eq_getElem (by rw [HN.out]; exact k1)⟩
          obtain ⟨b, o, u, hA, dw, hru⟩ := HRB.out.at hx
          subst hA
          have dr := cell_later HX.out.be dw
          have hrx := hru.below HX.out.be
          obtain ⟨Au, cu, rfl, _, _⟩ := hru.form
          obtain ⟨Lx, hLx⟩ : ∃ L, x.length = L := ⟨_, rfl⟩
          obtain ⟨q, hq⟩ : ∃ q, smallV x = q := ⟨_, rfl⟩
          have HLE1 : Hid (LE (k + 1) dk lg) := HE.out.up
          have hsm := small_any _ x wr hrx
          rw [hq] at hsm
          rw [hLx] at hrx dr hsm
          have HSM := Lib.hid hsm
          have HRX := Lib.hid hrx
          have HLX := Lib.hid hLx
          have HQ := Lib.hid hq
          clear hx dw hru hrx hsm hLx hq
          by_cases hx0 : Lx = 0
          · have hx1 : ((Lx : Int) == 0) = true := by simp [hx0]
            clear hx0
            go_wp2
            first
            | exact ⟨⟨k + 1, dk, lg, S, by go_num, by omega, by omega, HLE1, HX⟩, by simp [intOf]; omega⟩
            | (go_roundw
               case rel => exact ⟨k + 1, dk, lg, S, by go_num, by omega, by omega, HLE1, HX⟩
               case measure => simp [intOf]; omega)
          · have hx1 : ((Lx : Int) == 0) = false := by simp [hx0]
            cases q with
            | false =>
              clear hx0
              go_wp2_with (go_at_call 24; (with_reducible refine HSM.out.mono ?_); rintro e w' ⟨rfl, hw⟩; subst hw)
              first
              | exact ⟨⟨k + 1, dk, lg, S, by go_num, by omega, by omega, HLE1, HX⟩, by simp [intOf]; omega⟩
              | (go_roundw
                 case rel => exact ⟨k + 1, dk, lg, S, by go_num, by omega, by omega, HLE1, HX⟩
                 case measure => simp [intOf]; omega)
            | true =>
              have hbe : batchE (lg.last + 1) x = 0 := batch_small (by have := HE.out.lo; omega) (by have := HE.out.hi; omega) (fun e => hx0 (by rw [← HLX.out, e]; rfl)) HQ.out
              have hw := HE.out.write HOV.out hbe
              have hwr := write_any HX.out.lb HE.out.ok (by have := HE.out.fuse; omega) HX.out.gb HE.out.lo (by have := HE.out.hi; omega) (by have := HE.out.many; omega) _ x HRX.out (fun y hy => by have := ((smallV_iff x).1 HQ.out).2 y hy; omega)
              obtain ⟨r, hr⟩ : ∃ r, lWrite dk lg x = r := ⟨_, rfl⟩
              rw [hr] at hw hwr
              obtain ⟨dk1, lg1, n1, e1⟩ := r
              obtain ⟨hle1, hiff⟩ := hw
              have HWR := Lib.hid hwr
              have HL2 : Hid (LE (k + 1) dk1 lg1) := hle1
              have HIF : Hid (e1 = 0 ↔ lg1.over = false) := hiff
              clear hbe hr hwr hle1 hiff hx0
              go_upto_region 12 with (go_at_call 24; (with_reducible refine HSM.out.mono ?_); rintro e w' ⟨rfl, hw⟩; subst hw)
              go_wp2_with fail
              refine HWR.out.mono ?_
              rintro e w4 ⟨rfl, hl4⟩
              obtain ⟨S4, h4⟩ := HX.out.step hl4
              have H4 : Hid (AX w w4 w.heap.size l dk1 lg1 S4) := h4
              obtain ⟨o1, ho1⟩ : ∃ b, lg1.over = b := ⟨_, rfl⟩
              have hoa := over_any h4.lb
              simp only at hoa
              rw [ho1] at hoa
              have HO1 := Lib.hid ho1
              have HOA1 := Lib.hid hoa
              have hif := HIF.out
              rw [ho1] at hif
              clear hl4 h4 ho1 hoa HOA
              have hmod : (k : Int).tmod 3 = (k : Int) % 3 := Int.tmod_eq_emod_of_nonneg (by omega)
              cases o1 with
              | true =>
                have e1n : e1 ≠ 0 := fun e => by have := hif.1 e; cases this
                have e1a : (e1 == 0) = false := by simpa using e1n
                have e1b : (e1 != 0) = true := by simpa using e1n
                clear hif e1n
                by_cases hm3 : (k : Int) % 3 = 0
                · have hm4 : ((k : Int) % 3 == 0) = true := by simp [hm3]
                  clear hm3
                  go_wp2_with (go_at_call 20; (with_reducible refine HOA1.out.mono ?_); rintro e w' ⟨rfl, hw⟩; subst hw)
                  first
                  | exact ⟨⟨k + 1, dk1, lg1, S4, by go_num, by omega, by omega, HL2, H4⟩, by simp [intOf]; omega⟩
                  | (go_roundw
                     case rel => exact ⟨k + 1, dk1, lg1, S4, by go_num, by omega, by omega, HL2, H4⟩
                     case measure => simp [intOf]; omega)
                · have hm4 : ((k : Int) % 3 == 0) = false := by simp [hm3]
                  clear hm3
                  go_wp2_with (go_at_call 20; (with_reducible refine HOA1.out.mono ?_); rintro e w' ⟨rfl, hw⟩; subst hw)
                  first
                  | exact ⟨⟨k + 1, dk1, lg1, S4, by go_num, by omega, by omega, HL2, H4⟩, by simp [intOf]; omega⟩
                  | (go_roundw
                     case rel => exact ⟨k + 1, dk1, lg1, S4, by go_num, by omega, by omega, HL2, H4⟩
                     case measure => simp [intOf]; omega)
              | false =>
                have e1n : e1 = 0 := hif.2 rfl
                subst e1n
                clear hif
                by_cases hm3 : (k : Int) % 3 = 0
                · have hm4 : ((k : Int) % 3 == 0) = true := by simp [hm3]
                  clear hm3
                  have hsy := logsync_any H4.out.lb HL2.out.ok (by have := HL2.out.fuse; omega) H4.out.gb
                  have hsl := HL2.out.sync HO1.out
                  obtain ⟨r, hr⟩ : ∃ r, lSync dk1 lg1 = r := ⟨_, rfl⟩
                  rw [hr] at hsy hsl
                  obtain ⟨dk2, lg2, e2⟩ := r
                  have HSY := Lib.hid hsy
                  have HL3 : Hid (LE (k + 1) dk2 lg2) := hsl.1
                  have HIF2 : Hid (e2 = 0 ↔ lg2.over = false) := hsl.2
                  clear hsy hsl hr
                  go_upto_region 16 with (go_at_call 20; (with_reducible refine HOA1.out.mono ?_); rintro e w' ⟨rfl, hw⟩; subst hw)
                  go_wp2_with fail
                  refine HSY.out.mono ?_
                  rintro e w5 ⟨rfl, hl5⟩
                  obtain ⟨S5, h5⟩ := H4.out.step hl5
                  have H5 : Hid (AX w w5 w.heap.size l dk2 lg2 S5) := h5
                  obtain ⟨o2, ho2⟩ : ∃ b, lg2.over = b := ⟨_, rfl⟩
                  have hoa := over_any h5.lb
                  simp only at hoa
                  rw [ho2] at hoa
                  have HOA2 := Lib.hid hoa
                  have hif := HIF2.out
                  rw [ho2] at hif
                  clear hl5 h5 ho2 hoa HOA1
                  cases o2 with
                  | true =>
                    have e1n : e2 ≠ 0 := fun e => by have := hif.1 e; cases this
                    have e1a : (e2 == 0) = false := by simpa using e1n
                    have e1b : (e2 != 0) = true := by simpa using e1n
                    clear hif e1n
                    go_wp2_with (go_at_call 20; (with_reducible refine HOA2.out.mono ?_); rintro e w' ⟨rfl, hw⟩; subst hw)
                    first
                    | exact ⟨⟨k + 1, dk2, lg2, S5, by go_num, by omega, by omega, HL3, H5⟩, by simp [intOf]; omega⟩
                    | (go_roundw
                       case rel => exact ⟨k + 1, dk2, lg2, S5, by go_num, by omega, by omega, HL3, H5⟩
                       case measure => simp [intOf]; omega)
                  | false =>
                    have e1n : e2 = 0 := hif.2 rfl
                    subst e1n
                    clear hif
                    go_wp2_with (go_at_call 20; (with_reducible refine HOA2.out.mono ?_); rintro e w' ⟨rfl, hw⟩; subst hw)
                    first
                    | exact ⟨⟨k + 1, dk2, lg2, S5, by go_num, by omega, by omega, HL3, H5⟩, by simp [intOf]; omega⟩
                    | (go_roundw
                       case rel => exact ⟨k + 1, dk2, lg2, S5, by go_num, by omega, by omega, HL3, H5⟩
                       case measure => simp [intOf]; omega)
                · have hm4 : ((k : Int) % 3 == 0) = false := by simp [hm3]
                  clear hm3
                  go_wp2_with (go_at_call 20; (with_reducible refine HOA1.out.mono ?_); rintro e w' ⟨rfl, hw⟩; subst hw)
                  first
                  | exact ⟨⟨k + 1, dk1, lg1, S4, by go_num, by omega, by omega, HL2, H4⟩, by simp [intOf]; omega⟩
                  | (go_roundw
                     case rel => exact ⟨k + 1, dk1, lg1, S4, by go_num, by omega, by omega, HL2, H4⟩
                     case measure => simp [intOf]; omega)
        | false =>
          go_upto_region 19 with fail
          cases ov with
          | false =>
            go_wp2_with (first | (go_at_call 20; (with_reducible refine HOA.out.mono ?_); rintro e w' ⟨rfl, hw⟩; subst hw) | (go_at_call 21; (with_reducible refine (awake_any _ (HG.out.below HX.out.be)).mono ?_); rintro e w9 ⟨rfl, hb⟩; have HB9 := Lib.hid (HX.out.be.trans (hb.mono HX.out.be.size)); clear hb))
            exact bodyPost_ret (v := .bool true) (by simp [results]) rfl ⟨rfl, HB9.out⟩
          | true =>
            go_upto_region 21 with (go_at_call 20; (with_reducible refine HOA.out.mono ?_); rintro e w' ⟨rfl, hw⟩; subst hw)
            have HK := HE.out.ok
            have HKH := Lib.hid HK
            have hmany := HE.out.many
            have HMN : Hid (lg.firsts.length ≤ 1000000) := by show _ ≤ _; omega
            clear HK hmany
            go_wp2_with fail
            refine ( HX.out.used HKH.out).mono ?_
            rintro e w4 ⟨rfl, hb⟩
            have H4 := Lib.hid (HX.out.below hb)
            clear hb
            go_wp2_with fail
            refine (H4.out.list HKH.out).mono ?_
            rintro e w5 ⟨z5, rfl, hz, hb⟩
            obtain ⟨A5, c5, rfl, _, _⟩ := hz.form
            have H5 := Lib.hid (H4.out.below hb)
            have HZ5 := Lib.hid hz
            clear hz hb H4
            go_wp2_with fail
            refine (last_any H5.out.lb).mono ?_
            rintro e w' ⟨rfl, hw⟩
            subst hw
            go_wp2_with fail
            refine (acked_any H5.out.lb).mono ?_
            rintro e w' ⟨rfl, hw⟩
            subst hw
            go_wp2_with fail
            refine (H5.out.files HMN.out).mono ?_
            rintro e w6 ⟨z6, rfl, hz, hb⟩
            obtain ⟨A6, c6, rfl, _, _⟩ := hz.form
            have H6 := Lib.hid (H5.out.below hb)
            have HZ6 := Lib.hid hz
            have HZ5b := Lib.hid (HZ5.out.below hb)
            clear hz hb H5 HZ5
            go_wp2_with fail
            refine (write_ov H6.out.lb HOV.out _).mono ?_
            rintro e w7 ⟨rfl, hb⟩
            have H7 := Lib.hid (H6.out.below hb)
            have HZ6b := Lib.hid (HZ6.out.below hb)
            have HZ5c := Lib.hid (HZ5b.out.below hb)
            clear hb H6 HZ6 HZ5b
            go_wp2_with fail
            refine (recs_any w7.heap.size [⟨#[120]⟩] _ (lit_string w7 _) (by intro s hs; simp at hs; subst hs; simp [ByteArray.size]) (by simp)).mono ?_
            rintro e w8 ⟨v8, rfl, hr8, hb8⟩
            obtain ⟨A8, c8, rfl, _, _⟩ := hr8.form
            have hb9 := (below1 w7 (.cells #[.string ⟨#[120]⟩] 9)).trans (hb8.mono (by simp))
            have H8 := Lib.hid (H7.out.below hb9)
            have HZ6 := Lib.hid (HZ6b.out.below hb9)
            have HZ5 := Lib.hid (HZ5c.out.below hb9)
            clear hb8 hb9 hr8 H7 HZ6b HZ5c
            go_wp2_with fail
            refine (write_ov H8.out.lb HOV.out _).mono ?_
            rintro e w9 ⟨rfl, hb⟩
            have H9 := Lib.hid (H8.out.below hb)
            have HZ6b := Lib.hid (HZ6.out.below hb)
            have HZ5c := Lib.hid (HZ5.out.below hb)
            clear hb H8 HZ6 HZ5
            go_wp2_with fail
            refine (trim_over H9.out.lb HOV.out _).mono ?_
            rintro e w10 ⟨rfl, hb⟩
            have H10 := Lib.hid (H9.out.below hb)
            have HZ6 := Lib.hid (HZ6b.out.below hb)
            have HZ5 := Lib.hid (HZ5c.out.below hb)
            clear hb H9 HZ6b HZ5c
            go_wp2_with fail
            refine (logsync_ov H10.out.lb HOV.out).mono ?_
            rintro e w11 ⟨rfl, hb⟩
            have H11 := Lib.hid (H10.out.below hb)
            have HZ6b := Lib.hid (HZ6.out.below hb)
            have HZ5c := Lib.hid (HZ5.out.below hb)
            clear hb H10 HZ6 HZ5
            go_wp2_with fail
            refine (H11.out.used HKH.out).mono ?_
            rintro e w12 ⟨rfl, hb⟩
            have H12 := Lib.hid (H11.out.below hb)
            have HZ6 := Lib.hid (HZ6b.out.below hb)
            have HZ5 := Lib.hid (HZ5c.out.below hb)
            clear hb H11 HZ6b HZ5c
            go_wp2_with fail
            refine (H12.out.list HKH.out).mono ?_
            rintro e w13 ⟨z13, rfl, hz, hb⟩
            have hst := sameTexts_any _ _ _ _ w13 hz (HZ5.out.below hb)
            obtain ⟨A13, c13, rfl, _, _⟩ := hz.form
            have H13 := Lib.hid (H12.out.below hb)
            have HZ6b := Lib.hid (HZ6.out.below hb)
            rw [show decide (namesF dk = namesF dk) = true by simp] at hst
            have HST := Lib.hid hst
            clear hz hb hst H12 HZ6 HZ5
            go_wp2_with fail
            refine (HST.out).mono ?_
            rintro e w14 ⟨rfl, hb⟩
            have H14 := Lib.hid (H13.out.below hb)
            have HZ6 := Lib.hid (HZ6b.out.below hb)
            clear hb H13 HZ6b HST
            go_wp2_with fail
            refine (last_any H14.out.lb).mono ?_
            rintro e w' ⟨rfl, hw⟩
            subst hw
            go_wp2_with fail
            refine (acked_any H14.out.lb).mono ?_
            rintro e w' ⟨rfl, hw⟩
            subst hw
            go_wp2_with fail
            refine (H14.out.files HMN.out).mono ?_
            rintro e w15 ⟨z15, rfl, hz, hb⟩
            have hst := sameTexts_any _ _ _ _ w15 hz (HZ6.out.below hb)
            obtain ⟨A15, c15, rfl, _, _⟩ := hz.form
            have H15 := Lib.hid (H14.out.below hb)
            rw [show decide (lFiles lg = lFiles lg) = true by simp] at hst
            have HST := Lib.hid hst
            clear hz hb hst H14 HZ6
            go_wp2_with fail
            refine (HST.out).mono ?_
            rintro e w16 ⟨rfl, hb⟩
            have H16 := Lib.hid (H15.out.below hb)
            clear hb H15 HST
            go_wp2_with fail
            refine (awake_any _ (HG.out.below H16.out.be)).mono ?_
            rintro e w17 ⟨rfl, hb⟩
            have HB17 := Lib.hid (H16.out.be.trans (hb.mono H16.out.be.size))
            clear hb
            go_wp2
            exact bodyPost_ret (v := .bool true) (by simp [results]) rfl ⟨rfl, HB17.out⟩
end Go.Proofs.YthehpafkaefohaaGreatDoor

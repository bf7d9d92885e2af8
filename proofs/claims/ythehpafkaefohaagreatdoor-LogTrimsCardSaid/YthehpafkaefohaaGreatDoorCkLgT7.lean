/- The law LogTrims walked. Conditions: the library's variables read as they are laid. -/
import Derived.Test.YthehpafkaefohaaGreatDoorCkLgT7a
namespace Go.Proofs.YthehpafkaefohaaGreatDoor
open Go.RowKit
def tMore : Bt := [[109, 111, 114, 101]]
theorem tMore_small : smallB tMore := ⟨by simp [tMore], by simp [tMore], fun r hr => by simp [tMore] at hr; subst hr; simp⟩
set_option maxRecDepth 20000 in
set_option maxHeartbeats 8000000 in
theorem logTrims_any (below : Int) (b0 : 0 ≤ below) (b1 : below ≤ 255) (vb : Value) (bs : List Bt) (w : World) (hrb : RdLL w vb bs) (hg : GOK w) :
    Calls Tryz.prog 8 #[vb, .int .u8 below] w fun e w' => e = .returned (.bool true) ∧ Below w.heap.size w w' := by
  have HG := Lib.hid hg
  have HRB := Lib.hid hrb
  obtain ⟨A, c, rfl, _, _⟩ := hrb.form
  obtain ⟨n, hn⟩ : ∃ n, bs.length = n := ⟨_, rfl⟩
  have HN := Lib.hid hn
  rw [hn] at HRB ⊢
  have e1 : IntKind.i64.wrap below = below := by rw [IntKind.wrap_i64]; omega
  clear hg hrb hn
  go_enter Tryz.func8, Tryz.ntmps8
  go_wp2_with fail
  refine (new_any 1048576 w (by omega) (by omega)).mono ?_
  rintro e w1 ⟨rfl, hd, hb1⟩
  have HD := Lib.hid hd
  have HB1 := Lib.hid hb1
  clear hd hb1
  go_wp2_with fail
  refine (begin_ok HD.out (new_ok 1048576 (by omega) (by omega)) (by simp [newSt]) 64 0 (by omega) (by omega) (by omega) (by omega)).mono ?_
  rintro e w2 ⟨l, S0, rfl, _, hlb, hsub, hc⟩
  have H0 : Hid (AX w w2 w.heap.size l (newSt 1048576) ⟨64, [], 0, 0, false⟩ S0) := AX.start HG.out HB1.out hlb hsub hc
  have HH0 := Lib.hid (lgH_new 64 0)
  clear hlb hsub hc HD HB1
  obtain ⟨dk0, hdk⟩ : ∃ x, newSt 1048576 = x := ⟨_, rfl⟩
  obtain ⟨lg0, hlg⟩ : ∃ x, (⟨64, [], 0, 0, false⟩ : LgSt) = x := ⟨_, rfl⟩
  rw [hdk, hlg] at H0 HH0
  clear hdk hlg
  go_wp2_with fail
  go_loopw [9] (fun i wr => ∃ (k : Nat) (segs : List Sg) (al : List Bt) (dk : DkSt) (lg : LgSt) (S : List Nat), i = .int .i64 k ∧ k ≤ n ∧ k ≤ 40 ∧ Hid (LgH 0 segs al dk lg) ∧ Hid (AX w wr w.heap.size l dk lg S) ∧ Hid (∀ r ∈ al, smallB r) ∧ Hid (al.length ≤ k)) (fun i _ => n - (intOf i).toNat)
  case atStart => exact ⟨0, [], [], dk0, lg0, S0, rfl, Nat.zero_le _, Nat.zero_le _, HH0, H0, Lib.hid (fun r hr => by cases hr), Lib.hid (Nat.le_refl _)⟩
  case round =>
    obtain ⟨k, segs, al, dk, lg, S, rfl, hk, hk40, HLH, HX, HSM, HAL⟩ := hrel
    obtain ⟨C, hC⟩ : ∃ C, (decide (k < n) && decide (k < 40)) = C := ⟨_, rfl⟩
    have HC := Lib.hid hC
    clear hC
    go_upto_region 6 with fail
    go_cut [44] (fun u wx => u = .bool C ∧ wr = wx)
    case first =>
      by_cases k1 : k < n
      · have k1i : (k : Int) < n := by omega
        by_cases k2 : k < 40
        · have k2i : (k : Int) < 40 := by omega
          go_wp2_with fail
          go_meet
          exact ⟨by rw [← HC.out]; simp [k1, k2], rfl⟩
        · have k2i : ¬ (k : Int) < 40 := by omega
          go_wp2_with fail
          go_meet
          exact ⟨by rw [← HC.out]; simp [k2], rfl⟩
      · have k1i : ¬ (k : Int) < n := by omega
        go_wp2_with fail
        go_meet
        exact ⟨by rw [← HC.out]; simp [k1], rfl⟩
    case rest =>
      obtain ⟨rfl, rfl⟩ := hcut
      cases C with
      | true =>
        have hc := HC.out
        simp only [Bool.and_eq_true, decide_eq_true_eq] at hc
        obtain ⟨k1, k2⟩ := hc
        go_upto_region 8 with fail
        have k1i : (k : Int) < n := by omega
        obtain ⟨x, hx⟩ : ∃ x, bs[k]? = some x := ⟨_, List.getElem?_eq_getElem (by rw [HN.out]; exact k1)⟩
        obtain ⟨bb, o, u, hA, dw, hru⟩ := HRB.out.at hx
        subst hA
        have dr := cell_later HX.out.be dw
        have hrx := hru.below HX.out.be
        obtain ⟨Au, cu, rfl, _, _⟩ := hru.form
        obtain ⟨Lx, hLx⟩ : ∃ L, x.length = L := ⟨_, rfl⟩
        obtain ⟨sm, hsm0⟩ : ∃ q, smallV x = q := ⟨_, rfl⟩
        have hsm := small_any _ x wr hrx
        rw [hsm0] at hsm
        rw [hLx] at hrx dr hsm hru dw
        have HSMA := Lib.hid hsm
        have HRX := Lib.hid hrx
        have HLX := Lib.hid hLx
        have HSV := Lib.hid hsm0
        clear hx dw hru hrx hsm hLx hsm0
        by_cases hx0 : Lx = 0
        · have hx1 : ¬ (0 : Int) < (Lx : Int) := by omega
          clear hx0
          go_wp2
          first
          | exact ⟨⟨k + 1, segs, al, dk, lg, S, by go_num, by omega, by omega, HLH, HX, HSM, Lib.hid (by have := HAL.out; omega)⟩, by simp [intOf]; omega⟩
          | (go_roundw
             case rel => exact ⟨k + 1, segs, al, dk, lg, S, by go_num, by omega, by omega, HLH, HX, HSM, Lib.hid (by have := HAL.out; omega)⟩
             case measure => simp [intOf]; omega)
        · have hx1 : (0 : Int) < (Lx : Int) := by omega
          cases sm with
          | false =>
            clear hx0
            go_wp2_with (go_at_call 24; (with_reducible refine HSMA.out.mono ?_); rintro e w' ⟨rfl, hw⟩; subst hw)
            first
            | exact ⟨⟨k + 1, segs, al, dk, lg, S, by go_num, by omega, by omega, HLH, HX, HSM, Lib.hid (by have := HAL.out; omega)⟩, by simp [intOf]; omega⟩
            | (go_roundw
               case rel => exact ⟨k + 1, segs, al, dk, lg, S, by go_num, by omega, by omega, HLH, HX, HSM, Lib.hid (by have := HAL.out; omega)⟩
               case measure => simp [intOf]; omega)
          | true =>
            have hsx : smallB x := by
              obtain ⟨s1, s2⟩ := (smallV_iff x).1 HSV.out
              exact ⟨by rw [HLX.out]; omega, s1, s2⟩
            obtain ⟨segs', hw1, hw2, hw3⟩ := HLH.out.write (by omega) (by omega) (by have := HAL.out; omega) hsx
            have hwr := write_any HX.out.lb HLH.out.i.ok (by have := HLH.out.i.fuse; omega) HX.out.gb (by have := HLH.out.i.lo; omega) (by have := HLH.out.i.hi; have := HAL.out; omega) (by have := HLH.out.i.nfew; have := HAL.out; omega) _ x HRX.out (fun y hy => by have := hsx.2.2 y hy; omega)
            obtain ⟨r, hr⟩ : ∃ r, lWrite dk lg x = r := ⟨_, rfl⟩
            rw [hr] at hw1 hw2 hw3 hwr
            obtain ⟨dk1, lg1, n1, e1'⟩ := r
            simp only [Prod.mk.injEq] at hw2
            obtain ⟨rfl, rfl⟩ := hw2
            have hwr : Calls Tryz.prog 14 _ wr (WrP w.heap.size l S (dk1, lg1, lg.last + 1, 0) wr) := hwr
            have HWR := Lib.hid hwr
            have HL1 : Hid (LgH 0 segs' (al ++ [x]) dk1 lg1) := hw1
            have HSM1 : Hid (∀ r ∈ al ++ [x], smallB r) := by
              show ∀ r ∈ _, _
              intro r hr
              rcases List.mem_append.1 hr with h | h
              · exact HSM.out r h
              · have : r = x := by simpa using h
                rw [this]; exact hsx
            have HAL1 : Hid ((al ++ [x]).length ≤ k + 1) := by show _ ≤ _; rw [List.length_append]; have := HAL.out; simp; omega
            clear hsx hw1 hw3 hwr hr hx0
            go_upto_region 9 with (go_at_call 24; (with_reducible refine HSMA.out.mono ?_); rintro e w' ⟨rfl, hw⟩; subst hw)
            go_wp2_with fail
            refine HWR.out.mono ?_
            rintro e w4 ⟨rfl, hl4⟩
            obtain ⟨S4, h4⟩ := HX.out.step hl4
            have H4 : Hid (AX w w4 w.heap.size l dk1 lg1 S4) := h4
            clear hl4 h4
            go_wp2
            first
            | exact ⟨⟨k + 1, segs', al ++ [x], dk1, lg1, S4, by go_num, by omega, by omega, HL1, H4, HSM1, HAL1⟩, by simp [intOf]; omega⟩
            | (go_roundw
               case rel => exact ⟨k + 1, segs', al ++ [x], dk1, lg1, S4, by go_num, by omega, by omega, HL1, H4, HSM1, HAL1⟩
               case measure => simp [intOf]; omega)
      | false =>
        go_upto_region 10 with fail
        have htr := HLH.out.tr
        obtain ⟨last, hlast⟩ : ∃ x, lg.last = x := ⟨_, rfl⟩
        have hl64 : IntKind.i64.wrap (last + 1) = last + 1 := by rw [IntKind.wrap_i64]; have := HLH.out.i.lo; have := HLH.out.i.hi; have := HAL.out; omega
        have HTR := Lib.hid htr
        have HLA := Lib.hid hlast
        have hal40 : al.length ≤ 40 := by have := HAL.out; omega
        clear htr
        by_cases hsegs : segs = []
        · have hal : al = [] := by
            have := HLH.out.fl
            rw [hsegs] at this
            exact this.symm
          have hfi : lg.firsts = [] := by rw [HLH.out.fi, hsegs]; rfl
          have HFI0 := Lib.hid hfi
          have HTD := Lib.hid (fun w2 (hb2 : Below wr.heap.size wr w2) => told_nil (HX.out.below hb2).lb hfi)
          have HFL := Lib.hid (fun w2 (hb2 : Below wr.heap.size wr w2) => files_nil (HX.out.below hb2).lb hfi)
          have HNM : Hid (lFiles lg = []) := by show _ = _; unfold lFiles; rw [hfi]; rfl
          have hw1 : IntKind.i64.wrap (-1) = -1 := by rw [IntKind.wrap_i64]; omega
          have hm1 : max (-1 : Int) 0 = 0 := by omega
          have hw0 : IntKind.i64.wrap 0 = 0 := by rw [IntKind.wrap_i64]; omega
          clear hfi hal
          go_wp2_with fail
          refine (HTD.out wr (Below.refl _ _)).mono ?_
          rintro e w3 ⟨rfl, hb3⟩
          have HB3 := Lib.hid hb3
          clear hb3
          go_wp2_with fail
          refine (HFL.out _ HB3.out).mono ?_
          rintro e w4 ⟨rfl, hb4⟩
          have HB4 := Lib.hid (HB3.out.trans (hb4.mono HB3.out.size))
          clear hb4
          go_wp2_with fail
          refine (last_any (HX.out.below HB4.out).lb).mono ?_
          rintro e w' ⟨rfl, hw⟩
          subst hw
          rw [HLA.out]
          have hq0 : goneN below lg.firsts = 0 := by rw [HFI0.out]; rfl
          have htm := (HX.out.below HB4.out).trim HTR.out (by omega) (by omega) (by omega) below
          rw [hq0] at htm
          have HTM := Lib.hid htm
          clear htm
          go_wp2_with fail
          refine HTM.out.mono ?_
          rintro e w6 ⟨z6, rfl, hz6, hl6⟩
          rw [HNM.out] at hz6
          obtain ⟨A6, c6, rfl⟩ := hz6.form
          rw [show (List.take 0 ([] : List ByteArray)).length = 0 from rfl] at hz6 ⊢
          obtain ⟨S6, h6⟩ := (HX.out.below HB4.out).step hl6
          have H6 : Hid (AX w w6 w.heap.size l dk lg S6) := h6
          have HZ6 := Lib.hid (rdT_own hz6)
          have htm := H6.out.trim HTR.out (by omega) (by omega) (by omega) below
          rw [hq0] at htm
          have HTM2 := Lib.hid htm
          clear htm hz6 hl6 h6 HTM hq0
          go_wp2_with fail
          refine HTM2.out.mono ?_
          rintro e w7 ⟨z7, rfl, hz7, hl7⟩
          rw [HNM.out] at hz7
          obtain ⟨A7, c7, rfl⟩ := hz7.form
          rw [show (List.take 0 ([] : List ByteArray)).length = 0 from rfl] at hz7 ⊢
          obtain ⟨S7, h7⟩ := H6.out.step hl7
          have H7 : Hid (AX w w7 w.heap.size l dk lg S7) := h7
          clear hz7 hl7 h7 HTM2
          have HTD2 := Lib.hid (told_nil H7.out.lb HFI0.out)
          go_wp2_with fail
          refine HTD2.out.mono ?_
          rintro e w8 ⟨rfl, hb8⟩
          have HX8 : Hid (AX w w8 w.heap.size l dk lg S7) := Lib.hid (H7.out.below hb8)
          have HB8 := Lib.hid (Below.refl w8.heap.size w8)
          have HT1 : Hid (∀ w9, Below w8.heap.size w8 w9 → Calls Tryz.prog 29 #[.slice A6 0 c6, .slice none 0 0] w9 fun e w' => e = .returned (.bool true) ∧ Below w9.heap.size w9 w') := fun w9 hb9 => by
            have hv6 : RdT w9 (.slice A6 0 c6) [] := by
              rcases HZ6.out with ⟨h1, _⟩ | ⟨b, o, c, h1, h2, h3, _⟩
              · exact .inl ⟨h1, rfl⟩
              · exact .inr ⟨b, o, c, h1, h2, h3, fun j s hj => by simp at hj⟩
            have := sameTexts_any _ _ [] [] w9 hv6 (.inl ⟨rfl, rfl⟩)
            rwa [show decide (([] : List ByteArray) = []) = true by simp] at this
          have HFI : Hid (∀ w9, Below w8.heap.size w8 w9 → Calls Tryz.prog 19 #[.pointer (some ⟨l, 0, none⟩)] w9 fun e w' => ∃ z, e = .returned z ∧ RdT w' z ([] : List ByteArray) ∧ Below w9.heap.size w9 w') := fun w9 hb9 =>
            (files_nil (HX8.out.below hb9).lb HFI0.out).mono fun e w' ⟨h1, h2⟩ => ⟨_, h1, .inl ⟨rfl, rfl⟩, h2⟩
          have HND : Hid (([] : List ByteArray).length = 0) := rfl
          have HT2 : Hid (∀ w9, Below w8.heap.size w8 w9 → ∀ z, RdT w9 z ([] : List ByteArray) → Calls Tryz.prog 29 #[z, .slice none 0 0] w9 fun e w' => e = .returned (.bool true) ∧ Below w9.heap.size w9 w') := fun w9 hb9 z hz => by
            have := sameTexts_any z _ [] [] w9 hz (.inl ⟨rfl, rfl⟩)
            rwa [show decide (([] : List ByteArray) = []) = true by simp] at this
          have HT3 : Hid (∀ w9, Below w8.heap.size w8 w9 → Calls Tryz.prog 32 #[.slice none 0 0, .slice none 0 0] w9 fun e w' => e = .returned (.bool true) ∧ Below w9.heap.size w9 w') := fun w9 hb9 => by
            have := sameBatches_any (.slice none 0 0) (.slice none 0 0) [] [] w9 (.inl ⟨rfl, rfl⟩) (.inl ⟨rfl, rfl⟩)
            rwa [show decide (([] : List (Int × List (List UInt8))) = []) = true by simp] at this
          have HTE := HTR
          have HLE := HLA
          clear hb8 HTD2 HTD HFL H6 H7 HB3 HB4 HZ6
          go_upto_region 15 with fail
          refine wp_region_all (fun _ => True) 66 (by kernel_rfl) rfl trivial (fun hHeld => ?_)
          refine takeL (i := 0) (v := ?_) rfl (by kernel_rfl) (by kernel_rfl) (by kernel_rfl) (fun _ _ _ h => h) (.inl ⟨by rfl, ?_⟩) (by assumption) ?_
          rotate_left
          · (intro w hSw; (try dsimp only at hSw); go_simp; (first | done | with_reducible rfl))
          try simp only [Act.put, List.setIfInBounds_toArray, List.set_cons_zero, List.set_cons_succ]
          refine takeL (i := 1) (v := ?_) rfl (by kernel_rfl) (by kernel_rfl) (by kernel_rfl) (fun _ _ _ h => h) (.inl ⟨by rfl, ?_⟩) (by assumption) ?_
          rotate_left
          · (intro w hSw; (try dsimp only at hSw); go_simp; (first | done | with_reducible rfl))
          try simp only [Act.put, List.setIfInBounds_toArray, List.set_cons_zero, List.set_cons_succ]
          refine takeL (i := 2) (v := ?_) rfl (by kernel_rfl) (by kernel_rfl) (by kernel_rfl) (fun _ _ _ h => h) (.inl ⟨by rfl, ?_⟩) (by assumption) ?_
          rotate_left
          · (intro w hSw; (try dsimp only at hSw); go_simp; (first | done | with_reducible rfl))
          try simp only [Act.put, List.setIfInBounds_toArray, List.set_cons_zero, List.set_cons_succ]
          refine takeL (i := 3) (v := ?_) rfl (by kernel_rfl) (by kernel_rfl) (by kernel_rfl) (fun _ _ _ h => h) (.inl ⟨by rfl, ?_⟩) (by assumption) ?_
          rotate_left
          · (intro w hSw; (try dsimp only at hSw); go_simp; (first | done | with_reducible rfl))
          try simp only [Act.put, List.setIfInBounds_toArray, List.set_cons_zero, List.set_cons_succ]
          refine takeL (i := 4) (v := ?_) rfl (by kernel_rfl) (by kernel_rfl) (by kernel_rfl) (fun _ _ _ h => h) (.inl ⟨by rfl, ?_⟩) (by assumption) ?_
          rotate_left
          · (intro w hSw; (try dsimp only at hSw); go_simp; (first | done | with_reducible rfl))
          try simp only [Act.put, List.setIfInBounds_toArray, List.set_cons_zero, List.set_cons_succ]
          refine takeL (i := 5) (v := ?_) rfl (by kernel_rfl) (by kernel_rfl) (by kernel_rfl) (fun _ _ _ h => h) (.inl ⟨by rfl, ?_⟩) (by assumption) ?_
          rotate_left
          · (intro w hSw; (try dsimp only at hSw); go_simp; (first | done | with_reducible rfl))
          try simp only [Act.put, List.setIfInBounds_toArray, List.set_cons_zero, List.set_cons_succ]
          refine takeL (i := 6) (v := ?_) rfl (by kernel_rfl) (by kernel_rfl) (by kernel_rfl) (fun _ _ _ h => h) (.inl ⟨by rfl, ?_⟩) (by assumption) ?_
          rotate_left
          · (intro w hSw; (try dsimp only at hSw); go_simp; (first | done | with_reducible rfl))
          try simp only [Act.put, List.setIfInBounds_toArray, List.set_cons_zero, List.set_cons_succ]
          refine takeL (i := 7) (v := ?_) rfl (by kernel_rfl) (by kernel_rfl) (by kernel_rfl) (fun _ _ _ h => h) (.inl ⟨by rfl, ?_⟩) (by assumption) ?_
          rotate_left
          · (intro w hSw; (try dsimp only at hSw); go_simp; (first | done | with_reducible rfl))
          try simp only [Act.put, List.setIfInBounds_toArray, List.set_cons_zero, List.set_cons_succ]
          refine takeL (i := 8) (v := ?_) rfl (by kernel_rfl) (by kernel_rfl) (by kernel_rfl) (fun _ _ _ h => h) (.inl ⟨by rfl, ?_⟩) (by assumption) ?_
          rotate_left
          · (intro w hSw; (try dsimp only at hSw); go_simp; (first | done | with_reducible rfl))
          try simp only [Act.put, List.setIfInBounds_toArray, List.set_cons_zero, List.set_cons_succ]
          refine takeL (i := 9) (v := ?_) rfl (by kernel_rfl) (by kernel_rfl) (by kernel_rfl) (fun _ _ _ h => h) (.inl ⟨by rfl, ?_⟩) (by assumption) ?_
          rotate_left
          · (intro w hSw; (try dsimp only at hSw); go_simp; (first | done | with_reducible rfl))
          try simp only [Act.put, List.setIfInBounds_toArray, List.set_cons_zero, List.set_cons_succ]
          refine takeL (i := 10) (v := ?_) rfl (by kernel_rfl) (by kernel_rfl) (by kernel_rfl) (fun _ _ _ h => h) (.inl ⟨by rfl, ?_⟩) (by assumption) ?_
          rotate_left
          · (intro w hSw; (try dsimp only at hSw); go_simp; (first | done | with_reducible rfl))
          try simp only [Act.put, List.setIfInBounds_toArray, List.set_cons_zero, List.set_cons_succ]
          refine takeL (i := 11) (v := ?_) rfl (by kernel_rfl) (by kernel_rfl) (by kernel_rfl) (fun _ _ _ h => h) (.inl ⟨by rfl, ?_⟩) (by assumption) ?_
          rotate_left
          · (intro w hSw; (try dsimp only at hSw); go_simp; (first | done | with_reducible rfl))
          try simp only [Act.put, List.setIfInBounds_toArray, List.set_cons_zero, List.set_cons_succ]
          refine takeL (i := 12) (v := ?_) rfl (by kernel_rfl) (by kernel_rfl) (by kernel_rfl) (fun _ _ _ h => h) (.inl ⟨by rfl, ?_⟩) (by assumption) ?_
          rotate_left
          · (intro w hSw; (try dsimp only at hSw); go_simp; (first | done | with_reducible rfl))
          try simp only [Act.put, List.setIfInBounds_toArray, List.set_cons_zero, List.set_cons_succ]
          refine takeL (i := 13) (v := ?_) rfl (by kernel_rfl) (by kernel_rfl) (by kernel_rfl) (fun _ _ _ h => h) (.inl ⟨by rfl, ?_⟩) (by assumption) ?_
          rotate_left
          · (intro w hSw; (try dsimp only at hSw); go_simp; (first | done | with_reducible rfl))
          try simp only [Act.put, List.setIfInBounds_toArray, List.set_cons_zero, List.set_cons_succ]
          refine takeL (i := 14) (v := ?_) rfl (by kernel_rfl) (by kernel_rfl) (by kernel_rfl) (fun _ _ _ h => h) (.inl ⟨by rfl, ?_⟩) (by assumption) ?_
          rotate_left
          · (intro w hSw; (try dsimp only at hSw); go_simp; (first | done | with_reducible rfl))
          try simp only [Act.put, List.setIfInBounds_toArray, List.set_cons_zero, List.set_cons_succ]
          refine takeL (i := 15) (v := ?_) rfl (by kernel_rfl) (by kernel_rfl) (by kernel_rfl) (fun _ _ _ h => h) (.inl ⟨by rfl, ?_⟩) (by assumption) ?_
          rotate_left
          · (intro w hSw; (try dsimp only at hSw); go_simp; (first | done | with_reducible rfl))
          try simp only [Act.put, List.setIfInBounds_toArray, List.set_cons_zero, List.set_cons_succ]
          refine takeL (i := 16) (v := ?_) rfl (by kernel_rfl) (by kernel_rfl) (by kernel_rfl) (fun _ _ _ h => h) (.inl ⟨by rfl, ?_⟩) (by assumption) ?_
          rotate_left
          · (intro w hSw; (try dsimp only at hSw); go_simp; (first | done | with_reducible rfl))
          try simp only [Act.put, List.setIfInBounds_toArray, List.set_cons_zero, List.set_cons_succ]
          refine takeL (i := 17) (v := ?_) rfl (by kernel_rfl) (by kernel_rfl) (by kernel_rfl) (fun _ _ _ h => h) (.inl ⟨by rfl, ?_⟩) (by assumption) ?_
          rotate_left
          · (intro w hSw; (try dsimp only at hSw); go_simp; (first | done | with_reducible rfl))
          try simp only [Act.put, List.setIfInBounds_toArray, List.set_cons_zero, List.set_cons_succ]
          refine takeL (i := 18) (v := ?_) rfl (by kernel_rfl) (by kernel_rfl) (by kernel_rfl) (fun _ _ _ h => h) (.inl ⟨by rfl, ?_⟩) (by assumption) ?_
          rotate_left
          · (intro w hSw; (try dsimp only at hSw); go_simp; (first | done | with_reducible rfl))
          try simp only [Act.put, List.setIfInBounds_toArray, List.set_cons_zero, List.set_cons_succ]
          refine takeL (i := 19) (v := ?_) rfl (by kernel_rfl) (by kernel_rfl) (by kernel_rfl) (fun _ _ _ h => h) (.inl ⟨by rfl, ?_⟩) (by assumption) ?_
          rotate_left
          · (intro w hSw; (try dsimp only at hSw); go_simp; (first | done | with_reducible rfl))
          try simp only [Act.put, List.setIfInBounds_toArray, List.set_cons_zero, List.set_cons_succ]
          refine takeL (i := 20) (v := ?_) rfl (by kernel_rfl) (by kernel_rfl) (by kernel_rfl) (fun _ _ _ h => h) (.inl ⟨by rfl, ?_⟩) (by assumption) ?_
          rotate_left
          · (intro w hSw; (try dsimp only at hSw); go_simp; (first | done | with_reducible rfl))
          try simp only [Act.put, List.setIfInBounds_toArray, List.set_cons_zero, List.set_cons_succ]
          refine takeL (i := 21) (v := ?_) rfl (by kernel_rfl) (by kernel_rfl) (by kernel_rfl) (fun _ _ _ h => h) (.inl ⟨by rfl, ?_⟩) (by assumption) ?_
          rotate_left
          · (intro w hSw; (try dsimp only at hSw); go_simp; (first | done | with_reducible rfl))
          try simp only [Act.put, List.setIfInBounds_toArray, List.set_cons_zero, List.set_cons_succ]
          refine takeL (i := 22) (v := ?_) rfl (by kernel_rfl) (by kernel_rfl) (by kernel_rfl) (fun _ _ _ h => h) (.inl ⟨by rfl, ?_⟩) (by assumption) ?_
          rotate_left
          · (intro w hSw; (try dsimp only at hSw); go_simp; (first | done | with_reducible rfl))
          try simp only [Act.put, List.setIfInBounds_toArray, List.set_cons_zero, List.set_cons_succ]
          refine takeL (i := 23) (v := ?_) rfl (by kernel_rfl) (by kernel_rfl) (by kernel_rfl) (fun _ _ _ h => h) (.inl ⟨by rfl, ?_⟩) (by assumption) ?_
          rotate_left
          · (intro w hSw; (try dsimp only at hSw); go_simp; (first | done | with_reducible rfl))
          try simp only [Act.put, List.setIfInBounds_toArray, List.set_cons_zero, List.set_cons_succ]
          refine takeL (i := 24) (v := ?_) rfl (by kernel_rfl) (by kernel_rfl) (by kernel_rfl) (fun _ _ _ h => h) (.inl ⟨by rfl, ?_⟩) (by assumption) ?_
          rotate_left
          · (intro w hSw; (try dsimp only at hSw); go_simp; (first | done | with_reducible rfl))
          try simp only [Act.put, List.setIfInBounds_toArray, List.set_cons_zero, List.set_cons_succ]
          refine takeL (i := 25) (v := ?_) rfl (by kernel_rfl) (by kernel_rfl) (by kernel_rfl) (fun _ _ _ h => h) (.inl ⟨by rfl, ?_⟩) (by assumption) ?_
          rotate_left
          · (intro w hSw; (try dsimp only at hSw); go_simp; (first | done | with_reducible rfl))
          try simp only [Act.put, List.setIfInBounds_toArray, List.set_cons_zero, List.set_cons_succ]
          refine takeL (i := 26) (v := ?_) rfl (by kernel_rfl) (by kernel_rfl) (by kernel_rfl) (fun _ _ _ h => h) (.inl ⟨by rfl, ?_⟩) (by assumption) ?_
          rotate_left
          · (intro w hSw; (try dsimp only at hSw); go_simp; (first | done | with_reducible rfl))
          try simp only [Act.put, List.setIfInBounds_toArray, List.set_cons_zero, List.set_cons_succ]
          refine takeL (i := 27) (v := ?_) rfl (by kernel_rfl) (by kernel_rfl) (by kernel_rfl) (fun _ _ _ h => h) (.inl ⟨by rfl, ?_⟩) (by assumption) ?_
          rotate_left
          · (intro w hSw; (try dsimp only at hSw); go_simp; (first | done | with_reducible rfl))
          try simp only [Act.put, List.setIfInBounds_toArray, List.set_cons_zero, List.set_cons_succ]
          refine takeL (i := 28) (v := ?_) rfl (by kernel_rfl) (by kernel_rfl) (by kernel_rfl) (fun _ _ _ h => h) (.inl ⟨by rfl, ?_⟩) (by assumption) ?_
          rotate_left
          · (intro w hSw; (try dsimp only at hSw); go_simp; (first | done | with_reducible rfl))
          try simp only [Act.put, List.setIfInBounds_toArray, List.set_cons_zero, List.set_cons_succ]
          refine takeL (i := 29) (v := ?_) rfl (by kernel_rfl) (by kernel_rfl) (by kernel_rfl) (fun _ _ _ h => h) (.inl ⟨by rfl, ?_⟩) (by assumption) ?_
          rotate_left
          · (intro w hSw; (try dsimp only at hSw); go_simp; (first | done | with_reducible rfl))
          try simp only [Act.put, List.setIfInBounds_toArray, List.set_cons_zero, List.set_cons_succ]
          refine takeL (i := 30) (v := ?_) rfl (by kernel_rfl) (by kernel_rfl) (by kernel_rfl) (fun _ _ _ h => h) (.inl ⟨by rfl, ?_⟩) (by assumption) ?_
          rotate_left
          · (intro w hSw; (try dsimp only at hSw); go_simp; (first | done | with_reducible rfl))
          try simp only [Act.put, List.setIfInBounds_toArray, List.set_cons_zero, List.set_cons_succ]
          refine takeL (i := 31) (v := ?_) rfl (by kernel_rfl) (by kernel_rfl) (by kernel_rfl) (fun _ _ _ h => h) (.inl ⟨by rfl, ?_⟩) (by assumption) ?_
          rotate_left
          · (intro w hSw; (try dsimp only at hSw); go_simp; (first | done | with_reducible rfl))
          try simp only [Act.put, List.setIfInBounds_toArray, List.set_cons_zero, List.set_cons_succ]
          refine takeL (i := 32) (v := ?_) rfl (by kernel_rfl) (by kernel_rfl) (by kernel_rfl) (fun _ _ _ h => h) (.inl ⟨by rfl, ?_⟩) (by assumption) ?_
          rotate_left
          · (intro w hSw; (try dsimp only at hSw); go_simp; (first | done | with_reducible rfl))
          try simp only [Act.put, List.setIfInBounds_toArray, List.set_cons_zero, List.set_cons_succ]
          refine takeL (i := 33) (v := ?_) rfl (by kernel_rfl) (by kernel_rfl) (by kernel_rfl) (fun _ _ _ h => h) (.inl ⟨by rfl, ?_⟩) (by assumption) ?_
          rotate_left
          · (intro w hSw; (try dsimp only at hSw); go_simp; (first | done | with_reducible rfl))
          try simp only [Act.put, List.setIfInBounds_toArray, List.set_cons_zero, List.set_cons_succ]
          refine stepL (i := 34) rfl (by kernel_rfl) (fun K hK => ?_)
          go_simp
          go_at_call 29
          refine (HT1.out _ HB8.out.drew).mono ?_
          rintro e w9 ⟨rfl, hb⟩
          have HB9 : Hid (Below w8.heap.size w8 w9) := Lib.hid (HB8.out.drew.trans (hb.mono (by simp)))
          clear hb
          go_wp2_with fail
          refine hK.out _ _ trivial (fun hHeld => ?_)
          clear hK K
          try simp only [Act.put, List.setIfInBounds_toArray, List.set_cons_zero, List.set_cons_succ]
          refine takeL (i := 35) (v := ?_) rfl (by kernel_rfl) (by kernel_rfl) (by kernel_rfl) (fun _ _ _ h => h) (.inl ⟨by rfl, ?_⟩) (by assumption) ?_
          rotate_left
          · (intro w hSw; (try dsimp only at hSw); go_simp; (first | done | with_reducible rfl))
          try simp only [Act.put, List.setIfInBounds_toArray, List.set_cons_zero, List.set_cons_succ]
          refine takeL (i := 36) (v := ?_) rfl (by kernel_rfl) (by kernel_rfl) (by kernel_rfl) (fun _ _ _ h => h) (.inl ⟨by rfl, ?_⟩) (by assumption) ?_
          rotate_left
          · (intro w hSw; (try dsimp only at hSw); go_simp; (first | done | with_reducible rfl))
          try simp only [Act.put, List.setIfInBounds_toArray, List.set_cons_zero, List.set_cons_succ]
          refine takeL (i := 37) (v := ?_) rfl (by kernel_rfl) (by kernel_rfl) (by kernel_rfl) (fun _ _ _ h => h) (.inl ⟨by rfl, ?_⟩) (by assumption) ?_
          rotate_left
          · (intro w hSw; (try dsimp only at hSw); go_simp; (first | done | with_reducible rfl))
          try simp only [Act.put, List.setIfInBounds_toArray, List.set_cons_zero, List.set_cons_succ]
          refine takeL (i := 38) (v := ?_) rfl (by kernel_rfl) (by kernel_rfl) (by kernel_rfl) (fun _ _ _ h => h) (.inl ⟨by rfl, ?_⟩) (by assumption) ?_
          rotate_left
          · (intro w hSw; (try dsimp only at hSw); go_simp; (first | done | with_reducible rfl))
          try simp only [Act.put, List.setIfInBounds_toArray, List.set_cons_zero, List.set_cons_succ]
          refine takeL (i := 40) (v := ?_) rfl (by kernel_rfl) (by kernel_rfl) (by kernel_rfl) (fun _ _ _ h => h) (.inl ⟨by rfl, ?_⟩) (by assumption) ?_
          rotate_left
          · (intro w hSw; (try dsimp only at hSw); go_simp; (first | done | with_reducible rfl))
          try simp only [Act.put, List.setIfInBounds_toArray, List.set_cons_zero, List.set_cons_succ]
          refine takeL (i := 41) (v := ?_) rfl (by kernel_rfl) (by kernel_rfl) (by kernel_rfl) (fun _ _ _ h => h) (.inl ⟨by rfl, ?_⟩) (by assumption) ?_
          rotate_left
          · (intro w hSw; (try dsimp only at hSw); go_simp; (first | done | with_reducible rfl))
          try simp only [Act.put, List.setIfInBounds_toArray, List.set_cons_zero, List.set_cons_succ]
          refine takeL (i := 42) (v := ?_) rfl (by kernel_rfl) (by kernel_rfl) (by kernel_rfl) (fun _ _ _ h => h) (.inl ⟨by rfl, ?_⟩) (by assumption) ?_
          rotate_left
          · (intro w hSw; (try dsimp only at hSw); go_simp; (first | done | with_reducible rfl))
          try simp only [Act.put, List.setIfInBounds_toArray, List.set_cons_zero, List.set_cons_succ]
          refine takeL (i := 43) (v := ?_) rfl (by kernel_rfl) (by kernel_rfl) (by kernel_rfl) (fun _ _ _ h => h) (.inl ⟨by rfl, ?_⟩) (by assumption) ?_
          rotate_left
          · (intro w hSw; (try dsimp only at hSw); go_simp; (first | done | with_reducible rfl))
          try simp only [Act.put, List.setIfInBounds_toArray, List.set_cons_zero, List.set_cons_succ]
          refine stepL (i := 39) rfl (by kernel_rfl) (fun K hK => ?_)
          go_simp
          go_at_call 19
          refine (HFI.out _ HB9.out).mono ?_
          rintro e w10 ⟨z10, rfl, hz, hb⟩
          obtain ⟨A10, c10, hv10, _, _⟩ := hz.form
          rw [HND.out] at hv10
          subst hv10
          have HZ10 := Lib.hid hz
          have HB10 : Hid (Below w8.heap.size w8 w10) := Lib.hid (HB9.out.trans (hb.mono HB9.out.size))
          clear hz hb
          go_wp2_with fail
          refine hK.out _ _ trivial (fun hHeld => ?_)
          clear hK K
          try simp only [Act.put, List.setIfInBounds_toArray, List.set_cons_zero, List.set_cons_succ]
          refine stepL (i := 44) rfl (by kernel_rfl) (fun K hK => ?_)
          go_simp
          go_at_call 29
          refine (HT2.out _ HB10.out _ HZ10.out).mono ?_
          rintro e w11 ⟨rfl, hb⟩
          have HB11 : Hid (Below w8.heap.size w8 w11) := Lib.hid (HB10.out.trans (hb.mono HB10.out.size))
          clear hb
          go_wp2_with fail
          refine hK.out _ _ trivial (fun hHeld => ?_)
          clear hK K
          try simp only [Act.put, List.setIfInBounds_toArray, List.set_cons_zero, List.set_cons_succ]
          refine takeL (i := 45) (v := ?_) rfl (by kernel_rfl) (by kernel_rfl) (by kernel_rfl) (fun _ _ _ h => h) (.inl ⟨by rfl, ?_⟩) (by assumption) ?_
          rotate_left
          · (intro w hSw; (try dsimp only at hSw); go_simp; (first | done | with_reducible rfl))
          try simp only [Act.put, List.setIfInBounds_toArray, List.set_cons_zero, List.set_cons_succ]
          refine takeL (i := 46) (v := ?_) rfl (by kernel_rfl) (by kernel_rfl) (by kernel_rfl) (fun _ _ _ h => h) (.inl ⟨by rfl, ?_⟩) (by assumption) ?_
          rotate_left
          · (intro w hSw; (try dsimp only at hSw); go_simp; (first | done | with_reducible rfl))
          try simp only [Act.put, List.setIfInBounds_toArray, List.set_cons_zero, List.set_cons_succ]
          refine takeL (i := 47) (v := ?_) rfl (by kernel_rfl) (by kernel_rfl) (by kernel_rfl) (fun _ _ _ h => h) (.inl ⟨by rfl, ?_⟩) (by assumption) ?_
          rotate_left
          · (intro w hSw; (try dsimp only at hSw); go_simp; (first | done | with_reducible rfl))
          try simp only [Act.put, List.setIfInBounds_toArray, List.set_cons_zero, List.set_cons_succ]
          refine takeL (i := 48) (v := ?_) rfl (by kernel_rfl) (by kernel_rfl) (by kernel_rfl) (fun _ _ _ h => h) (.inl ⟨by rfl, ?_⟩) (by assumption) ?_
          rotate_left
          · (intro w hSw; (try dsimp only at hSw); go_simp; (first | done | with_reducible rfl))
          try simp only [Act.put, List.setIfInBounds_toArray, List.set_cons_zero, List.set_cons_succ]
          refine takeL (i := 49) (v := ?_) rfl (by kernel_rfl) (by kernel_rfl) (by kernel_rfl) (fun _ _ _ h => h) (.inl ⟨by rfl, ?_⟩) (by assumption) ?_
          rotate_left
          · (intro w hSw; (try dsimp only at hSw); go_simp; (first | done | with_reducible rfl))
          try simp only [Act.put, List.setIfInBounds_toArray, List.set_cons_zero, List.set_cons_succ]
          refine takeL (i := 50) (v := ?_) rfl (by kernel_rfl) (by kernel_rfl) (by kernel_rfl) (fun _ _ _ h => h) (.inl ⟨by rfl, ?_⟩) (by assumption) ?_
          rotate_left
          · (intro w hSw; (try dsimp only at hSw); go_simp; (first | done | with_reducible rfl))
          try simp only [Act.put, List.setIfInBounds_toArray, List.set_cons_zero, List.set_cons_succ]
          refine takeL (i := 51) (v := ?_) rfl (by kernel_rfl) (by kernel_rfl) (by kernel_rfl) (fun _ _ _ h => h) (.inl ⟨by rfl, ?_⟩) (by assumption) ?_
          rotate_left
          · (intro w hSw; (try dsimp only at hSw); go_simp; (first | done | with_reducible rfl))
          try simp only [Act.put, List.setIfInBounds_toArray, List.set_cons_zero, List.set_cons_succ]
          refine takeL (i := 52) (v := ?_) rfl (by kernel_rfl) (by kernel_rfl) (by kernel_rfl) (fun _ _ _ h => h) (.inl ⟨by rfl, ?_⟩) (by assumption) ?_
          rotate_left
          · (intro w hSw; (try dsimp only at hSw); go_simp; (first | done | with_reducible rfl))
          try simp only [Act.put, List.setIfInBounds_toArray, List.set_cons_zero, List.set_cons_succ]
          refine takeL (i := 53) (v := ?_) rfl (by kernel_rfl) (by kernel_rfl) (by kernel_rfl) (fun _ _ _ h => h) (.inl ⟨by rfl, ?_⟩) (by assumption) ?_
          rotate_left
          · (intro w hSw; (try dsimp only at hSw); go_simp; (first | done | with_reducible rfl))
          try simp only [Act.put, List.setIfInBounds_toArray, List.set_cons_zero, List.set_cons_succ]
          refine takeL (i := 54) (v := ?_) rfl (by kernel_rfl) (by kernel_rfl) (by kernel_rfl) (fun _ _ _ h => h) (.inl ⟨by rfl, ?_⟩) (by assumption) ?_
          rotate_left
          · (intro w hSw; (try dsimp only at hSw); go_simp; (first | done | with_reducible rfl))
          try simp only [Act.put, List.setIfInBounds_toArray, List.set_cons_zero, List.set_cons_succ]
          refine takeL (i := 55) (v := ?_) rfl (by kernel_rfl) (by kernel_rfl) (by kernel_rfl) (fun _ _ _ h => h) (.inl ⟨by rfl, ?_⟩) (by assumption) ?_
          rotate_left
          · (intro w hSw; (try dsimp only at hSw); go_simp; (first | done | with_reducible rfl))
          try simp only [Act.put, List.setIfInBounds_toArray, List.set_cons_zero, List.set_cons_succ]
          refine takeL (i := 56) (v := ?_) rfl (by kernel_rfl) (by kernel_rfl) (by kernel_rfl) (fun _ _ _ h => h) (.inl ⟨by rfl, ?_⟩) (by assumption) ?_
          rotate_left
          · (intro w hSw; (try dsimp only at hSw); go_simp; (first | done | with_reducible rfl))
          try simp only [Act.put, List.setIfInBounds_toArray, List.set_cons_zero, List.set_cons_succ]
          refine takeL (i := 57) (v := ?_) rfl (by kernel_rfl) (by kernel_rfl) (by kernel_rfl) (fun _ _ _ h => h) (.inl ⟨by rfl, ?_⟩) (by assumption) ?_
          rotate_left
          · (intro w hSw; (try dsimp only at hSw); go_simp; (first | done | with_reducible rfl))
          try simp only [Act.put, List.setIfInBounds_toArray, List.set_cons_zero, List.set_cons_succ]
          refine takeL (i := 58) (v := ?_) rfl (by kernel_rfl) (by kernel_rfl) (by kernel_rfl) (fun _ _ _ h => h) (.inl ⟨by rfl, ?_⟩) (by assumption) ?_
          rotate_left
          · (intro w hSw; (try dsimp only at hSw); go_simp; (first | done | with_reducible rfl))
          try simp only [Act.put, List.setIfInBounds_toArray, List.set_cons_zero, List.set_cons_succ]
          refine takeL (i := 59) (v := ?_) rfl (by kernel_rfl) (by kernel_rfl) (by kernel_rfl) (fun _ _ _ h => h) (.inl ⟨by rfl, ?_⟩) (by assumption) ?_
          rotate_left
          · (intro w hSw; (try dsimp only at hSw); go_simp; (first | done | with_reducible rfl))
          try simp only [Act.put, List.setIfInBounds_toArray, List.set_cons_zero, List.set_cons_succ]
          refine takeL (i := 60) (v := ?_) rfl (by kernel_rfl) (by kernel_rfl) (by kernel_rfl) (fun _ _ _ h => h) (.inl ⟨by rfl, ?_⟩) (by assumption) ?_
          rotate_left
          · (intro w hSw; (try dsimp only at hSw); go_simp; (first | done | with_reducible rfl))
          try simp only [Act.put, List.setIfInBounds_toArray, List.set_cons_zero, List.set_cons_succ]
          refine takeL (i := 61) (v := ?_) rfl (by kernel_rfl) (by kernel_rfl) (by kernel_rfl) (fun _ _ _ h => h) (.inl ⟨by rfl, ?_⟩) (by assumption) ?_
          rotate_left
          · (intro w hSw; (try dsimp only at hSw); go_simp; (first | done | with_reducible rfl))
          try simp only [Act.put, List.setIfInBounds_toArray, List.set_cons_zero, List.set_cons_succ]
          refine takeL (i := 62) (v := ?_) rfl (by kernel_rfl) (by kernel_rfl) (by kernel_rfl) (fun _ _ _ h => h) (.inl ⟨by rfl, ?_⟩) (by assumption) ?_
          rotate_left
          · (intro w hSw; (try dsimp only at hSw); go_simp; (first | done | with_reducible rfl))
          try simp only [Act.put, List.setIfInBounds_toArray, List.set_cons_zero, List.set_cons_succ]
          refine stepL (i := 63) rfl (by kernel_rfl) (fun K hK => ?_)
          go_simp
          go_at_call 32
          refine (HT3.out _ HB11.out).mono ?_
          rintro e w12 ⟨rfl, hb⟩
          have HB12 : Hid (Below w8.heap.size w8 w12) := Lib.hid (HB11.out.trans (hb.mono HB11.out.size))
          clear hb
          go_wp2_with fail
          refine hK.out _ _ trivial (fun hHeld => ?_)
          clear hK K
          try simp only [Act.put, List.setIfInBounds_toArray, List.set_cons_zero, List.set_cons_succ]
          refine takeL (i := 64) (v := ?_) rfl (by kernel_rfl) (by kernel_rfl) (by kernel_rfl) (fun _ _ _ h => h) (.inl ⟨by rfl, ?_⟩) (by assumption) ?_
          rotate_left
          · (intro w hSw; (try dsimp only at hSw); go_simp; (first | done | with_reducible rfl))
          try simp only [Act.put, List.setIfInBounds_toArray, List.set_cons_zero, List.set_cons_succ]
          refine takeL (i := 65) (v := ?_) rfl (by kernel_rfl) (by kernel_rfl) (by kernel_rfl) (fun _ _ _ h => h) (.inl ⟨by rfl, ?_⟩) (by assumption) ?_
          rotate_left
          · (intro w hSw; (try dsimp only at hSw); go_simp; (first | done | with_reducible rfl))
          try simp only [Act.put, List.setIfInBounds_toArray, List.set_cons_zero, List.set_cons_succ]
          refine wpAnyH_done (by kernel_rfl) ?_ _
          clear hHeld
          have HX12 := Lib.hid (HX8.out.below HB12.out)
          clear HB9 HB10 HB11 HT1 HT2 HT3 HFI
          go_wp2_with fail
          refine (recs_any w12.heap.size [⟨#[109, 111, 114, 101]⟩] _ (lit_string w12 _) (by intro s hs; simp at hs; subst hs; simp [ByteArray.size]) (by simp)).mono ?_
          rintro e w13 ⟨v13, rfl, hr13, hb13⟩
          have hr13 : RdL w13 v13 tMore := hr13
          obtain ⟨A13, c13, rfl, _, _⟩ := hr13.form
          have H13 := Lib.hid ((HX12.out.below (below1 w12 _)).below hb13)
          have HR13 := Lib.hid hr13
          clear hr13 hb13
          have hwr := write_any H13.out.lb HTE.out.i.ok (by have := HTE.out.i.fuse; omega) H13.out.gb (by have := HTE.out.i.lo; omega) (by have := HTE.out.i.hi; have := HAL.out; omega) (by have := HTE.out.i.nfew; have := HAL.out; omega) _ tMore HR13.out (fun y hy => by have := tMore_small.2.2 y hy; omega)
          obtain ⟨_, hw2, _⟩ := write_ok HTE.out.i (by omega) (by omega) (by have := HAL.out; omega) tMore_small
          obtain ⟨r, hr⟩ : ∃ r, lWrite dk lg tMore = r := ⟨_, rfl⟩
          rw [hr] at hwr hw2
          obtain ⟨dk1, lg1, n1, e1'⟩ := r
          simp only [Prod.mk.injEq] at hw2
          obtain ⟨rfl, rfl⟩ := hw2
          rw [HLE.out] at hwr
          have hwr : Calls Tryz.prog 14 _ w13 (WrP w.heap.size l S7 (dk1, lg1, last + 1, 0) w13) := hwr
          have HWR := Lib.hid hwr
          clear hwr hr
          go_wp2_with fail
          refine HWR.out.mono ?_
          rintro e w14 ⟨rfl, hl14⟩
          obtain ⟨S14, h14⟩ := H13.out.step hl14
          have HAW := Lib.hid (awake_any w14 h14.gb.gok)
          have HE14 := Lib.hid h14.be
          clear hl14 h14
          go_wp2_with fail
          refine HAW.out.mono ?_
          rintro e w15 ⟨rfl, hb15⟩
          have HFIN : Hid (Below w.heap.size w w15) := Lib.hid (HE14.out.trans (hb15.mono HE14.out.size))
          clear hb15
          go_wp2_with fail
          exact bodyPost_ret (v := .bool true) (by simp [results]) rfl ⟨rfl, HFIN.out⟩
        · have hfl : (lFiles lg).length = segs.length := by unfold lFiles; rw [HLH.out.fi, List.length_map, List.length_map]
          have hkp : 0 < segs.length := List.length_pos_iff.2 hsegs
          have hfs : flatS segs = al := HLH.out.fl
          have htl := HTR.out.told (by omega) (by omega) (fun s hs r hr => HSM.out r (by rw [← hfs]; exact List.mem_flatMap.2 ⟨s, hs, hr⟩)) (by rw [hfs]; omega)
          have htd := told_any HX.out 1 segs htl
          rw [hfs] at htd
          have HTD := Lib.hid htd
          obtain ⟨G, hG⟩ : ∃ G, goneN below lg.firsts = G := ⟨_, rfl⟩
          have hgk : G < segs.length := by
            have := goneN_lt below lg.firsts
            rw [hG, HLH.out.fi, List.length_map] at this
            omega
          obtain ⟨hge, hgh⟩ := goneN_end below lg.firsts
          rw [hG] at hge hgh
          have hsl := segs_le HTR.out.ch
          rw [hfs] at hsl
          have htr2 := HTR.out.at (by omega) (by omega) (by omega) G (by omega)
          have hrf := rmT_facts G dk lg
          obtain ⟨T, hT⟩ : ∃ T, (flatS (segs.take G)).length = T := ⟨_, rfl⟩
          have hT' : ((segs.take G).flatMap Prod.snd).length = T := hT
          rw [hT'] at htr2
          obtain ⟨dkE, hdkE⟩ : ∃ x, (rmT G dk lg).1 = x := ⟨_, rfl⟩
          obtain ⟨lgE, hlgE⟩ : ∃ x, (rmT G dk lg).2 = x := ⟨_, rfl⟩
          rw [hdkE, hlgE] at htr2
          rw [hlgE] at hrf
          have HTE := Lib.hid htr2
          obtain ⟨hrf1, hrf2, _, _, _⟩ := hrf
          have hLE : lgE.last = last := by rw [hrf2]; exact hlast
          have HLE := Lib.hid hLE
          have hcut := flat_cut segs G
          rw [hfs] at hcut
          obtain ⟨p, hp⟩ : ∃ p, (flatS (segs.drop G)).length = p := ⟨_, rfl⟩
          have hq : al.length = T + p := by rw [hcut, List.length_append, hT, hp]
          have hpp : 0 < p := by
            have h1 := segs_le htr2.ch
            rw [hp, List.length_drop] at h1
            omega
          have htl2 := htr2.told (by omega) (by omega) (fun s hs r hr => HSM.out r (by rw [← hfs]; exact List.mem_flatMap.2 ⟨s, List.mem_of_mem_drop hs, hr⟩)) (by rw [hp]; omega)
          have HTL2 := Lib.hid htl2
          have hnames : lFiles lgE = (lFiles lg).drop G := by unfold lFiles; rw [hrf1, List.map_drop]
          have HNE := Lib.hid hnames
          obtain ⟨K, hK⟩ : ∃ K, segs.length = K := ⟨_, rfl⟩
          rw [hK] at hfl hkp hgk hsl
          have HFL := Lib.hid hfl
          have hnq : (numB 1 al).length = T + p := by rw [numB_len, hq]
          have HNQ := Lib.hid hnq
          have hnb : (numB 1 al).drop T = numB (1 + (T : Int)) (flatS (segs.drop G)) := by
            rw [hcut, ← hT, numB_drop]
          have HNB := Lib.hid hnb
          have HNP : Hid ((numB (1 + (T : Int)) (flatS (segs.drop G))).length = p) := by show _ = _; rw [numB_len, hp]
          have HG0 := Lib.hid hG
          have HGE : Hid (goneN below lgE.firsts = 0) := by show _ = _; rw [hrf1]; exact hge
          have HHEAD : Hid (0 < G → 1 + (T : Int) ≤ below) := by
            show _ → _
            intro h
            obtain ⟨b', r, h1, h2⟩ := hgh h
            have h3 := htr2.fi
            rw [hrf1, h1] at h3
            have h4 := htr2.ch
            cases hsd : segs.drop G with
            | nil => rw [hsd] at h3; cases h3
            | cons s rest =>
              rw [hsd] at h3 h4
              rw [List.map_cons] at h3
              injection h3 with h3
              have := h4.1
              omega
          have hnd : ((lFiles lg).drop G).length = K - G := by rw [List.length_drop, hfl]
          have hnt : ((lFiles lg).take G).length = G := by rw [List.length_take, hfl]; omega
          have HND := Lib.hid hnd
          have HNT := Lib.hid hnt
          have HRM1 := Lib.hid hdkE
          have HRM2 := Lib.hid hlgE
          have hTP : T + p ≤ 40 := by omega
          have hK40 : K ≤ 40 := by omega
          have hfew : lg.firsts.length ≤ 1000000 := by rw [HLH.out.fi, List.length_map, hK]; omega
          have hfewE : lgE.firsts.length ≤ 1000000 := by rw [hrf1, List.length_drop]; omega
          have HFEW := Lib.hid (And.intro hfew hfewE)
          clear hfl hfs htl htd hge hgh hsl htr2 hT hT' hdkE hlgE hrf1 hrf2 hLE hcut hp hq htl2 hnames hK hnq hnb hG hnd hnt hlast hsegs hfew hfewE
          go_wp2_with fail
          refine HTD.out.mono ?_
          rintro e w3 ⟨z3, rfl, hz3, hb3⟩
          obtain ⟨g4, c4, rfl, hc4, hm4⟩ := own_some hz3 (by rw [HNQ.out]; omega)
          rw [HNQ.out] at hz3 hc4 ⊢
          have HZ3 := Lib.hid hz3
          have HB3 := Lib.hid hb3
          clear hb3 hz3 HTD
          go_wp2_with fail
          refine ((HX.out.below HB3.out).filesO HFEW.out.1).mono ?_
          rintro e w4 ⟨z4, rfl, hz4, hb4⟩
          obtain ⟨g5, c5, rfl, hc5, hm5⟩ := own_some hz4 (by rw [HFL.out]; omega)
          rw [HFL.out] at hz4 hc5 ⊢
          have HZ4 := Lib.hid hz4
          have HZ3b := Lib.hid (HZ3.out.keep mBt_law (Stay.below hb4))
          have HX4 := Lib.hid ((HX.out.below HB3.out).below hb4)
          clear hb4 hz4 HZ3
          go_wp2_with fail
          refine (last_any HX4.out.lb).mono ?_
          rintro e w' ⟨rfl, hw⟩
          subst hw
          rw [HLA.out]
          have htm := HX4.out.trim HTR.out (by omega) (by omega) (by omega) below
          rw [HG0.out] at htm
          have HTM := Lib.hid htm
          clear htm
          go_wp2_with fail
          refine HTM.out.mono ?_
          rintro e w6 ⟨z6, rfl, hz6, hl6⟩
          rw [HRM1.out, HRM2.out] at hl6
          obtain ⟨A6, c6, rfl⟩ := hz6.form
          rw [HNT.out] at hz6 ⊢
          obtain ⟨S6, h6⟩ := HX4.out.step hl6
          have H6 : Hid (AX w w6 w.heap.size l dkE lgE S6) := h6
          have HZ6 := Lib.hid hz6
          have HZ3c := Lib.hid (HZ3b.out.keep mBt_law (HX4.out.stayG hl6 (by decide)))
          have HZ4b := Lib.hid (HZ4.out.keep mS_law (HX4.out.stayG hl6 (by decide)))
          have htm := H6.out.trim HTE.out (by omega) (by omega) (by omega) below
          rw [HGE.out] at htm
          have HTM2 := Lib.hid htm
          clear htm hz6 hl6 h6 HTM HZ4 HZ3b
          go_wp2_with fail
          refine HTM2.out.mono ?_
          rintro e w7 ⟨z7, rfl, hz7, hl7⟩
          obtain ⟨A7, c7, rfl⟩ := hz7.form
          rw [show (List.take 0 (lFiles lgE)).length = 0 by simp] at hz7 ⊢
          obtain ⟨S8, h7⟩ := H6.out.step hl7
          have H7 : Hid (AX w w7 w.heap.size l dkE lgE S8) := h7
          have HZ6b := Lib.hid (HZ6.out.keep mS_law (H6.out.stayG hl7 (by decide)))
          have HZ3d := Lib.hid (HZ3c.out.keep mBt_law (H6.out.stayG hl7 (by decide)))
          have HZ4c := Lib.hid (HZ4b.out.keep mS_law (H6.out.stayG hl7 (by decide)))
          clear hz7 hl7 h7 HTM2 HZ6 HZ3c HZ4b
          have HTD2 := Lib.hid (told_any H7.out (1 + (T : Int)) (segs.drop G) HTL2.out)
          go_wp2_with fail
          refine HTD2.out.mono ?_
          rintro e w8 ⟨z8, rfl, hz8, hb8⟩
          obtain ⟨g8, c8, rfl, hc8, hm8⟩ := own_some hz8 (by rw [HNP.out]; exact hpp)
          rw [HNP.out] at hz8 hc8 ⊢
          have HX8 : Hid (AX w w8 w.heap.size l dkE lgE S8) := Lib.hid (H7.out.below hb8)
          have HB8 := Lib.hid (Below.refl w8.heap.size w8)
          have HW8 := Lib.hid (HZ3d.out.keep mBt_law (Stay.below hb8))
          have HF8 := Lib.hid (HZ4c.out.keep mS_law (Stay.below hb8))
          have HG8 := Lib.hid (HZ6b.out.keep mS_law (Stay.below hb8))
          have HL8 := Lib.hid hz8
          have HT1 : Hid (∀ w9, Below w8.heap.size w8 w9 → Calls Tryz.prog 29 #[.slice A6 G c6, .slice (some ⟨g5, 0, none⟩) G c5] w9 fun e w' => e = .returned (.bool true) ∧ Below w9.heap.size w9 w') := fun w9 hb9 => by
            have := sameTexts_any _ _ _ _ w9 ((rdT_own HG8.out).below hb9) (rdT_take ((rdT_own HF8.out).below hb9) G (by omega))
            rwa [show decide (List.take G (lFiles lg) = List.take G (lFiles lg)) = true by simp] at this
          have HFI : Hid (∀ w9, Below w8.heap.size w8 w9 → Calls Tryz.prog 19 #[.pointer (some ⟨l, 0, none⟩)] w9 fun e w' => ∃ z, e = .returned z ∧ RdT w' z ((lFiles lg).drop G) ∧ Below w9.heap.size w9 w') := fun w9 hb9 => by
            have := (HX8.out.below hb9).files HFEW.out.2
            rwa [HNE.out] at this
          have HT2 : Hid (∀ w9, Below w8.heap.size w8 w9 → ∀ z, RdT w9 z ((lFiles lg).drop G) → Calls Tryz.prog 29 #[z, .slice (some ⟨g5, G, none⟩) (K - G) (c5 - G)] w9 fun e w' => e = .returned (.bool true) ∧ Below w9.heap.size w9 w') := fun w9 hb9 z hz => by
            have h9 := rdT_drop ((rdT_own HF8.out).below hb9) G (by omega)
            rw [Nat.zero_add] at h9
            have := sameTexts_any z _ _ _ w9 hz h9
            rwa [show decide (List.drop G (lFiles lg) = List.drop G (lFiles lg)) = true by simp] at this
          have HT3 : Hid (∀ w9, Below w8.heap.size w8 w9 → Calls Tryz.prog 32 #[.slice (some ⟨g8, 0, none⟩) p c8, .slice (some ⟨g4, T * 2, none⟩) p (c4 - T)] w9 fun e w' => e = .returned (.bool true) ∧ Below w9.heap.size w9 w') := fun w9 hb9 => by
            have h9 := rdBt_drop (bt_list (HW8.out.keep mBt_law (Stay.below hb9))) T (by omega)
            rw [Nat.zero_add, HNB.out, show T + p - T = p by omega] at h9
            have := sameBatches_any _ _ _ _ w9 (bt_list (HL8.out.keep mBt_law (Stay.below hb9))) h9
            rwa [show decide (numB (1 + (T : Int)) (flatS (segs.drop G)) = numB (1 + (T : Int)) (flatS (segs.drop G))) = true by simp] at this
          have s1 : IntKind.i64.wrap ((K : Int) - 1) = (K : Int) - 1 := by rw [IntKind.wrap_i64]; omega
          have s2 : max ((K : Int) - 1) 0 = (K : Int) - 1 := by omega
          have s3 : ¬ (K : Int) - 1 < (G : Int) := by omega
          have s3b : ¬ (K : Int) ≤ (G : Int) := by omega
          have s3c : decide ((K : Int) - 1 < (G : Int)) = false := by simp; omega
          have s4 : (G : Int) ≤ K := by omega
          have s4b : G ≤ K := by omega
          have s6b : decide ((T : Int) + (p : Int) < (p : Int)) = false := by simp; omega
          have s5 : ¬ c5 = G := by omega
          have s6 : ¬ (T : Int) + (p : Int) < (p : Int) := by omega
          have s7 : IntKind.i64.wrap (T : Int) = (T : Int) := by rw [IntKind.wrap_i64]; omega
          have s8 : ¬ c4 = T := by omega
          have s9 : (T : Int) ≤ (T : Int) + (p : Int) := by omega
          have s10 : IntKind.i64.wrap ((T : Int) + (p : Int) - (p : Int)) = (T : Int) := by rw [IntKind.wrap_i64]; omega
          have s11 : T + p - T = p := by omega
          have hGc5 : G ≤ c5 := by omega
          clear hb8 hz8 HTD2 H6 H7 HB3 HZ6b HZ3d HZ4c
          go_upto_region 15 with fail
          refine wp_region_all (fun _ => True) 66 (by kernel_rfl) rfl trivial (fun hHeld => ?_)
          refine takeL (i := 0) (v := ?_) rfl (by kernel_rfl) (by kernel_rfl) (by kernel_rfl) (fun _ _ _ h => h) (.inl ⟨by rfl, ?_⟩) (by assumption) ?_
          rotate_left
          · (intro w hSw; (try dsimp only at hSw); go_simp; (first | done | with_reducible rfl))
          try simp only [Act.put, List.setIfInBounds_toArray, List.set_cons_zero, List.set_cons_succ]
          refine takeL (i := 1) (v := ?_) rfl (by kernel_rfl) (by kernel_rfl) (by kernel_rfl) (fun _ _ _ h => h) (.inl ⟨by rfl, ?_⟩) (by assumption) ?_
          rotate_left
          · (intro w hSw; (try dsimp only at hSw); go_simp; (first | done | with_reducible rfl))
          try simp only [Act.put, List.setIfInBounds_toArray, List.set_cons_zero, List.set_cons_succ]
          refine takeL (i := 2) (v := ?_) rfl (by kernel_rfl) (by kernel_rfl) (by kernel_rfl) (fun _ _ _ h => h) (.inl ⟨by rfl, ?_⟩) (by assumption) ?_
          rotate_left
          · (intro w hSw; (try dsimp only at hSw); go_simp; (first | done | with_reducible rfl))
          try simp only [Act.put, List.setIfInBounds_toArray, List.set_cons_zero, List.set_cons_succ]
          refine takeL (i := 3) (v := ?_) rfl (by kernel_rfl) (by kernel_rfl) (by kernel_rfl) (fun _ _ _ h => h) (.inl ⟨by rfl, ?_⟩) (by assumption) ?_
          rotate_left
          · (intro w hSw; (try dsimp only at hSw); go_simp; (first | done | with_reducible rfl))
          try simp only [Act.put, List.setIfInBounds_toArray, List.set_cons_zero, List.set_cons_succ]
          refine takeL (i := 4) (v := ?_) rfl (by kernel_rfl) (by kernel_rfl) (by kernel_rfl) (fun _ _ _ h => h) (.inl ⟨by rfl, ?_⟩) (by assumption) ?_
          rotate_left
          · (intro w hSw; (try dsimp only at hSw); go_simp; (first | done | with_reducible rfl))
          try simp only [Act.put, List.setIfInBounds_toArray, List.set_cons_zero, List.set_cons_succ]
          refine takeL (i := 5) (v := ?_) rfl (by kernel_rfl) (by kernel_rfl) (by kernel_rfl) (fun _ _ _ h => h) (.inl ⟨by rfl, ?_⟩) (by assumption) ?_
          rotate_left
          · (intro w hSw; (try dsimp only at hSw); go_simp; (first | done | with_reducible rfl))
          try simp only [Act.put, List.setIfInBounds_toArray, List.set_cons_zero, List.set_cons_succ]
          refine takeL (i := 6) (v := ?_) rfl (by kernel_rfl) (by kernel_rfl) (by kernel_rfl) (fun _ _ _ h => h) (.inl ⟨by rfl, ?_⟩) (by assumption) ?_
          rotate_left
          · (intro w hSw; (try dsimp only at hSw); go_simp; (first | done | with_reducible rfl))
          try simp only [Act.put, List.setIfInBounds_toArray, List.set_cons_zero, List.set_cons_succ]
          refine takeL (i := 7) (v := ?_) rfl (by kernel_rfl) (by kernel_rfl) (by kernel_rfl) (fun _ _ _ h => h) (.inl ⟨by rfl, ?_⟩) (by assumption) ?_
          rotate_left
          · (intro w hSw; (try dsimp only at hSw); go_simp; (first | done | with_reducible rfl))
          try simp only [Act.put, List.setIfInBounds_toArray, List.set_cons_zero, List.set_cons_succ]
          refine takeL (i := 8) (v := ?_) rfl (by kernel_rfl) (by kernel_rfl) (by kernel_rfl) (fun _ _ _ h => h) (.inl ⟨by rfl, ?_⟩) (by assumption) ?_
          rotate_left
          · (intro w hSw; (try dsimp only at hSw); go_simp; (first | done | with_reducible rfl))
          try simp only [Act.put, List.setIfInBounds_toArray, List.set_cons_zero, List.set_cons_succ]
          refine takeL (i := 9) (v := ?_) rfl (by kernel_rfl) (by kernel_rfl) (by kernel_rfl) (fun _ _ _ h => h) (.inl ⟨by rfl, ?_⟩) (by assumption) ?_
          rotate_left
          · (intro w hSw; (try dsimp only at hSw); go_simp; (first | done | with_reducible rfl))
          try simp only [Act.put, List.setIfInBounds_toArray, List.set_cons_zero, List.set_cons_succ]
          refine takeL (i := 10) (v := ?_) rfl (by kernel_rfl) (by kernel_rfl) (by kernel_rfl) (fun _ _ _ h => h) (.inl ⟨by rfl, ?_⟩) (by assumption) ?_
          rotate_left
          · (intro w hSw; (try dsimp only at hSw); go_simp; (first | done | with_reducible rfl))
          try simp only [Act.put, List.setIfInBounds_toArray, List.set_cons_zero, List.set_cons_succ]
          refine takeL (i := 11) (v := ?_) rfl (by kernel_rfl) (by kernel_rfl) (by kernel_rfl) (fun _ _ _ h => h) (.inl ⟨by rfl, ?_⟩) (by assumption) ?_
          rotate_left
          · (intro w hSw; (try dsimp only at hSw); go_simp; (first | done | with_reducible rfl))
          try simp only [Act.put, List.setIfInBounds_toArray, List.set_cons_zero, List.set_cons_succ]
          refine takeL (i := 12) (v := ?_) rfl (by kernel_rfl) (by kernel_rfl) (by kernel_rfl) (fun _ _ _ h => h) (.inl ⟨by rfl, ?_⟩) (by assumption) ?_
          rotate_left
          · (intro w hSw; (try dsimp only at hSw); go_simp; (first | done | with_reducible rfl))
          try simp only [Act.put, List.setIfInBounds_toArray, List.set_cons_zero, List.set_cons_succ]
          refine takeL (i := 13) (v := ?_) rfl (by kernel_rfl) (by kernel_rfl) (by kernel_rfl) (fun _ _ _ h => h) (.inl ⟨by rfl, ?_⟩) (by assumption) ?_
          rotate_left
          · (intro w hSw; (try dsimp only at hSw); go_simp; (first | done | with_reducible rfl))
          try simp only [Act.put, List.setIfInBounds_toArray, List.set_cons_zero, List.set_cons_succ]
          refine takeL (i := 14) (v := ?_) rfl (by kernel_rfl) (by kernel_rfl) (by kernel_rfl) (fun _ _ _ h => h) (.inl ⟨by rfl, ?_⟩) (by assumption) ?_
          rotate_left
          · (intro w hSw; (try dsimp only at hSw); go_simp; (first | done | with_reducible rfl))
          try simp only [Act.put, List.setIfInBounds_toArray, List.set_cons_zero, List.set_cons_succ]
          refine takeL (i := 15) (v := ?_) rfl (by kernel_rfl) (by kernel_rfl) (by kernel_rfl) (fun _ _ _ h => h) (.inl ⟨by rfl, ?_⟩) (by assumption) ?_
          rotate_left
          · (intro w hSw; (try dsimp only at hSw); go_simp; (first | done | with_reducible rfl))
          try simp only [Act.put, List.setIfInBounds_toArray, List.set_cons_zero, List.set_cons_succ]
          refine takeL (i := 16) (v := ?_) rfl (by kernel_rfl) (by kernel_rfl) (by kernel_rfl) (fun _ _ _ h => h) (.inl ⟨by rfl, ?_⟩) (by assumption) ?_
          rotate_left
          · (intro w hSw; (try dsimp only at hSw); go_simp; (first | done | with_reducible rfl))
          try simp only [Act.put, List.setIfInBounds_toArray, List.set_cons_zero, List.set_cons_succ]
          refine takeL (i := 17) (v := ?_) rfl (by kernel_rfl) (by kernel_rfl) (by kernel_rfl) (fun _ _ _ h => h) (.inl ⟨by rfl, ?_⟩) (by assumption) ?_
          rotate_left
          · (intro w hSw; (try dsimp only at hSw); go_simp; (first | done | with_reducible rfl))
          try simp only [Act.put, List.setIfInBounds_toArray, List.set_cons_zero, List.set_cons_succ]
          refine takeL (i := 18) (v := ?_) rfl (by kernel_rfl) (by kernel_rfl) (by kernel_rfl) (fun _ _ _ h => h) (.inl ⟨by rfl, ?_⟩) (by assumption) ?_
          rotate_left
          · (intro w hSw; (try dsimp only at hSw); go_simp; (first | done | with_reducible rfl))
          try simp only [Act.put, List.setIfInBounds_toArray, List.set_cons_zero, List.set_cons_succ]
          refine takeL (i := 19) (v := ?_) rfl (by kernel_rfl) (by kernel_rfl) (by kernel_rfl) (fun _ _ _ h => h) (.inl ⟨by rfl, ?_⟩) (by assumption) ?_
          rotate_left
          · (intro w hSw; (try dsimp only at hSw); go_simp; (first | done | with_reducible rfl))
          try simp only [Act.put, List.setIfInBounds_toArray, List.set_cons_zero, List.set_cons_succ]
          refine takeL (i := 20) (v := ?_) rfl (by kernel_rfl) (by kernel_rfl) (by kernel_rfl) (fun _ _ _ h => h) (.inl ⟨by rfl, ?_⟩) (by assumption) ?_
          rotate_left
          · (intro w hSw; (try dsimp only at hSw); go_simp; (first | done | with_reducible rfl))
          try simp only [Act.put, List.setIfInBounds_toArray, List.set_cons_zero, List.set_cons_succ]
          refine takeL (i := 21) (v := ?_) rfl (by kernel_rfl) (by kernel_rfl) (by kernel_rfl) (fun _ _ _ h => h) (.inl ⟨by rfl, ?_⟩) (by assumption) ?_
          rotate_left
          · (intro w hSw; (try dsimp only at hSw); go_simp; (first | done | with_reducible rfl))
          try simp only [Act.put, List.setIfInBounds_toArray, List.set_cons_zero, List.set_cons_succ]
          refine takeL (i := 22) (v := ?_) rfl (by kernel_rfl) (by kernel_rfl) (by kernel_rfl) (fun _ _ _ h => h) (.inl ⟨by rfl, ?_⟩) (by assumption) ?_
          rotate_left
          · (intro w hSw; (try dsimp only at hSw); go_simp; (first | done | with_reducible rfl))
          try simp only [Act.put, List.setIfInBounds_toArray, List.set_cons_zero, List.set_cons_succ]
          refine takeL (i := 23) (v := ?_) rfl (by kernel_rfl) (by kernel_rfl) (by kernel_rfl) (fun _ _ _ h => h) (.inl ⟨by rfl, ?_⟩) (by assumption) ?_
          rotate_left
          · (intro w hSw; (try dsimp only at hSw); go_simp; (first | done | with_reducible rfl))
          try simp only [Act.put, List.setIfInBounds_toArray, List.set_cons_zero, List.set_cons_succ]
          refine takeL (i := 24) (v := ?_) rfl (by kernel_rfl) (by kernel_rfl) (by kernel_rfl) (fun _ _ _ h => h) (.inl ⟨by rfl, ?_⟩) (by assumption) ?_
          rotate_left
          · (intro w hSw; (try dsimp only at hSw); go_simp; (first | done | with_reducible rfl))
          try simp only [Act.put, List.setIfInBounds_toArray, List.set_cons_zero, List.set_cons_succ]
          refine takeL (i := 25) (v := ?_) rfl (by kernel_rfl) (by kernel_rfl) (by kernel_rfl) (fun _ _ _ h => h) (.inl ⟨by rfl, ?_⟩) (by assumption) ?_
          rotate_left
          · (intro w hSw; (try dsimp only at hSw); go_simp; (first | done | with_reducible rfl))
          try simp only [Act.put, List.setIfInBounds_toArray, List.set_cons_zero, List.set_cons_succ]
          refine takeL (i := 26) (v := ?_) rfl (by kernel_rfl) (by kernel_rfl) (by kernel_rfl) (fun _ _ _ h => h) (.inl ⟨by rfl, ?_⟩) (by assumption) ?_
          rotate_left
          · (intro w hSw; (try dsimp only at hSw); go_simp; (first | done | with_reducible rfl))
          try simp only [Act.put, List.setIfInBounds_toArray, List.set_cons_zero, List.set_cons_succ]
          refine takeL (i := 27) (v := ?_) rfl (by kernel_rfl) (by kernel_rfl) (by kernel_rfl) (fun _ _ _ h => h) (.inl ⟨by rfl, ?_⟩) (by assumption) ?_
          rotate_left
          · (intro w hSw; (try dsimp only at hSw); go_simp; (first | done | with_reducible rfl))
          try simp only [Act.put, List.setIfInBounds_toArray, List.set_cons_zero, List.set_cons_succ]
          refine takeL (i := 28) (v := ?_) rfl (by kernel_rfl) (by kernel_rfl) (by kernel_rfl) (fun _ _ _ h => h) (.inl ⟨by rfl, ?_⟩) (by assumption) ?_
          rotate_left
          · (intro w hSw; (try dsimp only at hSw); go_simp; (first | done | with_reducible rfl))
          try simp only [Act.put, List.setIfInBounds_toArray, List.set_cons_zero, List.set_cons_succ]
          refine takeL (i := 29) (v := ?_) rfl (by kernel_rfl) (by kernel_rfl) (by kernel_rfl) (fun _ _ _ h => h) (.inl ⟨by rfl, ?_⟩) (by assumption) ?_
          rotate_left
          · (intro w hSw; (try dsimp only at hSw); go_simp; (first | done | with_reducible rfl))
          try simp only [Act.put, List.setIfInBounds_toArray, List.set_cons_zero, List.set_cons_succ]
          refine takeL (i := 30) (v := ?_) rfl (by kernel_rfl) (by kernel_rfl) (by kernel_rfl) (fun _ _ _ h => h) (.inl ⟨by rfl, ?_⟩) (by assumption) ?_
          rotate_left
          · (intro w hSw; (try dsimp only at hSw); go_simp; (first | done | with_reducible rfl))
          try simp only [Act.put, List.setIfInBounds_toArray, List.set_cons_zero, List.set_cons_succ]
          refine takeL (i := 31) (v := ?_) rfl (by kernel_rfl) (by kernel_rfl) (by kernel_rfl) (fun _ _ _ h => h) (.inl ⟨by rfl, ?_⟩) (by assumption) ?_
          rotate_left
          · (intro w hSw; (try dsimp only at hSw); go_simp; (first | done | with_reducible rfl))
          try simp only [Act.put, List.setIfInBounds_toArray, List.set_cons_zero, List.set_cons_succ]
          refine takeL (i := 32) (v := ?_) rfl (by kernel_rfl) (by kernel_rfl) (by kernel_rfl) (fun _ _ _ h => h) (.inl ⟨by rfl, ?_⟩) (by assumption) ?_
          rotate_left
          · (intro w hSw; (try dsimp only at hSw); go_simp; (first | done | with_reducible rfl))
          try simp only [Act.put, List.setIfInBounds_toArray, List.set_cons_zero, List.set_cons_succ]
          refine takeL (i := 33) (v := ?_) rfl (by kernel_rfl) (by kernel_rfl) (by kernel_rfl) (fun _ _ _ h => h) (.inl ⟨by rfl, ?_⟩) (by assumption) ?_
          rotate_left
          · (intro w hSw; (try dsimp only at hSw); go_simp; (first | done | with_reducible rfl))
          try simp only [Act.put, List.setIfInBounds_toArray, List.set_cons_zero, List.set_cons_succ]
          refine stepL (i := 34) rfl (by kernel_rfl) (fun K hK => ?_)
          go_simp
          go_at_call 29
          refine (HT1.out _ HB8.out.drew).mono ?_
          rintro e w9 ⟨rfl, hb⟩
          have HB9 : Hid (Below w8.heap.size w8 w9) := Lib.hid (HB8.out.drew.trans (hb.mono (by simp)))
          clear hb
          go_wp2_with fail
          refine hK.out _ _ trivial (fun hHeld => ?_)
          clear hK K
          try simp only [Act.put, List.setIfInBounds_toArray, List.set_cons_zero, List.set_cons_succ]
          refine takeL (i := 35) (v := ?_) rfl (by kernel_rfl) (by kernel_rfl) (by kernel_rfl) (fun _ _ _ h => h) (.inl ⟨by rfl, ?_⟩) (by assumption) ?_
          rotate_left
          · (intro w hSw; (try dsimp only at hSw); go_simp; (first | done | with_reducible rfl))
          try simp only [Act.put, List.setIfInBounds_toArray, List.set_cons_zero, List.set_cons_succ]
          refine takeL (i := 36) (v := ?_) rfl (by kernel_rfl) (by kernel_rfl) (by kernel_rfl) (fun _ _ _ h => h) (.inl ⟨by rfl, ?_⟩) (by assumption) ?_
          rotate_left
          · (intro w hSw; (try dsimp only at hSw); go_simp; (first | done | with_reducible rfl))
          try simp only [Act.put, List.setIfInBounds_toArray, List.set_cons_zero, List.set_cons_succ]
          refine takeL (i := 37) (v := ?_) rfl (by kernel_rfl) (by kernel_rfl) (by kernel_rfl) (fun _ _ _ h => h) (.inl ⟨by rfl, ?_⟩) (by assumption) ?_
          rotate_left
          · (intro w hSw; (try dsimp only at hSw); go_simp; (first | done | with_reducible rfl))
          try simp only [Act.put, List.setIfInBounds_toArray, List.set_cons_zero, List.set_cons_succ]
          refine takeL (i := 38) (v := ?_) rfl (by kernel_rfl) (by kernel_rfl) (by kernel_rfl) (fun _ _ _ h => h) (.inl ⟨by rfl, ?_⟩) (by assumption) ?_
          rotate_left
          · (intro w hSw; (try dsimp only at hSw); go_simp; (first | done | with_reducible rfl))
          try simp only [Act.put, List.setIfInBounds_toArray, List.set_cons_zero, List.set_cons_succ]
          refine takeL (i := 40) (v := ?_) rfl (by kernel_rfl) (by kernel_rfl) (by kernel_rfl) (fun _ _ _ h => h) (.inl ⟨by rfl, ?_⟩) (by assumption) ?_
          rotate_left
          · (intro w hSw; (try dsimp only at hSw); go_simp; (first | done | with_reducible rfl))
          try simp only [Act.put, List.setIfInBounds_toArray, List.set_cons_zero, List.set_cons_succ]
          refine takeL (i := 41) (v := ?_) rfl (by kernel_rfl) (by kernel_rfl) (by kernel_rfl) (fun _ _ _ h => h) (.inl ⟨by rfl, ?_⟩) (by assumption) ?_
          rotate_left
          · (intro w hSw; (try dsimp only at hSw); go_simp; (first | done | with_reducible rfl))
          try simp only [Act.put, List.setIfInBounds_toArray, List.set_cons_zero, List.set_cons_succ]
          refine takeL (i := 42) (v := ?_) rfl (by kernel_rfl) (by kernel_rfl) (by kernel_rfl) (fun _ _ _ h => h) (.inl ⟨by rfl, ?_⟩) (by assumption) ?_
          rotate_left
          · (intro w hSw; (try dsimp only at hSw); go_simp; (first | done | with_reducible rfl))
          try simp only [Act.put, List.setIfInBounds_toArray, List.set_cons_zero, List.set_cons_succ]
          refine takeL (i := 43) (v := ?_) rfl (by kernel_rfl) (by kernel_rfl) (by kernel_rfl) (fun _ _ _ h => h) (.inl ⟨by rfl, ?_⟩) (by assumption) ?_
          rotate_left
          · (intro w hSw; (try dsimp only at hSw); go_simp; (first | done | with_reducible rfl))
          try simp only [Act.put, List.setIfInBounds_toArray, List.set_cons_zero, List.set_cons_succ]
          refine stepL (i := 39) rfl (by kernel_rfl) (fun K hK => ?_)
          go_simp
          go_at_call 19
          refine (HFI.out _ HB9.out).mono ?_
          rintro e w10 ⟨z10, rfl, hz, hb⟩
          obtain ⟨A10, c10, hv10, _, _⟩ := hz.form
          rw [HND.out] at hv10
          subst hv10
          have HZ10 := Lib.hid hz
          have HB10 : Hid (Below w8.heap.size w8 w10) := Lib.hid (HB9.out.trans (hb.mono HB9.out.size))
          clear hz hb
          go_wp2_with fail
          refine hK.out _ _ trivial (fun hHeld => ?_)
          clear hK K
          try simp only [Act.put, List.setIfInBounds_toArray, List.set_cons_zero, List.set_cons_succ]
          refine stepL (i := 44) rfl (by kernel_rfl) (fun K hK => ?_)
          go_simp
          go_at_call 29
          refine (HT2.out _ HB10.out _ HZ10.out).mono ?_
          rintro e w11 ⟨rfl, hb⟩
          have HB11 : Hid (Below w8.heap.size w8 w11) := Lib.hid (HB10.out.trans (hb.mono HB10.out.size))
          clear hb
          go_wp2_with fail
          refine hK.out _ _ trivial (fun hHeld => ?_)
          clear hK K
          try simp only [Act.put, List.setIfInBounds_toArray, List.set_cons_zero, List.set_cons_succ]
          refine takeL (i := 45) (v := ?_) rfl (by kernel_rfl) (by kernel_rfl) (by kernel_rfl) (fun _ _ _ h => h) (.inl ⟨by rfl, ?_⟩) (by assumption) ?_
          rotate_left
          · (intro w hSw; (try dsimp only at hSw); go_simp; (first | done | with_reducible rfl))
          try simp only [Act.put, List.setIfInBounds_toArray, List.set_cons_zero, List.set_cons_succ]
          refine takeL (i := 46) (v := ?_) rfl (by kernel_rfl) (by kernel_rfl) (by kernel_rfl) (fun _ _ _ h => h) (.inl ⟨by rfl, ?_⟩) (by assumption) ?_
          rotate_left
          · (intro w hSw; (try dsimp only at hSw); go_simp; (first | done | with_reducible rfl))
          try simp only [Act.put, List.setIfInBounds_toArray, List.set_cons_zero, List.set_cons_succ]
          refine takeL (i := 47) (v := ?_) rfl (by kernel_rfl) (by kernel_rfl) (by kernel_rfl) (fun _ _ _ h => h) (.inl ⟨by rfl, ?_⟩) (by assumption) ?_
          rotate_left
          · (intro w hSw; (try dsimp only at hSw); go_simp; (first | done | with_reducible rfl))
          try simp only [Act.put, List.setIfInBounds_toArray, List.set_cons_zero, List.set_cons_succ]
          refine takeL (i := 48) (v := ?_) rfl (by kernel_rfl) (by kernel_rfl) (by kernel_rfl) (fun _ _ _ h => h) (.inl ⟨by rfl, ?_⟩) (by assumption) ?_
          rotate_left
          · (intro w hSw; (try dsimp only at hSw); go_simp; (first | done | with_reducible rfl))
          try simp only [Act.put, List.setIfInBounds_toArray, List.set_cons_zero, List.set_cons_succ]
          refine takeL (i := 49) (v := ?_) rfl (by kernel_rfl) (by kernel_rfl) (by kernel_rfl) (fun _ _ _ h => h) (.inl ⟨by rfl, ?_⟩) (by assumption) ?_
          rotate_left
          · (intro w hSw; (try dsimp only at hSw); go_simp; (first | done | with_reducible rfl))
          try simp only [Act.put, List.setIfInBounds_toArray, List.set_cons_zero, List.set_cons_succ]
          refine takeL (i := 50) (v := ?_) rfl (by kernel_rfl) (by kernel_rfl) (by kernel_rfl) (fun _ _ _ h => h) (.inl ⟨by rfl, ?_⟩) (by assumption) ?_
          rotate_left
          · (intro w hSw; (try dsimp only at hSw); go_simp; (first | done | with_reducible rfl))
          try simp only [Act.put, List.setIfInBounds_toArray, List.set_cons_zero, List.set_cons_succ]
          refine takeL (i := 51) (v := ?_) rfl (by kernel_rfl) (by kernel_rfl) (by kernel_rfl) (fun _ _ _ h => h) (.inl ⟨by rfl, ?_⟩) (by assumption) ?_
          rotate_left
          · (intro w hSw; (try dsimp only at hSw); go_simp; (first | done | with_reducible rfl))
          try simp only [Act.put, List.setIfInBounds_toArray, List.set_cons_zero, List.set_cons_succ]
          refine takeL (i := 52) (v := ?_) rfl (by kernel_rfl) (by kernel_rfl) (by kernel_rfl) (fun _ _ _ h => h) (.inl ⟨by rfl, ?_⟩) (by assumption) ?_
          rotate_left
          · (intro w hSw; (try dsimp only at hSw); go_simp; (first | done | with_reducible rfl))
          try simp only [Act.put, List.setIfInBounds_toArray, List.set_cons_zero, List.set_cons_succ]
          refine takeL (i := 53) (v := ?_) rfl (by kernel_rfl) (by kernel_rfl) (by kernel_rfl) (fun _ _ _ h => h) (.inl ⟨by rfl, ?_⟩) (by assumption) ?_
          rotate_left
          · (intro w hSw; (try dsimp only at hSw); go_simp; (first | done | with_reducible rfl))
          try simp only [Act.put, List.setIfInBounds_toArray, List.set_cons_zero, List.set_cons_succ]
          refine takeL (i := 54) (v := ?_) rfl (by kernel_rfl) (by kernel_rfl) (by kernel_rfl) (fun _ _ _ h => h) (.inl ⟨by rfl, ?_⟩) (by assumption) ?_
          rotate_left
          · (intro w hSw; (try dsimp only at hSw); go_simp; (first | done | with_reducible rfl))
          try simp only [Act.put, List.setIfInBounds_toArray, List.set_cons_zero, List.set_cons_succ]
          refine takeL (i := 55) (v := ?_) rfl (by kernel_rfl) (by kernel_rfl) (by kernel_rfl) (fun _ _ _ h => h) (.inl ⟨by rfl, ?_⟩) (by assumption) ?_
          rotate_left
          · (intro w hSw; (try dsimp only at hSw); go_simp; (first | done | with_reducible rfl))
          try simp only [Act.put, List.setIfInBounds_toArray, List.set_cons_zero, List.set_cons_succ]
          refine takeL (i := 56) (v := ?_) rfl (by kernel_rfl) (by kernel_rfl) (by kernel_rfl) (fun _ _ _ h => h) (.inl ⟨by rfl, ?_⟩) (by assumption) ?_
          rotate_left
          · (intro w hSw; (try dsimp only at hSw); go_simp; (first | done | with_reducible rfl))
          try simp only [Act.put, List.setIfInBounds_toArray, List.set_cons_zero, List.set_cons_succ]
          refine takeL (i := 57) (v := ?_) rfl (by kernel_rfl) (by kernel_rfl) (by kernel_rfl) (fun _ _ _ h => h) (.inl ⟨by rfl, ?_⟩) (by assumption) ?_
          rotate_left
          · (intro w hSw; (try dsimp only at hSw); go_simp; (first | done | with_reducible rfl))
          try simp only [Act.put, List.setIfInBounds_toArray, List.set_cons_zero, List.set_cons_succ]
          refine takeL (i := 58) (v := ?_) rfl (by kernel_rfl) (by kernel_rfl) (by kernel_rfl) (fun _ _ _ h => h) (.inl ⟨by rfl, ?_⟩) (by assumption) ?_
          rotate_left
          · (intro w hSw; (try dsimp only at hSw); go_simp; (first | done | with_reducible rfl))
          try simp only [Act.put, List.setIfInBounds_toArray, List.set_cons_zero, List.set_cons_succ]
          refine takeL (i := 59) (v := ?_) rfl (by kernel_rfl) (by kernel_rfl) (by kernel_rfl) (fun _ _ _ h => h) (.inl ⟨by rfl, ?_⟩) (by assumption) ?_
          rotate_left
          · (intro w hSw; (try dsimp only at hSw); go_simp; (first | done | with_reducible rfl))
          try simp only [Act.put, List.setIfInBounds_toArray, List.set_cons_zero, List.set_cons_succ]
          refine takeL (i := 60) (v := ?_) rfl (by kernel_rfl) (by kernel_rfl) (by kernel_rfl) (fun _ _ _ h => h) (.inl ⟨by rfl, ?_⟩) (by assumption) ?_
          rotate_left
          · (intro w hSw; (try dsimp only at hSw); go_simp; (first | done | with_reducible rfl))
          try simp only [Act.put, List.setIfInBounds_toArray, List.set_cons_zero, List.set_cons_succ]
          refine takeL (i := 61) (v := ?_) rfl (by kernel_rfl) (by kernel_rfl) (by kernel_rfl) (fun _ _ _ h => h) (.inl ⟨by rfl, ?_⟩) (by assumption) ?_
          rotate_left
          · (intro w hSw; (try dsimp only at hSw); go_simp; (first | done | with_reducible rfl))
          try simp only [Act.put, List.setIfInBounds_toArray, List.set_cons_zero, List.set_cons_succ]
          refine takeL (i := 62) (v := ?_) rfl (by kernel_rfl) (by kernel_rfl) (by kernel_rfl) (fun _ _ _ h => h) (.inl ⟨by rfl, ?_⟩) (by assumption) ?_
          rotate_left
          · (intro w hSw; (try dsimp only at hSw); go_simp; (first | done | with_reducible rfl))
          try simp only [Act.put, List.setIfInBounds_toArray, List.set_cons_zero, List.set_cons_succ]
          refine stepL (i := 63) rfl (by kernel_rfl) (fun K hK => ?_)
          go_simp
          go_at_call 32
          refine (HT3.out _ HB11.out).mono ?_
          rintro e w12 ⟨rfl, hb⟩
          have HB12 : Hid (Below w8.heap.size w8 w12) := Lib.hid (HB11.out.trans (hb.mono HB11.out.size))
          clear hb
          go_wp2_with fail
          refine hK.out _ _ trivial (fun hHeld => ?_)
          clear hK K
          try simp only [Act.put, List.setIfInBounds_toArray, List.set_cons_zero, List.set_cons_succ]
          refine takeL (i := 64) (v := ?_) rfl (by kernel_rfl) (by kernel_rfl) (by kernel_rfl) (fun _ _ _ h => h) (.inl ⟨by rfl, ?_⟩) (by assumption) ?_
          rotate_left
          · (intro w hSw; (try dsimp only at hSw); go_simp; (first | done | with_reducible rfl))
          try simp only [Act.put, List.setIfInBounds_toArray, List.set_cons_zero, List.set_cons_succ]
          refine takeL (i := 65) (v := ?_) rfl (by kernel_rfl) (by kernel_rfl) (by kernel_rfl) (fun _ _ _ h => h) (.inl ⟨by rfl, ?_⟩) (by assumption) ?_
          rotate_left
          · (intro w hSw; (try dsimp only at hSw); go_simp; (first | done | with_reducible rfl))
          try simp only [Act.put, List.setIfInBounds_toArray, List.set_cons_zero, List.set_cons_succ]
          refine wpAnyH_done (by kernel_rfl) ?_ _
          clear hHeld
          have HX12 := Lib.hid (HX8.out.below HB12.out)
          clear HB9 HB10 HB11 HT1 HT2 HT3 HFI
          by_cases hG0 : G = 0
          · have hg1 : ¬ (0 : Int) < (G : Int) := by omega
            go_upto_region 17 with fail
            go_wp2_with fail
            refine (recs_any w12.heap.size [⟨#[109, 111, 114, 101]⟩] _ (lit_string w12 _) (by intro s hs; simp at hs; subst hs; simp [ByteArray.size]) (by simp)).mono ?_
            rintro e w13 ⟨v13, rfl, hr13, hb13⟩
            have hr13 : RdL w13 v13 tMore := hr13
            obtain ⟨A13, c13, rfl, _, _⟩ := hr13.form
            have H13 := Lib.hid ((HX12.out.below (below1 w12 _)).below hb13)
            have HR13 := Lib.hid hr13
            clear hr13 hb13
            have hwr := write_any H13.out.lb HTE.out.i.ok (by have := HTE.out.i.fuse; omega) H13.out.gb (by have := HTE.out.i.lo; omega) (by have := HTE.out.i.hi; have := HAL.out; omega) (by have := HTE.out.i.nfew; have := HAL.out; omega) _ tMore HR13.out (fun y hy => by have := tMore_small.2.2 y hy; omega)
            obtain ⟨_, hw2, _⟩ := write_ok HTE.out.i (by omega) (by omega) (by have := HAL.out; omega) tMore_small
            obtain ⟨r, hr⟩ : ∃ r, lWrite dkE lgE tMore = r := ⟨_, rfl⟩
            rw [hr] at hwr hw2
            obtain ⟨dk1, lg1, n1, e1'⟩ := r
            simp only [Prod.mk.injEq] at hw2
            obtain ⟨rfl, rfl⟩ := hw2
            rw [HLE.out] at hwr
            have hwr : Calls Tryz.prog 14 _ w13 (WrP w.heap.size l S8 (dk1, lg1, last + 1, 0) w13) := hwr
            have HWR := Lib.hid hwr
            clear hwr hr
            go_wp2_with fail
            refine HWR.out.mono ?_
            rintro e w14 ⟨rfl, hl14⟩
            obtain ⟨S14, h14⟩ := H13.out.step hl14
            have HAW := Lib.hid (awake_any w14 h14.gb.gok)
            have HE14 := Lib.hid h14.be
            clear hl14 h14
            go_wp2_with fail
            refine HAW.out.mono ?_
            rintro e w15 ⟨rfl, hb15⟩
            have HFIN : Hid (Below w.heap.size w w15) := Lib.hid (HE14.out.trans (hb15.mono HE14.out.size))
            clear hb15
            go_wp2_with fail
            exact bodyPost_ret (v := .bool true) (by simp [results]) rfl ⟨rfl, HFIN.out⟩
          · have hg1 : (0 : Int) < (G : Int) := by omega
            have hp0 : ((p : Int) == 0) = false := by simp; omega
            have hp1 : (0 : Int) < (p : Int) := by omega
            obtain ⟨r0, hr0⟩ := numB_at (flatS (segs.drop G)) (1 + (T : Int)) 0 (by have := HNP.out; rw [numB_len] at this; omega)
            obtain ⟨bo, oo, uo, hAo, do0, _, _⟩ := (bt_list (HL8.out.keep mBt_law (Stay.below HB12.out))).at hr0
            injection hAo with hAo
            injection hAo with hAo1 hAo2
            subst hAo1; subst hAo2
            have hN0 : 1 + (T : Int) + ((0 : Nat) : Int) = 1 + (T : Int) := by omega
            simp only [hN0, Nat.zero_mul, Nat.add_zero] at do0
            have hnb1 : ¬ below < 1 + (T : Int) := by have := HHEAD.out (by omega); omega
            clear hr0
            go_upto_region 17 with fail
            go_wp2_with fail
            refine (recs_any w12.heap.size [⟨#[109, 111, 114, 101]⟩] _ (lit_string w12 _) (by intro s hs; simp at hs; subst hs; simp [ByteArray.size]) (by simp)).mono ?_
            rintro e w13 ⟨v13, rfl, hr13, hb13⟩
            have hr13 : RdL w13 v13 tMore := hr13
            obtain ⟨A13, c13, rfl, _, _⟩ := hr13.form
            have H13 := Lib.hid ((HX12.out.below (below1 w12 _)).below hb13)
            have HR13 := Lib.hid hr13
            clear hr13 hb13
            have hwr := write_any H13.out.lb HTE.out.i.ok (by have := HTE.out.i.fuse; omega) H13.out.gb (by have := HTE.out.i.lo; omega) (by have := HTE.out.i.hi; have := HAL.out; omega) (by have := HTE.out.i.nfew; have := HAL.out; omega) _ tMore HR13.out (fun y hy => by have := tMore_small.2.2 y hy; omega)
            obtain ⟨_, hw2, _⟩ := write_ok HTE.out.i (by omega) (by omega) (by have := HAL.out; omega) tMore_small
            obtain ⟨r, hr⟩ : ∃ r, lWrite dkE lgE tMore = r := ⟨_, rfl⟩
            rw [hr] at hwr hw2
            obtain ⟨dk1, lg1, n1, e1'⟩ := r
            simp only [Prod.mk.injEq] at hw2
            obtain ⟨rfl, rfl⟩ := hw2
            rw [HLE.out] at hwr
            have hwr : Calls Tryz.prog 14 _ w13 (WrP w.heap.size l S8 (dk1, lg1, last + 1, 0) w13) := hwr
            have HWR := Lib.hid hwr
            clear hwr hr
            go_wp2_with fail
            refine HWR.out.mono ?_
            rintro e w14 ⟨rfl, hl14⟩
            obtain ⟨S14, h14⟩ := H13.out.step hl14
            have HAW := Lib.hid (awake_any w14 h14.gb.gok)
            have HE14 := Lib.hid h14.be
            clear hl14 h14
            go_wp2_with fail
            refine HAW.out.mono ?_
            rintro e w15 ⟨rfl, hb15⟩
            have HFIN : Hid (Below w.heap.size w w15) := Lib.hid (HE14.out.trans (hb15.mono HE14.out.size))
            clear hb15
            go_wp2_with fail
            exact bodyPost_ret (v := .bool true) (by simp [results]) rfl ⟨rfl, HFIN.out⟩
end Go.Proofs.YthehpafkaefohaaGreatDoor

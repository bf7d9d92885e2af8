/- The law LogBack walked. Conditions: the library's variables read as they are laid. -/
import Derived.Test.YthehpafkaefohaaGreatDoorCkM28
namespace Go.Proofs.YthehpafkaefohaaGreatDoor
open Go.RowKit
/-- a row of Booleans that a slice reads as -/
def RdFl (w : World) (v : Value) (xs : List Bool) : Prop := (∃ A c, v = .slice A 0 c ∧ xs = []) ∨
  ∃ b o c, v = .slice (some ⟨b, o, none⟩) xs.length c ∧ xs.length ≤ 9223372036854775807 ∧ ∀ (j : Nat) (x : Bool), xs[j]? = some x → w.cell? ⟨b, o + j, none⟩ = some (.bool x)
theorem RdFl.form {w : World} {v : Value} {xs : List Bool} (h : RdFl w v xs) : ∃ A c, v = .slice A xs.length c ∧ xs.length ≤ 9223372036854775807 := by
  rcases h with ⟨A, c, rfl, rfl⟩ | ⟨b, o, c, rfl, h1, _⟩
  · exact ⟨A, c, rfl, Nat.zero_le _⟩
  · exact ⟨_, c, rfl, h1⟩
theorem RdFl.at {w : World} {A : Option Addr} {c n : Nat} {xs : List Bool} (h : RdFl w (.slice A n c) xs) {j : Nat} {x : Bool} (hj : xs[j]? = some x) : ∃ b o, A = some ⟨b, o, none⟩ ∧ w.cell? ⟨b, o + j, none⟩ = some (.bool x) := by
  rcases h with ⟨_, _, _, rfl⟩ | ⟨b, o, c, hv, _, h4⟩
  · simp at hj
  · injection hv with hv
    exact ⟨b, o, hv, h4 j x hj⟩
theorem al_ts (w0 : World) : 52 ∉ (mAl w0).ts := List.not_mem_nil
theorem AX.grown {w w1 w2 : World} {d l : Nat} {dk : DkSt} {lg : LgSt} {S : List Nat} {row : Option Nat} (h : AX w w1 d l dk lg S) (hg : w1.grownBy w2 row) (hr : ∀ k, row = some k → w.heap.size ≤ k ∧ ∃ cs, w1.heap[k]? = some (.cells cs 52)) : AX w w2 d l dk lg S := by
  have hc : ChgS row.toList w1 w2 := (ChgS.refl _ _).grown hg (fun k hk => .inl (by rw [hk]; simp))
  have hno : ∀ x ∈ row.toList, x ∉ S ∧ ∃ cs, w1.heap[x]? = some (.cells cs 52) := fun x hx => by
    have e : row = some x := by simpa using hx
    obtain ⟨h1, cs, h2⟩ := hr x e
    refine ⟨fun hm => ?_, cs, h2⟩
    obtain ⟨cs', T', h3, h4⟩ := h.lb.types4 x hm
    rw [h2] at h3
    injection h3 with h3
    injection h3 with _ h3
    subst h3
    revert h4
    decide
  obtain ⟨v, u, k1, k2, rfl⟩ := h.lb
  refine ⟨h.gk, ⟨v, u, k1.keep hc (fun x hx hm => (hno x hx).1 (List.mem_append_left _ hm)) (fun x hx cs T fr hh => ?_), k2.keep hc (fun x hx => ?_), rfl⟩, below_grown h.be hg h.be.size (fun k hk => (hr k hk).1), h.ge⟩
  · obtain ⟨_, cs', h5⟩ := hno x hx
    rw [h5] at hh
    injection hh with hh
    injection hh with _ hh
    rw [← hh]; decide
  · have h6 := (hno x hx).1
    refine ⟨fun e => h6 (List.mem_append_right _ (by rw [e]; exact List.mem_cons_self ..)), fun e => h6 (List.mem_append_right _ (List.mem_cons_of_mem _ (by rw [← e]; simp)))⟩
theorem lgH_start (s b : Int) : LgH b [] [] (newSt 1048576) ⟨s, [], b, b, false⟩ where
  i := ⟨new_ok 1048576 (by omega) (by omega), rfl, rfl, rfl, Nat.le_refl _, by simp [newSt, usedF], rfl, Int.le_refl _, by simp, fun n hn => by simp at hn, Nat.le_refl _⟩
  fi := rfl
  byt s hs := by cases hs
  ch := trivial
  la := by simp
  en := rfl
  fl := rfl
  nf := rfl
  on m hm := by simp [newSt, hasN, plc] at hm
  sy s hs := by simp at hs
  ac := ⟨Int.le_refl _, Int.le_refl _⟩
  sl _ s hs := by simp at hs
set_option maxRecDepth 20000 in
set_option maxHeartbeats 4000000 in
theorem logBack_any (size b : Int) (z0 : -9223372036854775808 ≤ size) (z1 : size ≤ 9223372036854775807) (b0 : 0 ≤ b) (b1 : b ≤ 65535) (vb vs : Value) (bs : List Bt) (fl : List Bool) (w : World) (hrb : RdLL w vb bs) (hrs : RdFl w vs fl) (hg : GOK w) :
    Calls Tryz.prog 7 #[vb, vs, .int .i64 size, .int .u16 b] w fun e w' => e = .returned (.bool true) ∧ Below w.heap.size w w' := by
  have HG := Lib.hid hg
  have HRB := Lib.hid hrb
  have HRS := Lib.hid hrs
  obtain ⟨A, c, rfl, _, _⟩ := hrb.form
  obtain ⟨B, f, rfl, hfm⟩ := hrs.form
  obtain ⟨n, hn⟩ : ∃ n, bs.length = n := ⟨_, rfl⟩
  have HN := Lib.hid hn
  obtain ⟨Lf, hLf⟩ : ∃ n, fl.length = n := ⟨_, rfl⟩
  have HLF := Lib.hid hLf
  rw [hn] at HRB ⊢
  rw [hLf] at HRS hfm ⊢
  have hps0 := Int.emod_nonneg size (show (300 : Int) ≠ 0 by omega)
  have hps1 := Int.emod_lt_of_pos size (show (0 : Int) < 300 by omega)
  have HPK := Lib.hid (fun w2 => pick_any size 300 w2 (by omega) (by omega) z0 z1)
  obtain ⟨ps, hps⟩ : ∃ x, size % 300 = x := ⟨_, rfl⟩
  rw [hps] at hps0 hps1 HPK
  have e1 : IntKind.i64.wrap b = b := by rw [IntKind.wrap_i64]; omega
  have e3 : IntKind.i64.wrap (64 + ps) = 64 + ps := by rw [IntKind.wrap_i64]; omega
  have HPS := Lib.hid (And.intro hps0 hps1)
  have HBB := Lib.hid (And.intro b0 b1)
  clear hg hrb hrs hn hLf hps z0 z1
  go_enter Tryz.func7, Tryz.ntmps7
  go_wp2_with fail
  refine (new_any 1048576 w (by omega) (by omega)).mono ?_
  rintro e w1 ⟨rfl, hd, hb1⟩
  have HD := Lib.hid hd
  have HB1 := Lib.hid hb1
  clear hd hb1
  go_wp2_with fail
  refine (HPK.out w1).mono ?_
  rintro e w2 ⟨rfl, hw⟩
  subst hw
  go_wp2_with fail
  refine (begin_ok HD.out (new_ok 1048576 (by omega) (by omega)) (by simp [newSt]) (64 + ps) b (by omega) (by omega) (by omega) (by omega)).mono ?_
  rintro e w2 ⟨l, S0, rfl, _, hlb, hsub, hc⟩
  have H0 : Hid (AX w w2 w.heap.size l (newSt 1048576) ⟨64 + ps, [], b, b, false⟩ S0) := AX.start HG.out HB1.out hlb hsub hc
  have HH0 := Lib.hid (lgH_start (64 + ps) b)
  clear hlb hsub hc HD HB1 e3 hps0 hps1
  obtain ⟨dk0, hdk⟩ : ∃ x, newSt 1048576 = x := ⟨_, rfl⟩
  obtain ⟨lg0, hlg⟩ : ∃ x, (⟨64 + ps, [], b, b, false⟩ : LgSt) = x := ⟨_, rfl⟩
  have hac : lg0.acked = b := by rw [← hlg]
  have HAC := Lib.hid hac
  rw [hdk, hlg] at H0 HH0
  clear hdk hlg hac
  go_wp2_with fail
  go_loopw [13, 14, 15] (fun u su i wr => ∃ (k q : Nat) (A' : Option Addr) (c' : Nat) (s : Int) (segs : List Sg) (al : List Bt) (dk : DkSt) (lg : LgSt) (S : List Nat), u = .slice A' q c' ∧ su = .int .i64 s ∧ i = .int .i64 k ∧ k ≤ n ∧ k ≤ 40 ∧ Hid (LgH b segs al dk lg) ∧ Hid (AX w wr w.heap.size l dk lg S) ∧ Hid (LOwn 52 (mAl w) w.heap.size wr u (numB (b + 1) al)) ∧ Hid (∀ r ∈ al, smallB r) ∧ Hid (al.length = q ∧ al.length ≤ k ∧ lg.acked = s)) (fun _ _ i _ => n - (intOf i).toNat)
  case atStart => exact ⟨0, 0, none, 0, b, [], [], dk0, lg0, S0, rfl, rfl, rfl, Nat.zero_le _, Nat.zero_le _, HH0, H0, Lib.hid (LOwn.nil _ _), Lib.hid (fun r hr => by cases hr), Lib.hid ⟨rfl, Nat.le_refl _, HAC.out⟩⟩
  case round =>
    obtain ⟨k, q, A', c', su, segs, al, dk, lg, S, rfl, rfl, rfl, hk, hk40, HLH, HX, HO, HSM, HAL⟩ := hrel
    obtain ⟨C, hC⟩ : ∃ C, (decide (k < n) && decide (k < 40)) = C := ⟨_, rfl⟩
    have HC := Lib.hid hC
    clear hC
    go_upto_region 8 with fail
    go_cut [51] (fun u wx => u = .bool C ∧ wr = wx)
    case first =>
      by_cases k1 : k < n
      · have k1i : (k : Int) < n := by omega
        by_cases k2 : k < 40
        · have k2i : (k : Int) < 40 := by omega
          go_wp2_with fail
          go_meet
          exact ⟨by rw [← HC.out]; simp [k1, k2], rfl⟩
        · have k2i : ¬ (k : Int) < 40 := by omega
          go_wp2_with fail
          go_meet
          exact ⟨by rw [← HC.out]; simp [k2], rfl⟩
      · have k1i : ¬ (k : Int) < n := by omega
        go_wp2_with fail
        go_meet
        exact ⟨by rw [← HC.out]; simp [k1], rfl⟩
    case rest =>
      obtain ⟨rfl, rfl⟩ := hcut
      cases C with
      | true =>
        have hc := HC.out
        simp only [Bool.and_eq_true, decide_eq_true_eq] at hc
        obtain ⟨k1, k2⟩ := hc
        go_upto_region 10 with fail
        have k1i : (k : Int) < n := by omega
        obtain ⟨x, hx⟩ : ∃ x, bs[k]? = some x := ⟨_, List.getElem?_eq_getElem (by rw [HN.out]; exact k1)⟩
        obtain ⟨bb, o, u, hA, dw, hru⟩ := HRB.out.at hx
        subst hA
        have dr := cell_later HX.out.be dw
        have hrx := hru.below HX.out.be
        obtain ⟨Au, cu, rfl, _, _⟩ := hru.form
        obtain ⟨Lx, hLx⟩ : ∃ L, x.length = L := ⟨_, rfl⟩
        obtain ⟨sm, hsm0⟩ : ∃ q, smallV x = q := ⟨_, rfl⟩
        have hsm := small_any _ x wr hrx
        rw [hsm0] at hsm
        rw [hLx] at hrx dr hsm hru dw
        have HSMA := Lib.hid hsm
        have HRX := Lib.hid hrx
        have HRU := Lib.hid hru
        have HLX := Lib.hid hLx
        have HSV := Lib.hid hsm0
        have HDW := Lib.hid dw
        clear hx dw hru hrx hsm hLx hsm0
        by_cases hx0 : Lx = 0
        · have hx1 : ((Lx : Int) == 0) = true := by simp [hx0]
          clear hx0
          go_wp2
          first
          | exact ⟨⟨k + 1, q, A', c', su, segs, al, dk, lg, S, rfl, rfl, by go_num, by omega, by omega, HLH, HX, HO, HSM, (Lib.hid ⟨HAL.out.1, by have := HAL.out.2.1; omega, HAL.out.2.2⟩)⟩, by simp [intOf]; omega⟩
          | (go_roundw
             case rel => exact ⟨k + 1, q, A', c', su, segs, al, dk, lg, S, rfl, rfl, by go_num, by omega, by omega, HLH, HX, HO, HSM, (Lib.hid ⟨HAL.out.1, by have := HAL.out.2.1; omega, HAL.out.2.2⟩)⟩
             case measure => simp [intOf]; omega)
        · have hx1 : ((Lx : Int) == 0) = false := by simp [hx0]
          cases sm with
          | false =>
            clear hx0
            go_wp2_with (go_at_call 24; (with_reducible refine HSMA.out.mono ?_); rintro e w' ⟨rfl, hw⟩; subst hw)
            first
            | exact ⟨⟨k + 1, q, A', c', su, segs, al, dk, lg, S, rfl, rfl, by go_num, by omega, by omega, HLH, HX, HO, HSM, (Lib.hid ⟨HAL.out.1, by have := HAL.out.2.1; omega, HAL.out.2.2⟩)⟩, by simp [intOf]; omega⟩
            | (go_roundw
               case rel => exact ⟨k + 1, q, A', c', su, segs, al, dk, lg, S, rfl, rfl, by go_num, by omega, by omega, HLH, HX, HO, HSM, (Lib.hid ⟨HAL.out.1, by have := HAL.out.2.1; omega, HAL.out.2.2⟩)⟩
               case measure => simp [intOf]; omega)
          | true =>
            have hsx : smallB x := by
              obtain ⟨s1, s2⟩ := (smallV_iff x).1 HSV.out
              exact ⟨by rw [HLX.out]; omega, s1, s2⟩
            have hbb := HBB.out
            obtain ⟨segs', hw1, hw2, hw3⟩ := HLH.out.write hbb.1 (by omega) (by have := HAL.out.2.1; omega) hsx
            have hwr := write_any HX.out.lb HLH.out.i.ok (by have := HLH.out.i.fuse; omega) HX.out.gb (by have := HLH.out.i.lo; omega) (by have := HLH.out.i.hi; have := HAL.out.2.1; omega) (by have := HLH.out.i.nfew; have := HAL.out.2.1; omega) _ x HRX.out (fun y hy => by have := hsx.2.2 y hy; omega)
            obtain ⟨r, hr⟩ : ∃ r, lWrite dk lg x = r := ⟨_, rfl⟩
            rw [hr] at hw1 hw2 hw3 hwr
            obtain ⟨dk1, lg1, n1, e1'⟩ := r
            simp only [Prod.mk.injEq] at hw2
            obtain ⟨rfl, rfl⟩ := hw2
            have hla : lg.last + 1 = b + (q : Int) + 1 := by have := HLH.out.la; rw [HAL.out.1] at this; omega
            have hwr : Calls Tryz.prog 14 _ wr (WrP w.heap.size l S (dk1, lg1, lg.last + 1, 0) wr) := hwr
            rw [hla] at hwr
            have HWR := Lib.hid hwr
            have HL1 : Hid (LgH b segs' (al ++ [x]) dk1 lg1) := hw1
            have hla1 : lg1.last = b + (q : Int) + 1 := by have := hw1.la; rw [List.length_append, HAL.out.1] at this; simp at this; omega
            have hac1 : su ≤ lg1.acked ∧ lg1.acked ≤ b + (q : Int) + 1 := ⟨by have := HAL.out.2.2; simp only at hw3; omega, by have := hw1.ac.2; simp only at this; omega⟩
            have HLA1 := Lib.hid hla1
            have HAC1 := Lib.hid hac1
            have HSM1 : Hid (∀ r ∈ al ++ [x], smallB r) := by
              show ∀ r ∈ _, _
              intro r hr
              rcases List.mem_append.1 hr with h | h
              · exact HSM.out r h
              · have : r = x := by simpa using h
                rw [this]; exact hsx
            have hq40 : q < 40 := by have := HAL.out.1; have := HAL.out.2.1; omega
            have HQ40 := Lib.hid hq40
            clear hsx hw1 hw3 hwr hr hla hx0 hla1 hac1
            go_upto_region 11 with (go_at_call 24; (with_reducible refine HSMA.out.mono ?_); rintro e w' ⟨rfl, hw⟩; subst hw)
            go_wp2_with fail
            refine HWR.out.mono ?_
            rintro e w4 ⟨rfl, hl4⟩
            obtain ⟨S4, h4⟩ := HX.out.step hl4
            have H4 : Hid (AX w w4 w.heap.size l dk1 lg1 S4) := h4
            have HO4 := Lib.hid (HO.out.keep (mAl_law w) (HX.out.stay hl4))
            have hlast := last_any h4.lb
            rw [HLA1.out] at hlast
            have HLAST := Lib.hid hlast
            have dr4 := cell_later h4.be HDW.out
            clear hl4 h4 hlast
            have hb5 := below1 w4 (.cells #[.int .i64 (b + (q : Int) + 1), .slice Au Lx cu] 52)
            have HOA := Lib.hid (HO4.out.keep (mAl_law w) (Stay.below hb5))
            have HYA : Hid ((mAl w).own w.heap.size (w4.alloc (.cells #[.int .i64 (b + (q : Int) + 1), .slice Au Lx cu] 52)) [.int .i64 (b + (q : Int) + 1), .slice Au Lx cu] (b + (q : Int) + 1, x)) := ⟨_, rfl, HRU.out⟩
            have H4A := Lib.hid (H4.out.below hb5)
            have HLEN : Hid ((numB (b + 1) al).length = q) := by show _ = _; rw [numB_len]; exact HAL.out.1
            have hlenq := HLEN.out
            clear hb5
            go_upto_region 15 with (first | (go_at_call 17; (with_reducible refine HLAST.out.mono ?_); rintro e w' ⟨rfl, hw⟩; subst hw) | (at_builtin; refine wpList_push rfl _ _ rfl elBt (mAl_law w) (al_ts w) w.heap.size (.slice A' q c') (numB (b + 1) al) (b + (q : Int) + 1, x) [.int .i64 (b + (q : Int) + 1), .slice Au Lx cu] w4.heap.size rfl HOA.out rfl (alloc_at w4 _) HYA.out (by rw [HLEN.out]; omega) (by omega) H4A.out.be.size ?_; intro v' w' ho hg hnb; obtain ⟨A5, c5, rfl⟩ := ho.form; have HO5' := Lib.hid ho; have H5 : Hid (AX w w' w.heap.size l dk1 lg1 S4) := Lib.hid (H4A.out.grown hg (fun k' hk' => ⟨HOA.out.lo k' hk', (HOA.out.rowT k' hk').2⟩)); clear ho hg hnb))
            have HO5 : Hid (LOwn 52 (mAl w) w.heap.size w' (.slice A5 (q + 1) c5) (numB (b + 1) (al ++ [x]))) := by
              have h6 := HO5'.out
              rw [List.length_append, HLEN.out] at h6
              show LOwn _ _ _ _ _ _
              rw [numB_append, HAL.out.1]
              simp only [numB]
              rw [show b + 1 + (q : Int) = b + (q : Int) + 1 by omega]
              exact h6
            obtain ⟨ac1, hac⟩ : ∃ a, lg1.acked = a := ⟨_, rfl⟩
            have hack := acked_any H5.out.lb
            rw [hac] at hack
            have HACK := Lib.hid hack
            have HA1 := Lib.hid hac
            have hle := HAC1.out
            rw [hac] at hle
            have hmax : max su ac1 = ac1 := by omega
            have hgt : ¬ b + (q : Int) + 1 < ac1 := by omega
            have hne : (ac1 != ac1) = false := by simp
            have HHG := Lib.hid hgt
            have HMX := Lib.hid hmax
            clear hac hack hle HO4 HOA HYA H4A HLAST hlenq
            by_cases kf : k < Lf
            · have kfi : (k : Int) < Lf := by omega
              obtain ⟨fg, hfg⟩ : ∃ x, fl[k]? = some x := ⟨_, List.getElem?_eq_getElem (by rw [HLF.out]; exact kf)⟩
              obtain ⟨bf, of, hB, df⟩ := HRS.out.at hfg
              subst hB
              have df5 := cell_later H5.out.be df
              clear hfg df
              cases fg with
              | true =>
                have hsy := logsync_any H5.out.lb HL1.out.i.ok (by have := HL1.out.i.fuse; omega) H5.out.gb
                obtain ⟨hs1, hs2, hs3⟩ := HL1.out.sync
                obtain ⟨r, hr⟩ : ∃ r, lSync dk1 lg1 = r := ⟨_, rfl⟩
                rw [hr] at hsy hs1 hs2 hs3
                obtain ⟨dk2, lg2, e2⟩ := r
                simp only at hs1 hs2 hs3
                subst hs2
                have HSY := Lib.hid hsy
                have HL2 : Hid (LgH b segs' (al ++ [x]) dk2 lg2) := hs1
                have hac2 : lg2.acked = b + (q : Int) + 1 := by rw [hs3]; exact HLA1.out
                have HAC2 := Lib.hid hac2
                clear hsy hs1 hs3 hr hac2
                go_upto_region 16 with fail
                go_wp2_with fail
                refine HSY.out.mono ?_
                rintro e w6 ⟨rfl, hl6⟩
                obtain ⟨S6, h6⟩ := H5.out.step hl6
                have H6 : Hid (AX w w6 w.heap.size l dk2 lg2 S6) := h6
                have HO6 := Lib.hid (HO5.out.keep (mAl_law w) (H5.out.stay hl6))
                have hack := acked_any h6.lb
                rw [HAC2.out] at hack
                have HACK2 := Lib.hid hack
                have hgt2 : ¬ b + (q : Int) + 1 < b + (q : Int) + 1 := by omega
                have hmax2 : max (b + (q : Int) + 1) (b + (q : Int) + 1) = b + (q : Int) + 1 := by omega
                clear hl6 h6 hack HACK hgt hmax
                go_wp2_with (go_at_call 18; (with_reducible refine HACK2.out.mono ?_); rintro e w' ⟨rfl, hw⟩; subst hw)
                first
                | exact ⟨⟨k + 1, (q + 1), A5, c5, (b + (q : Int) + 1), segs', (al ++ [x]), dk2, lg2, S6, rfl, rfl, by go_num, by omega, by omega, HL2, H6, HO6, HSM1, (Lib.hid ⟨by rw [List.length_append, HAL.out.1]; rfl, by rw [List.length_append]; have := HAL.out.2.1; simp; omega, HAC2.out⟩)⟩, by simp [intOf]; omega⟩
                | (go_roundw
                   case rel => exact ⟨k + 1, (q + 1), A5, c5, (b + (q : Int) + 1), segs', (al ++ [x]), dk2, lg2, S6, rfl, rfl, by go_num, by omega, by omega, HL2, H6, HO6, HSM1, (Lib.hid ⟨by rw [List.length_append, HAL.out.1]; rfl, by rw [List.length_append]; have := HAL.out.2.1; simp; omega, HAC2.out⟩)⟩
                   case measure => simp [intOf]; omega)
              | false =>
                go_wp2_with (go_at_call 18; (with_reducible refine HACK.out.mono ?_); rintro e w' ⟨rfl, hw⟩; subst hw)
                first
                | exact ⟨⟨k + 1, (q + 1), A5, c5, ac1, segs', (al ++ [x]), dk1, lg1, S4, rfl, rfl, by go_num, by omega, by omega, HL1, H5, HO5, HSM1, (Lib.hid ⟨by rw [List.length_append, HAL.out.1]; rfl, by rw [List.length_append]; have := HAL.out.2.1; simp; omega, HA1.out⟩)⟩, by simp [intOf]; omega⟩
                | (go_roundw
                   case rel => exact ⟨k + 1, (q + 1), A5, c5, ac1, segs', (al ++ [x]), dk1, lg1, S4, rfl, rfl, by go_num, by omega, by omega, HL1, H5, HO5, HSM1, (Lib.hid ⟨by rw [List.length_append, HAL.out.1]; rfl, by rw [List.length_append]; have := HAL.out.2.1; simp; omega, HA1.out⟩)⟩
                   case measure => simp [intOf]; omega)
            · have kfi : ¬ (k : Int) < Lf := by omega
              go_wp2_with (go_at_call 18; (with_reducible refine HACK.out.mono ?_); rintro e w' ⟨rfl, hw⟩; subst hw)
              first
              | exact ⟨⟨k + 1, (q + 1), A5, c5, ac1, segs', (al ++ [x]), dk1, lg1, S4, rfl, rfl, by go_num, by omega, by omega, HL1, H5, HO5, HSM1, (Lib.hid ⟨by rw [List.length_append, HAL.out.1]; rfl, by rw [List.length_append]; have := HAL.out.2.1; simp; omega, HA1.out⟩)⟩, by simp [intOf]; omega⟩
              | (go_roundw
                 case rel => exact ⟨k + 1, (q + 1), A5, c5, ac1, segs', (al ++ [x]), dk1, lg1, S4, rfl, rfl, by go_num, by omega, by omega, HL1, H5, HO5, HSM1, (Lib.hid ⟨by rw [List.length_append, HAL.out.1]; rfl, by rw [List.length_append]; have := HAL.out.2.1; simp; omega, HA1.out⟩)⟩
                 case measure => simp [intOf]; omega)
      | false =>
        go_upto_region 22 with fail
        have hbb := HBB.out
        have hal := HAL.out
        have htl := HLH.out.told hbb.1 (by omega) (by omega) HSM.out
        have hfs : flatS segs = al := HLH.out.fl
        have htd := told_any HX.out (b + 1) segs htl
        rw [hfs] at htd
        have HTD := Lib.hid htd
        have HTL := Lib.hid htl
        obtain ⟨K, hK⟩ : ∃ K, segs.length = K := ⟨_, rfl⟩
        have HK := Lib.hid hK
        have HNF : Hid ((namesF dk).length = K) := by show _ = _; unfold namesF; rw [List.length_map, HLH.out.nf, hK]
        have HFN : Hid ((lFiles lg).length = K) := by show _ = _; unfold lFiles; rw [HLH.out.fi, List.length_map, List.length_map, hK]
        have hfm : lg.firsts.length ≤ 1000000 := by rw [HLH.out.fi, List.length_map]; have := htl.many; omega
        have HFM := Lib.hid hfm
        have HOK := Lib.hid HLH.out.i.ok
        have hK60 : K ≤ 1000 := by have := htl.many; omega
        have HLQ : Hid ((numB (b + 1) al).length = q) := by show _ = _; rw [numB_len]; exact hal.1
        have HBW := Lib.hid (Below.refl wr.heap.size wr)
        clear hbb hal htl hfs htd hK hfm b0 b1 e1
        go_wp2_with fail
        refine HTD.out.mono ?_
        rintro e w4 ⟨z4, rfl, hz, hb⟩
        have hsb := sameBatches_any z4 (.slice A' q c') (numB (b + 1) al) (numB (b + 1) al) w4 (bt_list hz) (al_list (HO.out.keep (mAl_law w) (Stay.below hb)) (HX.out.be.trans (hb.mono HX.out.be.size)))
        rw [show decide (numB (b + 1) al = numB (b + 1) al) = true by simp] at hsb
        obtain ⟨A4, c4, rfl⟩ := hz.form
        have HSB := Lib.hid hsb
        have HB4 := Lib.hid hb
        clear hz hb hsb
        go_wp2_with fail
        refine HSB.out.mono ?_
        rintro e w5 ⟨rfl, hb⟩
        have HB5 := Lib.hid (HB4.out.trans (hb.mono HB4.out.size))
        clear hb HSB HB4
        go_wp2_with fail
        refine ((HX.out.below HB5.out).list HOK.out).mono ?_
        rintro e w6 ⟨z6, rfl, hz, hb⟩
        obtain ⟨A6, c6, rfl, _, _⟩ := hz.form
        rw [HNF.out]
        have HB6 := Lib.hid (HB5.out.trans (hb.mono HB5.out.size))
        clear hz hb HB5
        go_wp2_with fail
        refine ((HX.out.below HB6.out).files HFM.out).mono ?_
        rintro e w7 ⟨z7, rfl, hz, hb⟩
        obtain ⟨A7, c7, rfl, _, _⟩ := hz.form
        rw [HFN.out]
        have HB7 := Lib.hid (HB6.out.trans (hb.mono HB6.out.size))
        clear hz hb HB6
        go_upto_region 25 with fail
        go_wp2_with fail
        refine ((HX.out.below HB7.out).files HFM.out).mono ?_
        rintro e w8 ⟨z8, rfl, hz, hb⟩
        obtain ⟨A8, c8, rfl, _, _⟩ := hz.form
        rw [HFN.out] at hz ⊢
        have HZ8 := Lib.hid hz
        have HB8 := Lib.hid (HB7.out.trans (hb.mono HB7.out.size))
        have HX8 := Lib.hid (HX.out.below (HB7.out.trans (hb.mono HB7.out.size)))
        clear hz hb HB7
        go_wp2_with fail
        go_loopw [21] (fun i wx => ∃ m : Nat, i = .int .i64 m ∧ m ≤ K ∧ Hid (Below w8.heap.size w8 wx)) (fun i _ => K - (intOf i).toNat)
        case atStart => exact ⟨0, rfl, Nat.zero_le _, Lib.hid (Below.refl _ _)⟩
        case round =>
          rename World => wx
          obtain ⟨m, rfl, hm, HBX⟩ := hrel
          by_cases hmK : m + 1 < K
          · have hmi : (m : Int) + 1 < K := by omega
            have hmj : (m : Int) < K := by omega
            have hm2 : m < K := by omega
            obtain ⟨s, hs⟩ : ∃ s, segs[m]? = some s := ⟨_, List.getElem?_eq_getElem (by have := HK.out; omega)⟩
            have hlt9 : m < segs.length - 1 := by have := HK.out; omega
            have hmd : s ∈ segs.dropLast := by
              rw [List.dropLast_eq_take]
              exact List.mem_of_getElem? (by rw [List.getElem?_take_of_lt hlt9]; exact hs)
            have hsf := HLH.out.sy s hmd
            have hnm : (lFiles lg)[m]? = some (nameL s.1) := by
              unfold lFiles
              rw [HLH.out.fi, List.getElem?_map, List.getElem?_map, hs]; rfl
            obtain ⟨bz, oz, hA, dz⟩ := HZ8.out.at hnm
            subst hA
            have dzx := cell_later HBX.out dz
            obtain ⟨nm, hnn⟩ : ∃ nm, nameL s.1 = nm := ⟨_, rfl⟩
            rw [hnn] at hsf dzx
            obtain ⟨V, hV⟩ : ∃ V, (lookF dk.fs nm).sf = V := ⟨_, rfl⟩
            have hV2 : sizeF dk nm = V := by unfold sizeF; rw [← hsf, hV]
            have hsy := fun (w2 : World) (hb2 : Below w8.heap.size w8 w2) => (HX8.out.below hb2).synced HOK.out nm
            have hsi := fun (w2 : World) (hb2 : Below w8.heap.size w8 w2) => (HX8.out.below hb2).size HOK.out nm
            rw [hV] at hsy
            rw [hV2] at hsi
            have HSY := Lib.hid hsy
            have HSI := Lib.hid hsi
            have HBX1 := Lib.hid HBX.out.drew
            have hVV : (V != V) = false := by simp
            clear hlt9 hs hmd hsf hnm dz hnn hV hV2 hsy hsi
            go_upto_region 29 with fail
            refine wp_region_all (fun w' => w'.cell? ⟨bz, oz + m, none⟩ = some (.string nm)) 13 (by kernel_rfl) rfl dzx (fun hHeld => ?_)
            refine takeL (i := 0) (v := ?_) rfl (by kernel_rfl) (by kernel_rfl) (by kernel_rfl) (fun _ _ _ h => h) (.inl ⟨by rfl, ?_⟩) (by assumption) ?_
            rotate_left
            · (intro w hSw; (try dsimp only at hSw); go_simp; (first | done | with_reducible rfl))
            try simp only [Act.put, List.setIfInBounds_toArray, List.set_cons_zero, List.set_cons_succ]
            refine takeL (i := 1) (v := ?_) rfl (by kernel_rfl) (by kernel_rfl) (by kernel_rfl) (fun _ _ _ h => h) (.inl ⟨by rfl, ?_⟩) (by assumption) ?_
            rotate_left
            · (intro w hSw; (try dsimp only at hSw); go_simp; (first | done | with_reducible rfl))
            try simp only [Act.put, List.setIfInBounds_toArray, List.set_cons_zero, List.set_cons_succ]
            refine takeL (i := 2) (v := ?_) rfl (by kernel_rfl) (by kernel_rfl) (by kernel_rfl) (fun _ _ _ h => h) (.inl ⟨by rfl, ?_⟩) (by assumption) ?_
            rotate_left
            · (intro w hSw; (try dsimp only at hSw); go_simp; (first | done | with_reducible rfl))
            try simp only [Act.put, List.setIfInBounds_toArray, List.set_cons_zero, List.set_cons_succ]
            refine takeL (i := 3) (v := ?_) rfl (by kernel_rfl) (by kernel_rfl) (by kernel_rfl) (fun _ _ _ h => h) (.inl ⟨by rfl, ?_⟩) (by assumption) ?_
            rotate_left
            · (intro w hSw; (try dsimp only at hSw); go_simp; (first | done | with_reducible rfl))
            try simp only [Act.put, List.setIfInBounds_toArray, List.set_cons_zero, List.set_cons_succ]
            refine takeL (i := 4) (v := ?_) rfl (by kernel_rfl) (by kernel_rfl) (by kernel_rfl) (fun _ _ _ h => h) (.inl ⟨by rfl, ?_⟩) (by assumption) ?_
            rotate_left
            · (intro w hSw; (try dsimp only at hSw); go_simp; (first | done | with_reducible rfl))
            try simp only [Act.put, List.setIfInBounds_toArray, List.set_cons_zero, List.set_cons_succ]
            refine takeL (i := 6) (v := ?_) rfl (by kernel_rfl) (by kernel_rfl) (by kernel_rfl) (fun _ _ _ h => h) (.inl ⟨by rfl, ?_⟩) (by assumption) ?_
            rotate_left
            · (intro w hSw; (try dsimp only at hSw); go_simp; (first | done | with_reducible rfl))
            try simp only [Act.put, List.setIfInBounds_toArray, List.set_cons_zero, List.set_cons_succ]
            refine takeL (i := 7) (v := ?_) rfl (by kernel_rfl) (by kernel_rfl) (by kernel_rfl) (fun _ _ _ h => h) (.inl ⟨by rfl, ?_⟩) (by assumption) ?_
            rotate_left
            · (intro w hSw; (try dsimp only at hSw); go_simp; (first | done | with_reducible rfl))
            try simp only [Act.put, List.setIfInBounds_toArray, List.set_cons_zero, List.set_cons_succ]
            refine takeL (i := 8) (v := ?_) rfl (by kernel_rfl) (by kernel_rfl) (by kernel_rfl) (fun _ _ _ h => h) (.inl ⟨by rfl, ?_⟩) (by assumption) ?_
            rotate_left
            · (intro w hSw; (try dsimp only at hSw); go_simp; (first | done | with_reducible rfl))
            try simp only [Act.put, List.setIfInBounds_toArray, List.set_cons_zero, List.set_cons_succ]
            refine takeL (i := 9) (v := ?_) rfl (by kernel_rfl) (by kernel_rfl) (by kernel_rfl) (fun _ _ _ h => h) (.inl ⟨by rfl, ?_⟩) (by assumption) ?_
            rotate_left
            · (intro w hSw; (try dsimp only at hSw); go_simp; (first | done | with_reducible rfl))
            try simp only [Act.put, List.setIfInBounds_toArray, List.set_cons_zero, List.set_cons_succ]
            refine takeL (i := 10) (v := ?_) rfl (by kernel_rfl) (by kernel_rfl) (by kernel_rfl) (fun _ _ _ h => h) (.inl ⟨by rfl, ?_⟩) (by assumption) ?_
            rotate_left
            · (intro w hSw; (try dsimp only at hSw); go_simp; (first | done | with_reducible rfl))
            try simp only [Act.put, List.setIfInBounds_toArray, List.set_cons_zero, List.set_cons_succ]
            refine stepL (i := 5) rfl (by kernel_rfl) (fun K hK => ?_)
            go_simp
            go_at_call 47
            refine (HSY.out _ HBX1.out).mono ?_
            rintro e w9 ⟨rfl, hb⟩
            have HC1 : Hid (Below wx.heap.size wx w9) := Lib.hid (drewN_start (w := wx) (q := 1) hb)
            have HC0 : Hid (Below w8.heap.size w8 w9) := Lib.hid (HBX.out.trans (HC1.out.mono HBX.out.size))
            clear hb
            go_wp2_with fail
            refine hK.out _ _ (cell_later HC1.out dzx) (fun hHeld => ?_)
            clear hK K
            try simp only [Act.put, List.setIfInBounds_toArray, List.set_cons_zero, List.set_cons_succ]
            refine stepL (i := 11) rfl (by kernel_rfl) (fun K hK => ?_)
            go_simp
            go_at_call 48
            refine (HSI.out _ HC0.out).mono ?_
            rintro e w10 ⟨rfl, hb⟩
            have HC3 : Hid (Below wx.heap.size wx w10) := Lib.hid (HC1.out.trans (hb.mono HC1.out.size))
            have HC2 : Hid (Below w8.heap.size w8 w10) := Lib.hid (HC0.out.trans (hb.mono HC0.out.size))
            clear hb
            go_wp2_with fail
            refine hK.out _ _ (cell_later HC3.out dzx) (fun hHeld => ?_)
            clear hK K
            try simp only [Act.put, List.setIfInBounds_toArray, List.set_cons_zero, List.set_cons_succ]
            refine takeL (i := 12) (v := ?_) rfl (by kernel_rfl) (by kernel_rfl) (by kernel_rfl) (fun _ _ _ h => h) (.inl ⟨by rfl, ?_⟩) (by assumption) ?_
            rotate_left
            · (intro w hSw; (try dsimp only at hSw); go_simp; (first | done | with_reducible rfl))
            try simp only [Act.put, List.setIfInBounds_toArray, List.set_cons_zero, List.set_cons_succ]
            refine wpAnyH_done (by kernel_rfl) ?_ _
            clear hHeld
            go_wp2
            first
            | exact ⟨⟨m + 1, by go_num, by omega, HC2⟩, by simp [intOf]; omega⟩
            | (go_roundw
               case rel => exact ⟨m + 1, by go_num, by omega, HC2⟩
               case measure => simp [intOf]; omega)
          · have hmi : ¬ (m : Int) + 1 < K := by omega
            go_upto_region 31 with fail
            have hak := fun (w2 : World) (hb2 : Below w8.heap.size w8 w2) => acked_any (HX8.out.below hb2).lb
            have hlk := fun (w2 : World) (hb2 : Below w8.heap.size w8 w2) => last_any (HX8.out.below hb2).lb
            have haw := fun (w2 : World) (hb2 : Below w8.heap.size w8 w2) => awake_any w2 (HG.out.below (HX8.out.below hb2).be)
            obtain ⟨ac, hac⟩ : ∃ x, lg.acked = x := ⟨_, rfl⟩
            obtain ⟨la, hla⟩ : ∃ x, lg.last = x := ⟨_, rfl⟩
            rw [hac] at hak
            rw [hla] at hlk
            have HAK := Lib.hid hak
            have HLK := Lib.hid hlk
            have HAW := Lib.hid haw
            have hacl := HLH.out.ac.2
            rw [hac, hla] at hacl
            have HB0 : Hid (Below w8.heap.size w8 wx.drew) := Lib.hid HBX.out.drew
            have hslh := HLH.out.sl
            rw [hac, hla] at hslh
            have HSL := Lib.hid hslh
            clear hak hlk haw hac hla hslh hm hmi
            cases K with
            | zero =>
              refine wp_region_all (fun _ => True) 33 (by kernel_rfl) rfl trivial (fun hHeld => ?_)
              refine takeL (i := 0) (v := ?_) rfl (by kernel_rfl) (by kernel_rfl) (by kernel_rfl) (fun _ _ _ h => h) (.inl ⟨by rfl, ?_⟩) (by assumption) ?_
              rotate_left
              · (intro w hSw; (try dsimp only at hSw); go_simp; (first | done | with_reducible rfl))
              try simp only [Act.put, List.setIfInBounds_toArray, List.set_cons_zero, List.set_cons_succ]
              refine takeL (i := 1) (v := ?_) rfl (by kernel_rfl) (by kernel_rfl) (by kernel_rfl) (fun _ _ _ h => h) (.inl ⟨by rfl, ?_⟩) (by assumption) ?_
              rotate_left
              · (intro w hSw; (try dsimp only at hSw); go_simp; (first | done | with_reducible rfl))
              try simp only [Act.put, List.setIfInBounds_toArray, List.set_cons_zero, List.set_cons_succ]
              refine takeL (i := 2) (v := ?_) rfl (by kernel_rfl) (by kernel_rfl) (by kernel_rfl) (fun _ _ _ h => h) (.inl ⟨by rfl, ?_⟩) (by assumption) ?_
              rotate_left
              · (intro w hSw; (try dsimp only at hSw); go_simp; (first | done | with_reducible rfl))
              try simp only [Act.put, List.setIfInBounds_toArray, List.set_cons_zero, List.set_cons_succ]
              refine takeL (i := 3) (v := ?_) rfl (by kernel_rfl) (by kernel_rfl) (by kernel_rfl) (fun _ _ _ h => h) (.inl ⟨by rfl, ?_⟩) (by assumption) ?_
              rotate_left
              · (intro w hSw; (try dsimp only at hSw); go_simp; (first | done | with_reducible rfl))
              try simp only [Act.put, List.setIfInBounds_toArray, List.set_cons_zero, List.set_cons_succ]
              refine takeL (i := 4) (v := undef) rfl (by kernel_rfl) (by kernel_rfl) (by kernel_rfl) (fun _ _ _ h => h) (.inr ⟨by rfl, rfl⟩) (by assumption) ?_
              try simp only [Act.put, List.setIfInBounds_toArray, List.set_cons_zero, List.set_cons_succ]
              refine takeL (i := 5) (v := undef) rfl (by kernel_rfl) (by kernel_rfl) (by kernel_rfl) (fun _ _ _ h => h) (.inr ⟨by rfl, rfl⟩) (by assumption) ?_
              try simp only [Act.put, List.setIfInBounds_toArray, List.set_cons_zero, List.set_cons_succ]
              refine takeL (i := 6) (v := undef) rfl (by kernel_rfl) (by kernel_rfl) (by kernel_rfl) (fun _ _ _ h => h) (.inr ⟨by rfl, rfl⟩) (by assumption) ?_
              try simp only [Act.put, List.setIfInBounds_toArray, List.set_cons_zero, List.set_cons_succ]
              refine takeL (i := 7) (v := undef) rfl (by kernel_rfl) (by kernel_rfl) (by kernel_rfl) (fun _ _ _ h => h) (.inr ⟨by rfl, rfl⟩) (by assumption) ?_
              try simp only [Act.put, List.setIfInBounds_toArray, List.set_cons_zero, List.set_cons_succ]
              refine takeL (i := 8) (v := undef) rfl (by kernel_rfl) (by kernel_rfl) (by kernel_rfl) (fun _ _ _ h => h) (.inr ⟨by rfl, rfl⟩) (by assumption) ?_
              try simp only [Act.put, List.setIfInBounds_toArray, List.set_cons_zero, List.set_cons_succ]
              refine takeL (i := 9) (v := ?_) rfl (by kernel_rfl) (by kernel_rfl) (by kernel_rfl) (fun _ _ _ h => h) (.inl ⟨by rfl, ?_⟩) (by assumption) ?_
              rotate_left
              · (intro w hSw; (try dsimp only at hSw); go_simp; (first | done | with_reducible rfl))
              try simp only [Act.put, List.setIfInBounds_toArray, List.set_cons_zero, List.set_cons_succ]
              refine takeL (i := 10) (v := ?_) rfl (by kernel_rfl) (by kernel_rfl) (by kernel_rfl) (fun _ _ _ h => h) (.inl ⟨by rfl, ?_⟩) (by assumption) ?_
              rotate_left
              · (intro w hSw; (try dsimp only at hSw); go_simp; (first | done | with_reducible rfl))
              try simp only [Act.put, List.setIfInBounds_toArray, List.set_cons_zero, List.set_cons_succ]
              refine takeL (i := 11) (v := undef) rfl (by kernel_rfl) (by kernel_rfl) (by kernel_rfl) (fun _ _ _ h => h) (.inr ⟨by rfl, rfl⟩) (by assumption) ?_
              try simp only [Act.put, List.setIfInBounds_toArray, List.set_cons_zero, List.set_cons_succ]
              refine takeL (i := 12) (v := undef) rfl (by kernel_rfl) (by kernel_rfl) (by kernel_rfl) (fun _ _ _ h => h) (.inr ⟨by rfl, rfl⟩) (by assumption) ?_
              try simp only [Act.put, List.setIfInBounds_toArray, List.set_cons_zero, List.set_cons_succ]
              refine takeL (i := 13) (v := undef) rfl (by kernel_rfl) (by kernel_rfl) (by kernel_rfl) (fun _ _ _ h => h) (.inr ⟨by rfl, rfl⟩) (by assumption) ?_
              try simp only [Act.put, List.setIfInBounds_toArray, List.set_cons_zero, List.set_cons_succ]
              refine takeL (i := 14) (v := undef) rfl (by kernel_rfl) (by kernel_rfl) (by kernel_rfl) (fun _ _ _ h => h) (.inr ⟨by rfl, rfl⟩) (by assumption) ?_
              try simp only [Act.put, List.setIfInBounds_toArray, List.set_cons_zero, List.set_cons_succ]
              refine takeL (i := 15) (v := undef) rfl (by kernel_rfl) (by kernel_rfl) (by kernel_rfl) (fun _ _ _ h => h) (.inr ⟨by rfl, rfl⟩) (by assumption) ?_
              try simp only [Act.put, List.setIfInBounds_toArray, List.set_cons_zero, List.set_cons_succ]
              refine takeL (i := 16) (v := undef) rfl (by kernel_rfl) (by kernel_rfl) (by kernel_rfl) (fun _ _ _ h => h) (.inr ⟨by rfl, rfl⟩) (by assumption) ?_
              try simp only [Act.put, List.setIfInBounds_toArray, List.set_cons_zero, List.set_cons_succ]
              refine takeL (i := 17) (v := undef) rfl (by kernel_rfl) (by kernel_rfl) (by kernel_rfl) (fun _ _ _ h => h) (.inr ⟨by rfl, rfl⟩) (by assumption) ?_
              try simp only [Act.put, List.setIfInBounds_toArray, List.set_cons_zero, List.set_cons_succ]
              refine takeL (i := 18) (v := undef) rfl (by kernel_rfl) (by kernel_rfl) (by kernel_rfl) (fun _ _ _ h => h) (.inr ⟨by rfl, rfl⟩) (by assumption) ?_
              try simp only [Act.put, List.setIfInBounds_toArray, List.set_cons_zero, List.set_cons_succ]
              refine takeL (i := 19) (v := undef) rfl (by kernel_rfl) (by kernel_rfl) (by kernel_rfl) (fun _ _ _ h => h) (.inr ⟨by rfl, rfl⟩) (by assumption) ?_
              try simp only [Act.put, List.setIfInBounds_toArray, List.set_cons_zero, List.set_cons_succ]
              refine takeL (i := 20) (v := undef) rfl (by kernel_rfl) (by kernel_rfl) (by kernel_rfl) (fun _ _ _ h => h) (.inr ⟨by rfl, rfl⟩) (by assumption) ?_
              try simp only [Act.put, List.setIfInBounds_toArray, List.set_cons_zero, List.set_cons_succ]
              refine takeL (i := 21) (v := undef) rfl (by kernel_rfl) (by kernel_rfl) (by kernel_rfl) (fun _ _ _ h => h) (.inr ⟨by rfl, rfl⟩) (by assumption) ?_
              try simp only [Act.put, List.setIfInBounds_toArray, List.set_cons_zero, List.set_cons_succ]
              refine takeL (i := 22) (v := undef) rfl (by kernel_rfl) (by kernel_rfl) (by kernel_rfl) (fun _ _ _ h => h) (.inr ⟨by rfl, rfl⟩) (by assumption) ?_
              try simp only [Act.put, List.setIfInBounds_toArray, List.set_cons_zero, List.set_cons_succ]
              refine takeL (i := 23) (v := undef) rfl (by kernel_rfl) (by kernel_rfl) (by kernel_rfl) (fun _ _ _ h => h) (.inr ⟨by rfl, rfl⟩) (by assumption) ?_
              try simp only [Act.put, List.setIfInBounds_toArray, List.set_cons_zero, List.set_cons_succ]
              refine takeL (i := 24) (v := undef) rfl (by kernel_rfl) (by kernel_rfl) (by kernel_rfl) (fun _ _ _ h => h) (.inr ⟨by rfl, rfl⟩) (by assumption) ?_
              try simp only [Act.put, List.setIfInBounds_toArray, List.set_cons_zero, List.set_cons_succ]
              refine takeL (i := 25) (v := undef) rfl (by kernel_rfl) (by kernel_rfl) (by kernel_rfl) (fun _ _ _ h => h) (.inr ⟨by rfl, rfl⟩) (by assumption) ?_
              try simp only [Act.put, List.setIfInBounds_toArray, List.set_cons_zero, List.set_cons_succ]
              refine takeL (i := 26) (v := undef) rfl (by kernel_rfl) (by kernel_rfl) (by kernel_rfl) (fun _ _ _ h => h) (.inr ⟨by rfl, rfl⟩) (by assumption) ?_
              try simp only [Act.put, List.setIfInBounds_toArray, List.set_cons_zero, List.set_cons_succ]
              refine takeL (i := 27) (v := undef) rfl (by kernel_rfl) (by kernel_rfl) (by kernel_rfl) (fun _ _ _ h => h) (.inr ⟨by rfl, rfl⟩) (by assumption) ?_
              try simp only [Act.put, List.setIfInBounds_toArray, List.set_cons_zero, List.set_cons_succ]
              refine takeL (i := 28) (v := ?_) rfl (by kernel_rfl) (by kernel_rfl) (by kernel_rfl) (fun _ _ _ h => h) (.inl ⟨by rfl, ?_⟩) (by assumption) ?_
              rotate_left
              · (intro w hSw; (try dsimp only at hSw); go_simp; (first | done | with_reducible rfl))
              try simp only [Act.put, List.setIfInBounds_toArray, List.set_cons_zero, List.set_cons_succ]
              refine takeL (i := 29) (v := ?_) rfl (by kernel_rfl) (by kernel_rfl) (by kernel_rfl) (fun _ _ _ h => h) (.inl ⟨by rfl, ?_⟩) (by assumption) ?_
              rotate_left
              · (intro w hSw; (try dsimp only at hSw); go_simp; (first | done | with_reducible rfl))
              try simp only [Act.put, List.setIfInBounds_toArray, List.set_cons_zero, List.set_cons_succ]
              refine stepL (i := 30) rfl (by kernel_rfl) (fun K hK => ?_)
              go_simp
              go_at_call 21
              refine (HAW.out _ HB0.out).mono ?_
              rintro e w20 ⟨rfl, hb⟩
              have HFIN : Hid (Below w.heap.size w w20) := Lib.hid ((HX8.out.below HB0.out).be.trans (hb.mono (HX8.out.below HB0.out).be.size))
              clear hb
              go_wp2_with fail
              refine hK.out _ _ trivial (fun hHeld => ?_)
              clear hK K
              try simp only [Act.put, List.setIfInBounds_toArray, List.set_cons_zero, List.set_cons_succ]
              refine takeL (i := 31) (v := ?_) rfl (by kernel_rfl) (by kernel_rfl) (by kernel_rfl) (fun _ _ _ h => h) (.inl ⟨by rfl, ?_⟩) (by assumption) ?_
              rotate_left
              · (intro w hSw; (try dsimp only at hSw); go_simp; (first | done | with_reducible rfl))
              try simp only [Act.put, List.setIfInBounds_toArray, List.set_cons_zero, List.set_cons_succ]
              refine stepL (i := 32) rfl (by kernel_rfl) (fun K hK => ?_)
              go_simp
              refine hK.out _ _ trivial (fun hHeld => ?_)
              clear hK K
              try simp only [Act.put, List.setIfInBounds_toArray, List.set_cons_zero, List.set_cons_succ]
              refine wpAnyH_done (by kernel_rfl) ?_ _
              clear hHeld
              go_wp2_with fail
              exact bodyPost_ret (v := .bool true) (by simp [results]) rfl ⟨rfl, HFIN.out⟩
            | succ t =>
              have hz1 : (((t + 1 : Nat) : Int) == 0) = false := by simp; omega
              have hz2 : ((t : Int) + 1 == 0) = false := by simp; omega
              have hti : (t : Int) < (t : Int) + 1 := by omega
              have hti2 : t < t + 1 := by omega
              have hwt : IntKind.i64.wrap (t : Int) = (t : Int) := by rw [IntKind.wrap_i64]; omega
              have hti0 : (0 : Int) ≤ (t : Int) := by omega
              have hti3 : (t : Int) < ((t + 1 : Nat) : Int) := by omega
              by_cases hlt2 : ac < la
              · refine wp_region_all (fun _ => True) 33 (by kernel_rfl) rfl trivial (fun hHeld => ?_)
                refine takeL (i := 0) (v := ?_) rfl (by kernel_rfl) (by kernel_rfl) (by kernel_rfl) (fun _ _ _ h => h) (.inl ⟨by rfl, ?_⟩) (by assumption) ?_
                rotate_left
                · (intro w hSw; (try dsimp only at hSw); go_simp; (first | done | with_reducible rfl))
                try simp only [Act.put, List.setIfInBounds_toArray, List.set_cons_zero, List.set_cons_succ]
                refine takeL (i := 1) (v := ?_) rfl (by kernel_rfl) (by kernel_rfl) (by kernel_rfl) (fun _ _ _ h => h) (.inl ⟨by rfl, ?_⟩) (by assumption) ?_
                rotate_left
                · (intro w hSw; (try dsimp only at hSw); go_simp; (first | done | with_reducible rfl))
                try simp only [Act.put, List.setIfInBounds_toArray, List.set_cons_zero, List.set_cons_succ]
                refine takeL (i := 2) (v := ?_) rfl (by kernel_rfl) (by kernel_rfl) (by kernel_rfl) (fun _ _ _ h => h) (.inl ⟨by rfl, ?_⟩) (by assumption) ?_
                rotate_left
                · (intro w hSw; (try dsimp only at hSw); go_simp; (first | done | with_reducible rfl))
                try simp only [Act.put, List.setIfInBounds_toArray, List.set_cons_zero, List.set_cons_succ]
                refine takeL (i := 3) (v := ?_) rfl (by kernel_rfl) (by kernel_rfl) (by kernel_rfl) (fun _ _ _ h => h) (.inl ⟨by rfl, ?_⟩) (by assumption) ?_
                rotate_left
                · (intro w hSw; (try dsimp only at hSw); go_simp; (first | done | with_reducible rfl))
                try simp only [Act.put, List.setIfInBounds_toArray, List.set_cons_zero, List.set_cons_succ]
                refine takeL (i := 4) (v := ?_) rfl (by kernel_rfl) (by kernel_rfl) (by kernel_rfl) (fun _ _ _ h => h) (.inl ⟨by rfl, ?_⟩) (by assumption) ?_
                rotate_left
                · (intro w hSw; (try dsimp only at hSw); go_simp; (first | done | with_reducible rfl))
                try simp only [Act.put, List.setIfInBounds_toArray, List.set_cons_zero, List.set_cons_succ]
                refine takeL (i := 6) (v := ?_) rfl (by kernel_rfl) (by kernel_rfl) (by kernel_rfl) (fun _ _ _ h => h) (.inl ⟨by rfl, ?_⟩) (by assumption) ?_
                rotate_left
                · (intro w hSw; (try dsimp only at hSw); go_simp; (first | done | with_reducible rfl))
                try simp only [Act.put, List.setIfInBounds_toArray, List.set_cons_zero, List.set_cons_succ]
                refine stepL (i := 5) rfl (by kernel_rfl) (fun K hK => ?_)
                go_simp
                go_at_call 18
                refine (HAK.out _ HB0.out).mono ?_
                rintro e w0 ⟨rfl, hw⟩
                subst hw
                go_wp2_with fail
                refine hK.out _ _ trivial (fun hHeld => ?_)
                clear hK K
                try simp only [Act.put, List.setIfInBounds_toArray, List.set_cons_zero, List.set_cons_succ]
                refine stepL (i := 7) rfl (by kernel_rfl) (fun K hK => ?_)
                go_simp
                go_at_call 17
                refine (HLK.out _ HB0.out).mono ?_
                rintro e w0 ⟨rfl, hw⟩
                subst hw
                go_wp2_with fail
                refine hK.out _ _ trivial (fun hHeld => ?_)
                clear hK K
                try simp only [Act.put, List.setIfInBounds_toArray, List.set_cons_zero, List.set_cons_succ]
                refine takeL (i := 8) (v := ?_) rfl (by kernel_rfl) (by kernel_rfl) (by kernel_rfl) (fun _ _ _ h => h) (.inl ⟨by rfl, ?_⟩) (by assumption) ?_
                rotate_left
                · (intro w hSw; (try dsimp only at hSw); go_simp; (first | done | with_reducible rfl))
                try simp only [Act.put, List.setIfInBounds_toArray, List.set_cons_zero, List.set_cons_succ]
                refine takeL (i := 9) (v := ?_) rfl (by kernel_rfl) (by kernel_rfl) (by kernel_rfl) (fun _ _ _ h => h) (.inl ⟨by rfl, ?_⟩) (by assumption) ?_
                rotate_left
                · (intro w hSw; (try dsimp only at hSw); go_simp; (first | done | with_reducible rfl))
                try simp only [Act.put, List.setIfInBounds_toArray, List.set_cons_zero, List.set_cons_succ]
                refine takeL (i := 10) (v := ?_) rfl (by kernel_rfl) (by kernel_rfl) (by kernel_rfl) (fun _ _ _ h => h) (.inl ⟨by rfl, ?_⟩) (by assumption) ?_
                rotate_left
                · (intro w hSw; (try dsimp only at hSw); go_simp; (first | done | with_reducible rfl))
                try simp only [Act.put, List.setIfInBounds_toArray, List.set_cons_zero, List.set_cons_succ]
                refine takeL (i := 11) (v := undef) rfl (by kernel_rfl) (by kernel_rfl) (by kernel_rfl) (fun _ _ _ h => h) (.inr ⟨by rfl, rfl⟩) (by assumption) ?_
                try simp only [Act.put, List.setIfInBounds_toArray, List.set_cons_zero, List.set_cons_succ]
                refine takeL (i := 12) (v := undef) rfl (by kernel_rfl) (by kernel_rfl) (by kernel_rfl) (fun _ _ _ h => h) (.inr ⟨by rfl, rfl⟩) (by assumption) ?_
                try simp only [Act.put, List.setIfInBounds_toArray, List.set_cons_zero, List.set_cons_succ]
                refine takeL (i := 13) (v := undef) rfl (by kernel_rfl) (by kernel_rfl) (by kernel_rfl) (fun _ _ _ h => h) (.inr ⟨by rfl, rfl⟩) (by assumption) ?_
                try simp only [Act.put, List.setIfInBounds_toArray, List.set_cons_zero, List.set_cons_succ]
                refine takeL (i := 14) (v := undef) rfl (by kernel_rfl) (by kernel_rfl) (by kernel_rfl) (fun _ _ _ h => h) (.inr ⟨by rfl, rfl⟩) (by assumption) ?_
                try simp only [Act.put, List.setIfInBounds_toArray, List.set_cons_zero, List.set_cons_succ]
                refine takeL (i := 15) (v := undef) rfl (by kernel_rfl) (by kernel_rfl) (by kernel_rfl) (fun _ _ _ h => h) (.inr ⟨by rfl, rfl⟩) (by assumption) ?_
                try simp only [Act.put, List.setIfInBounds_toArray, List.set_cons_zero, List.set_cons_succ]
                refine takeL (i := 16) (v := undef) rfl (by kernel_rfl) (by kernel_rfl) (by kernel_rfl) (fun _ _ _ h => h) (.inr ⟨by rfl, rfl⟩) (by assumption) ?_
                try simp only [Act.put, List.setIfInBounds_toArray, List.set_cons_zero, List.set_cons_succ]
                refine takeL (i := 17) (v := undef) rfl (by kernel_rfl) (by kernel_rfl) (by kernel_rfl) (fun _ _ _ h => h) (.inr ⟨by rfl, rfl⟩) (by assumption) ?_
                try simp only [Act.put, List.setIfInBounds_toArray, List.set_cons_zero, List.set_cons_succ]
                refine takeL (i := 18) (v := undef) rfl (by kernel_rfl) (by kernel_rfl) (by kernel_rfl) (fun _ _ _ h => h) (.inr ⟨by rfl, rfl⟩) (by assumption) ?_
                try simp only [Act.put, List.setIfInBounds_toArray, List.set_cons_zero, List.set_cons_succ]
                refine takeL (i := 19) (v := undef) rfl (by kernel_rfl) (by kernel_rfl) (by kernel_rfl) (fun _ _ _ h => h) (.inr ⟨by rfl, rfl⟩) (by assumption) ?_
                try simp only [Act.put, List.setIfInBounds_toArray, List.set_cons_zero, List.set_cons_succ]
                refine takeL (i := 20) (v := undef) rfl (by kernel_rfl) (by kernel_rfl) (by kernel_rfl) (fun _ _ _ h => h) (.inr ⟨by rfl, rfl⟩) (by assumption) ?_
                try simp only [Act.put, List.setIfInBounds_toArray, List.set_cons_zero, List.set_cons_succ]
                refine takeL (i := 21) (v := undef) rfl (by kernel_rfl) (by kernel_rfl) (by kernel_rfl) (fun _ _ _ h => h) (.inr ⟨by rfl, rfl⟩) (by assumption) ?_
                try simp only [Act.put, List.setIfInBounds_toArray, List.set_cons_zero, List.set_cons_succ]
                refine takeL (i := 22) (v := undef) rfl (by kernel_rfl) (by kernel_rfl) (by kernel_rfl) (fun _ _ _ h => h) (.inr ⟨by rfl, rfl⟩) (by assumption) ?_
                try simp only [Act.put, List.setIfInBounds_toArray, List.set_cons_zero, List.set_cons_succ]
                refine takeL (i := 23) (v := undef) rfl (by kernel_rfl) (by kernel_rfl) (by kernel_rfl) (fun _ _ _ h => h) (.inr ⟨by rfl, rfl⟩) (by assumption) ?_
                try simp only [Act.put, List.setIfInBounds_toArray, List.set_cons_zero, List.set_cons_succ]
                refine takeL (i := 24) (v := undef) rfl (by kernel_rfl) (by kernel_rfl) (by kernel_rfl) (fun _ _ _ h => h) (.inr ⟨by rfl, rfl⟩) (by assumption) ?_
                try simp only [Act.put, List.setIfInBounds_toArray, List.set_cons_zero, List.set_cons_succ]
                refine takeL (i := 25) (v := undef) rfl (by kernel_rfl) (by kernel_rfl) (by kernel_rfl) (fun _ _ _ h => h) (.inr ⟨by rfl, rfl⟩) (by assumption) ?_
                try simp only [Act.put, List.setIfInBounds_toArray, List.set_cons_zero, List.set_cons_succ]
                refine takeL (i := 26) (v := undef) rfl (by kernel_rfl) (by kernel_rfl) (by kernel_rfl) (fun _ _ _ h => h) (.inr ⟨by rfl, rfl⟩) (by assumption) ?_
                try simp only [Act.put, List.setIfInBounds_toArray, List.set_cons_zero, List.set_cons_succ]
                refine takeL (i := 27) (v := undef) rfl (by kernel_rfl) (by kernel_rfl) (by kernel_rfl) (fun _ _ _ h => h) (.inr ⟨by rfl, rfl⟩) (by assumption) ?_
                try simp only [Act.put, List.setIfInBounds_toArray, List.set_cons_zero, List.set_cons_succ]
                refine takeL (i := 28) (v := ?_) rfl (by kernel_rfl) (by kernel_rfl) (by kernel_rfl) (fun _ _ _ h => h) (.inl ⟨by rfl, ?_⟩) (by assumption) ?_
                rotate_left
                · (intro w hSw; (try dsimp only at hSw); go_simp; (first | done | with_reducible rfl))
                try simp only [Act.put, List.setIfInBounds_toArray, List.set_cons_zero, List.set_cons_succ]
                refine takeL (i := 29) (v := ?_) rfl (by kernel_rfl) (by kernel_rfl) (by kernel_rfl) (fun _ _ _ h => h) (.inl ⟨by rfl, ?_⟩) (by assumption) ?_
                rotate_left
                · (intro w hSw; (try dsimp only at hSw); go_simp; (first | done | with_reducible rfl))
                try simp only [Act.put, List.setIfInBounds_toArray, List.set_cons_zero, List.set_cons_succ]
                refine stepL (i := 30) rfl (by kernel_rfl) (fun K hK => ?_)
                go_simp
                go_at_call 21
                refine (HAW.out _ HB0.out).mono ?_
                rintro e w20 ⟨rfl, hb⟩
                have HFIN : Hid (Below w.heap.size w w20) := Lib.hid ((HX8.out.below HB0.out).be.trans (hb.mono (HX8.out.below HB0.out).be.size))
                clear hb
                go_wp2_with fail
                refine hK.out _ _ trivial (fun hHeld => ?_)
                clear hK K
                try simp only [Act.put, List.setIfInBounds_toArray, List.set_cons_zero, List.set_cons_succ]
                refine takeL (i := 31) (v := ?_) rfl (by kernel_rfl) (by kernel_rfl) (by kernel_rfl) (fun _ _ _ h => h) (.inl ⟨by rfl, ?_⟩) (by assumption) ?_
                rotate_left
                · (intro w hSw; (try dsimp only at hSw); go_simp; (first | done | with_reducible rfl))
                try simp only [Act.put, List.setIfInBounds_toArray, List.set_cons_zero, List.set_cons_succ]
                refine stepL (i := 32) rfl (by kernel_rfl) (fun K hK => ?_)
                go_simp
                refine hK.out _ _ trivial (fun hHeld => ?_)
                clear hK K
                try simp only [Act.put, List.setIfInBounds_toArray, List.set_cons_zero, List.set_cons_succ]
                refine wpAnyH_done (by kernel_rfl) ?_ _
                clear hHeld
                go_wp2_with fail
                exact bodyPost_ret (v := .bool true) (by simp [results]) rfl ⟨rfl, HFIN.out⟩
              · have hdf : decide (ac < la) = false := decide_eq_false hlt2
                have heq : ac = la := by omega
                have hsk := HK.out
                obtain ⟨s, hs⟩ : ∃ s, segs.getLast? = some s := ⟨_, List.getLast?_eq_some_getLast (by intro e; rw [e] at hsk; simp at hsk)⟩
                have hst : segs[t]? = some s := by
                  rw [List.getLast?_eq_getElem?, hsk] at hs
                  exact hs
                have hsf := HSL.out heq s hs
                have hnm : (lFiles lg)[t]? = some (nameL s.1) := by
                  unfold lFiles
                  rw [HLH.out.fi, List.getElem?_map, List.getElem?_map, hst]; rfl
                obtain ⟨bz, oz, hA, dz⟩ := HZ8.out.at hnm
                subst hA
                have dzx := cell_later HBX.out dz
                obtain ⟨nm, hnn⟩ : ∃ nm, nameL s.1 = nm := ⟨_, rfl⟩
                rw [hnn] at hsf dzx dz
                obtain ⟨V, hV⟩ : ∃ V, (lookF dk.fs nm).sf = V := ⟨_, rfl⟩
                have hV2 : sizeF dk nm = V := by unfold sizeF; rw [← hsf, hV]
                have hsy := fun (w2 : World) (hb2 : Below w8.heap.size w8 w2) => (HX8.out.below hb2).synced HOK.out nm
                have hsi := fun (w2 : World) (hb2 : Below w8.heap.size w8 w2) => (HX8.out.below hb2).size HOK.out nm
                rw [hV] at hsy
                rw [hV2] at hsi
                have HSY := Lib.hid hsy
                have HSI := Lib.hid hsi
                have HDZ := Lib.hid dz
                clear heq hsk hs hst hsf hnm dz hnn hV hV2 hsy hsi
                refine wp_region_all (fun w' => w'.cell? ⟨bz, oz + t, none⟩ = some (.string nm)) 33 (by kernel_rfl) rfl dzx (fun hHeld => ?_)
                refine takeL (i := 0) (v := ?_) rfl (by kernel_rfl) (by kernel_rfl) (by kernel_rfl) (fun _ _ _ h => h) (.inl ⟨by rfl, ?_⟩) (by assumption) ?_
                rotate_left
                · (intro w hSw; (try dsimp only at hSw); go_simp; (first | done | with_reducible rfl))
                try simp only [Act.put, List.setIfInBounds_toArray, List.set_cons_zero, List.set_cons_succ]
                refine takeL (i := 1) (v := ?_) rfl (by kernel_rfl) (by kernel_rfl) (by kernel_rfl) (fun _ _ _ h => h) (.inl ⟨by rfl, ?_⟩) (by assumption) ?_
                rotate_left
                · (intro w hSw; (try dsimp only at hSw); go_simp; (first | done | with_reducible rfl))
                try simp only [Act.put, List.setIfInBounds_toArray, List.set_cons_zero, List.set_cons_succ]
                refine takeL (i := 2) (v := ?_) rfl (by kernel_rfl) (by kernel_rfl) (by kernel_rfl) (fun _ _ _ h => h) (.inl ⟨by rfl, ?_⟩) (by assumption) ?_
                rotate_left
                · (intro w hSw; (try dsimp only at hSw); go_simp; (first | done | with_reducible rfl))
                try simp only [Act.put, List.setIfInBounds_toArray, List.set_cons_zero, List.set_cons_succ]
                refine takeL (i := 3) (v := ?_) rfl (by kernel_rfl) (by kernel_rfl) (by kernel_rfl) (fun _ _ _ h => h) (.inl ⟨by rfl, ?_⟩) (by assumption) ?_
                rotate_left
                · (intro w hSw; (try dsimp only at hSw); go_simp; (first | done | with_reducible rfl))
                try simp only [Act.put, List.setIfInBounds_toArray, List.set_cons_zero, List.set_cons_succ]
                refine takeL (i := 4) (v := ?_) rfl (by kernel_rfl) (by kernel_rfl) (by kernel_rfl) (fun _ _ _ h => h) (.inl ⟨by rfl, ?_⟩) (by assumption) ?_
                rotate_left
                · (intro w hSw; (try dsimp only at hSw); go_simp; (first | done | with_reducible rfl))
                try simp only [Act.put, List.setIfInBounds_toArray, List.set_cons_zero, List.set_cons_succ]
                refine takeL (i := 6) (v := ?_) rfl (by kernel_rfl) (by kernel_rfl) (by kernel_rfl) (fun _ _ _ h => h) (.inl ⟨by rfl, ?_⟩) (by assumption) ?_
                rotate_left
                · (intro w hSw; (try dsimp only at hSw); go_simp; (first | done | with_reducible rfl))
                try simp only [Act.put, List.setIfInBounds_toArray, List.set_cons_zero, List.set_cons_succ]
                refine stepL (i := 5) rfl (by kernel_rfl) (fun K hK => ?_)
                go_simp
                go_at_call 18
                refine (HAK.out _ HB0.out).mono ?_
                rintro e w0 ⟨rfl, hw⟩
                subst hw
                go_wp2_with fail
                refine hK.out _ _ dzx (fun hHeld => ?_)
                clear hK K
                try simp only [Act.put, List.setIfInBounds_toArray, List.set_cons_zero, List.set_cons_succ]
                refine stepL (i := 7) rfl (by kernel_rfl) (fun K hK => ?_)
                go_simp
                go_at_call 17
                refine (HLK.out _ HB0.out).mono ?_
                rintro e w0 ⟨rfl, hw⟩
                subst hw
                go_wp2_with fail
                refine hK.out _ _ dzx (fun hHeld => ?_)
                clear hK K
                try simp only [Act.put, List.setIfInBounds_toArray, List.set_cons_zero, List.set_cons_succ]
                refine takeL (i := 8) (v := ?_) rfl (by kernel_rfl) (by kernel_rfl) (by kernel_rfl) (fun _ _ _ h => h) (.inl ⟨by rfl, ?_⟩) (by assumption) ?_
                rotate_left
                · (intro w hSw; (try dsimp only at hSw); go_simp; (first | done | with_reducible rfl))
                try simp only [Act.put, List.setIfInBounds_toArray, List.set_cons_zero, List.set_cons_succ]
                refine takeL (i := 9) (v := ?_) rfl (by kernel_rfl) (by kernel_rfl) (by kernel_rfl) (fun _ _ _ h => h) (.inl ⟨by rfl, ?_⟩) (by assumption) ?_
                rotate_left
                · (intro w hSw; (try dsimp only at hSw); go_simp; (first | done | with_reducible rfl))
                try simp only [Act.put, List.setIfInBounds_toArray, List.set_cons_zero, List.set_cons_succ]
                refine takeL (i := 10) (v := ?_) rfl (by kernel_rfl) (by kernel_rfl) (by kernel_rfl) (fun _ _ _ h => h) (.inl ⟨by rfl, ?_⟩) (by assumption) ?_
                rotate_left
                · (intro w hSw; (try dsimp only at hSw); go_simp; (first | done | with_reducible rfl))
                try simp only [Act.put, List.setIfInBounds_toArray, List.set_cons_zero, List.set_cons_succ]
                refine takeL (i := 11) (v := ?_) rfl (by kernel_rfl) (by kernel_rfl) (by kernel_rfl) (fun _ _ _ h => h) (.inl ⟨by rfl, ?_⟩) (by assumption) ?_
                rotate_left
                · (intro w hSw; (try dsimp only at hSw); go_simp; (first | done | with_reducible rfl))
                try simp only [Act.put, List.setIfInBounds_toArray, List.set_cons_zero, List.set_cons_succ]
                refine takeL (i := 12) (v := ?_) rfl (by kernel_rfl) (by kernel_rfl) (by kernel_rfl) (fun _ _ _ h => h) (.inl ⟨by rfl, ?_⟩) (by assumption) ?_
                rotate_left
                · (intro w hSw; (try dsimp only at hSw); go_simp; (first | done | with_reducible rfl))
                try simp only [Act.put, List.setIfInBounds_toArray, List.set_cons_zero, List.set_cons_succ]
                refine takeL (i := 13) (v := ?_) rfl (by kernel_rfl) (by kernel_rfl) (by kernel_rfl) (fun _ _ _ h => h) (.inl ⟨by rfl, ?_⟩) (by assumption) ?_
                rotate_left
                · (intro w hSw; (try dsimp only at hSw); go_simp; (first | done | with_reducible rfl))
                try simp only [Act.put, List.setIfInBounds_toArray, List.set_cons_zero, List.set_cons_succ]
                refine takeL (i := 14) (v := ?_) rfl (by kernel_rfl) (by kernel_rfl) (by kernel_rfl) (fun _ _ _ h => h) (.inl ⟨by rfl, ?_⟩) (by assumption) ?_
                rotate_left
                · (intro w hSw; (try dsimp only at hSw); go_simp; (first | done | with_reducible rfl))
                try simp only [Act.put, List.setIfInBounds_toArray, List.set_cons_zero, List.set_cons_succ]
                refine takeL (i := 15) (v := ?_) rfl (by kernel_rfl) (by kernel_rfl) (by kernel_rfl) (fun _ _ _ h => h) (.inl ⟨by rfl, ?_⟩) (by assumption) ?_
                rotate_left
                · (intro w hSw; (try dsimp only at hSw); go_simp; (first | done | with_reducible rfl))
                try simp only [Act.put, List.setIfInBounds_toArray, List.set_cons_zero, List.set_cons_succ]
                refine takeL (i := 16) (v := ?_) rfl (by kernel_rfl) (by kernel_rfl) (by kernel_rfl) (fun _ _ _ h => h) (.inl ⟨by rfl, ?_⟩) (by assumption) ?_
                rotate_left
                · (intro w hSw; (try dsimp only at hSw); go_simp; (first | done | with_reducible rfl))
                try simp only [Act.put, List.setIfInBounds_toArray, List.set_cons_zero, List.set_cons_succ]
                refine takeL (i := 17) (v := ?_) rfl (by kernel_rfl) (by kernel_rfl) (by kernel_rfl) (fun _ _ _ h => h) (.inl ⟨by rfl, ?_⟩) (by assumption) ?_
                rotate_left
                · (intro w hSw; (try dsimp only at hSw); go_simp; (first | done | with_reducible rfl))
                try simp only [Act.put, List.setIfInBounds_toArray, List.set_cons_zero, List.set_cons_succ]
                refine takeL (i := 19) (v := ?_) rfl (by kernel_rfl) (by kernel_rfl) (by kernel_rfl) (fun _ _ _ h => h) (.inl ⟨by rfl, ?_⟩) (by assumption) ?_
                rotate_left
                · (intro w hSw; (try dsimp only at hSw); go_simp; (first | done | with_reducible rfl))
                try simp only [Act.put, List.setIfInBounds_toArray, List.set_cons_zero, List.set_cons_succ]
                refine takeL (i := 20) (v := ?_) rfl (by kernel_rfl) (by kernel_rfl) (by kernel_rfl) (fun _ _ _ h => h) (.inl ⟨by rfl, ?_⟩) (by assumption) ?_
                rotate_left
                · (intro w hSw; (try dsimp only at hSw); go_simp; (first | done | with_reducible rfl))
                try simp only [Act.put, List.setIfInBounds_toArray, List.set_cons_zero, List.set_cons_succ]
                refine takeL (i := 21) (v := ?_) rfl (by kernel_rfl) (by kernel_rfl) (by kernel_rfl) (fun _ _ _ h => h) (.inl ⟨by rfl, ?_⟩) (by assumption) ?_
                rotate_left
                · (intro w hSw; (try dsimp only at hSw); go_simp; (first | done | with_reducible rfl))
                try simp only [Act.put, List.setIfInBounds_toArray, List.set_cons_zero, List.set_cons_succ]
                refine takeL (i := 22) (v := ?_) rfl (by kernel_rfl) (by kernel_rfl) (by kernel_rfl) (fun _ _ _ h => h) (.inl ⟨by rfl, ?_⟩) (by assumption) ?_
                rotate_left
                · (intro w hSw; (try dsimp only at hSw); go_simp; (first | done | with_reducible rfl))
                try simp only [Act.put, List.setIfInBounds_toArray, List.set_cons_zero, List.set_cons_succ]
                refine takeL (i := 23) (v := ?_) rfl (by kernel_rfl) (by kernel_rfl) (by kernel_rfl) (fun _ _ _ h => h) (.inl ⟨by rfl, ?_⟩) (by assumption) ?_
                rotate_left
                · (intro w hSw; (try dsimp only at hSw); go_simp; (first | done | with_reducible rfl))
                try simp only [Act.put, List.setIfInBounds_toArray, List.set_cons_zero, List.set_cons_succ]
                refine takeL (i := 24) (v := ?_) rfl (by kernel_rfl) (by kernel_rfl) (by kernel_rfl) (fun _ _ _ h => h) (.inl ⟨by rfl, ?_⟩) (by assumption) ?_
                rotate_left
                · (intro w hSw; (try dsimp only at hSw); go_simp; (first | done | with_reducible rfl))
                try simp only [Act.put, List.setIfInBounds_toArray, List.set_cons_zero, List.set_cons_succ]
                refine takeL (i := 25) (v := ?_) rfl (by kernel_rfl) (by kernel_rfl) (by kernel_rfl) (fun _ _ _ h => h) (.inl ⟨by rfl, ?_⟩) (by assumption) ?_
                rotate_left
                · (intro w hSw; (try dsimp only at hSw); go_simp; (first | done | with_reducible rfl))
                try simp only [Act.put, List.setIfInBounds_toArray, List.set_cons_zero, List.set_cons_succ]
                refine stepL (i := 18) rfl (by kernel_rfl) (fun K hK => ?_)
                go_simp
                go_at_call 47
                refine (HSY.out _ HB0.out).mono ?_
                rintro e w10 ⟨rfl, hb⟩
                have HC1 : Hid (Below w8.heap.size w8 w10) := Lib.hid (HB0.out.trans (hb.mono HB0.out.size))
                clear hb
                go_wp2_with fail
                refine hK.out _ _ (cell_later HC1.out HDZ.out) (fun hHeld => ?_)
                clear hK K
                try simp only [Act.put, List.setIfInBounds_toArray, List.set_cons_zero, List.set_cons_succ]
                refine stepL (i := 26) rfl (by kernel_rfl) (fun K hK => ?_)
                go_simp
                go_at_call 48
                refine (HSI.out _ HC1.out).mono ?_
                rintro e w11 ⟨rfl, hb⟩
                have HC2 : Hid (Below w8.heap.size w8 w11) := Lib.hid (HC1.out.trans (hb.mono HC1.out.size))
                clear hb
                go_wp2_with fail
                refine hK.out _ _ (cell_later HC2.out HDZ.out) (fun hHeld => ?_)
                clear hK K
                try simp only [Act.put, List.setIfInBounds_toArray, List.set_cons_zero, List.set_cons_succ]
                refine takeL (i := 27) (v := ?_) rfl (by kernel_rfl) (by kernel_rfl) (by kernel_rfl) (fun _ _ _ h => h) (.inl ⟨by rfl, ?_⟩) (by assumption) ?_
                rotate_left
                · (intro w hSw; (try dsimp only at hSw); go_simp; (first | done | with_reducible rfl))
                try simp only [Act.put, List.setIfInBounds_toArray, List.set_cons_zero, List.set_cons_succ]
                refine takeL (i := 28) (v := ?_) rfl (by kernel_rfl) (by kernel_rfl) (by kernel_rfl) (fun _ _ _ h => h) (.inl ⟨by rfl, ?_⟩) (by assumption) ?_
                rotate_left
                · (intro w hSw; (try dsimp only at hSw); go_simp; (first | done | with_reducible rfl))
                try simp only [Act.put, List.setIfInBounds_toArray, List.set_cons_zero, List.set_cons_succ]
                refine takeL (i := 29) (v := ?_) rfl (by kernel_rfl) (by kernel_rfl) (by kernel_rfl) (fun _ _ _ h => h) (.inl ⟨by rfl, ?_⟩) (by assumption) ?_
                rotate_left
                · (intro w hSw; (try dsimp only at hSw); go_simp; (first | done | with_reducible rfl))
                try simp only [Act.put, List.setIfInBounds_toArray, List.set_cons_zero, List.set_cons_succ]
                refine stepL (i := 30) rfl (by kernel_rfl) (fun K hK => ?_)
                go_simp
                go_at_call 21
                refine (HAW.out _ HC2.out).mono ?_
                rintro e w20 ⟨rfl, hb⟩
                have HFIN : Hid (Below w.heap.size w w20) := Lib.hid ((HX8.out.below HC2.out).be.trans (hb.mono (HX8.out.below HC2.out).be.size))
                have hb9 := Lib.hid hb
                clear hb
                go_wp2_with fail
                refine hK.out _ _ (cell_later (HC2.out.trans (hb9.out.mono HC2.out.size)) HDZ.out) (fun hHeld => ?_)
                clear hK K
                try simp only [Act.put, List.setIfInBounds_toArray, List.set_cons_zero, List.set_cons_succ]
                refine takeL (i := 31) (v := ?_) rfl (by kernel_rfl) (by kernel_rfl) (by kernel_rfl) (fun _ _ _ h => h) (.inl ⟨by rfl, ?_⟩) (by assumption) ?_
                rotate_left
                · (intro w hSw; (try dsimp only at hSw); go_simp; (first | done | with_reducible rfl))
                try simp only [Act.put, List.setIfInBounds_toArray, List.set_cons_zero, List.set_cons_succ]
                refine stepL (i := 32) rfl (by kernel_rfl) (fun K hK => ?_)
                go_simp
                refine hK.out _ _ (cell_later (HC2.out.trans (hb9.out.mono HC2.out.size)) HDZ.out) (fun hHeld => ?_)
                clear hK K
                try simp only [Act.put, List.setIfInBounds_toArray, List.set_cons_zero, List.set_cons_succ]
                refine wpAnyH_done (by kernel_rfl) ?_ _
                clear hHeld
                go_wp2_with fail
                exact bodyPost_ret (v := .bool true) (by simp [results]) rfl ⟨rfl, HFIN.out⟩
end Go.Proofs.YthehpafkaefohaaGreatDoor

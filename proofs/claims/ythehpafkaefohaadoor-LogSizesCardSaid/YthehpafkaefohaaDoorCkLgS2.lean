/- The law LogSizes walked. Conditions: the library's variables read as they are laid. -/
import Derived.Test.YthehpafkaefohaaDoorCkLgS1
namespace Go.Proofs.YthehpafkaefohaaDoor
open Go.RowKit
theorem full_one (dk : DkSt) (lg : LgSt) (h : lg.firsts ≠ []) : fullL dk lg = decide (lg.size ≤ sizeF dk (fileL lg)) := by unfold fullL; simp [h]
theorem full_none (dk : DkSt) (lg : LgSt) (h : lg.firsts = []) : fullL dk lg = true := by unfold fullL; simp [h]
theorem neq_name (s : ByteArray) : (s.toList != s.toList) = false := by simp
set_option maxRecDepth 20000 in
set_option maxHeartbeats 8000000 in
theorem logSizes_any (size : Int) (z0 : -9223372036854775808 ≤ size) (z1 : size ≤ 9223372036854775807) (vb : Value) (bs : List (List (List UInt8))) (w : World) (hrb : RdLL w vb bs) (hg : GOK w) :
    Calls Tryd.prog 3 #[vb, .int .i64 size] w fun e w' => e = .returned (.bool true) ∧ Below w.heap.size w w' := by
  have HG := Lib.hid hg
  have HRB := Lib.hid hrb
  obtain ⟨A, c, rfl, _, _⟩ := hrb.form
  obtain ⟨n, hn⟩ : ∃ n, bs.length = n := ⟨_, rfl⟩
  have HN := Lib.hid hn
  rw [hn] at HRB ⊢
  have hps0 := Int.emod_nonneg size (show (300 : Int) ≠ 0 by omega)
  have hps1 := Int.emod_lt_of_pos size (show (0 : Int) < 300 by omega)
  have HPK := Lib.hid (pick_any size 300 w (by omega) (by omega) z0 z1)
  obtain ⟨ps, hps⟩ : ∃ x, size % 300 = x := ⟨_, rfl⟩
  rw [hps] at hps0 hps1 HPK
  have e3 : IntKind.i64.wrap (64 + ps) = 64 + ps := by rw [IntKind.wrap_i64]; omega
  obtain ⟨sz, hsz⟩ : ∃ x, 64 + ps = x := ⟨_, rfl⟩
  have hz0 : 64 ≤ sz ∧ sz ≤ 1000 := by omega
  rw [hsz] at e3
  obtain ⟨W1, hW1⟩ : ∃ x, w.alloc (.cells #[.pointer none, .pointer none] 25) = x := ⟨_, rfl⟩
  obtain ⟨W2, hW2⟩ : ∃ x, W1.alloc (.cells #[.pointer none, .pointer none] 27) = x := ⟨_, rfl⟩
  have hb1 : Below w.heap.size w W1 := by rw [← hW1]; exact below1 w _
  have hb2 : Below W1.heap.size W1 W2 := by rw [← hW2]; exact below1 W1 _
  have kd : W1.heap[w.heap.size]? = some (.cells #[.pointer none, .pointer none] 25) := by rw [← hW1]; exact alloc_at _ _
  have kl : W2.heap[W1.heap.size]? = some (.cells #[.pointer none, .pointer none] 27) := by rw [← hW2]; exact alloc_at _ _
  have hbd : Below w.heap.size w W2 := hb1.trans (hb2.mono hb1.size)
  have kd2 := blk_below hb2 kd
  have hbw1 := hb1.size
  have hdl : w.heap.size ≠ W1.heap.size := by have := blk_lt kd; omega
  have HBW := Lib.hid hbd
  have HKD := Lib.hid kd2
  have HKL := Lib.hid kl
  clear hg hrb hn hps z0 z1 hb1 hb2 kd kl hbd kd2
  go_enter Tryd.func3, Tryd.ntmps3
  go_wp2_with fail
  refine HPK.out.mono ?_
  rintro e w1 ⟨rfl, hw⟩
  subst hw
  go_wp2_with fail
  refine wp_loop_rounds 3 ?_
  rw [rounds_succ]
  clear hW1 hW2
  go_wp2_with fail
  refine (new_any 1048576 W2 (by omega) (by omega)).mono ?_
  rintro e w3 ⟨rfl, hd, hb3⟩
  have HD := Lib.hid hd
  have HB3 := Lib.hid hb3
  clear hd hb3
  go_wp2_with fail
  refine (begin_ok HD.out (new_ok 1048576 (by omega) (by omega)) (by simp [newSt]) sz 0 (by omega) (by omega) (by omega) (by omega)).mono ?_
  rintro e w4 ⟨l0, S0, rfl, _, hlb, hsub, hc⟩
  obtain ⟨hx0, hge0, hb4⟩ := AX.open HG.out HBW.out HB3.out hlb hsub hc
  have kd4 := blk_below hb4 HKD.out
  have kl4 := blk_below hb4 HKL.out
  have cd4 := blk_cell kd4 0
  have cl4 := blk_cell kl4 0
  have fd4 := blk_free kd4 0
  have fl4 := blk_free kl4 0
  simp at cd4 cl4
  obtain ⟨d0, hd0⟩ : ∃ x, W2.heap.size = x := ⟨_, rfl⟩
  rw [hd0] at hx0
  have kd5 := blk_set kd4 0 (.pointer (some ⟨d0, 0, none⟩))
  have kl5' : (w4.setCell ⟨w.heap.size, 0, none⟩ (.pointer (some ⟨d0, 0, none⟩))).heap[W1.heap.size]? = _ := (Below.heap_setCell _ _ _ _ (Ne.symm hdl)).trans kl4
  have kl5 := blk_set kl5' 0 (.pointer (some ⟨l0, 0, none⟩))
  have kd5' : ((w4.setCell ⟨w.heap.size, 0, none⟩ (.pointer (some ⟨d0, 0, none⟩))).setCell ⟨W1.heap.size, 0, none⟩ (.pointer (some ⟨l0, 0, none⟩))).heap[w.heap.size]? = _ := (Below.heap_setCell _ _ _ _ hdl).trans kd5
  have hx5 := (hx0.setOut (o := 0) (z := .pointer (some ⟨d0, 0, none⟩)) kd4 (Nat.le_refl _) (by decide) (by decide)).setOut (o := 0) (z := .pointer (some ⟨l0, 0, none⟩)) kl5' hbw1 (by decide) (by decide)
  have HX5 := Lib.hid hx5
  have HK5 := Lib.hid (And.intro kd5' kl5)
  clear hlb hsub hc hx0 hge0 hb4 kd4 kl4 kd5 kl5' kl5 kd5' hx5 HD HB3 HKD HKL
  go_wp2
  rw [rounds_succ]
  clear hd0 cd4 cl4 fd4 fl4
  obtain ⟨w5, hw5⟩ : ∃ x, ((w4.setCell ⟨w.heap.size, 0, none⟩ (.pointer (some ⟨d0, 0, none⟩))).setCell ⟨W1.heap.size, 0, none⟩ (.pointer (some ⟨l0, 0, none⟩))) = x := ⟨_, rfl⟩
  rw [hw5] at HX5 HK5 ⊢
  clear hw5
  go_wp2_with fail
  refine (new_any 1048576 w5 (by omega) (by omega)).mono ?_
  rintro e w6 ⟨rfl, hd, hb6⟩
  have HD := Lib.hid hd
  have HB6 := Lib.hid hb6
  clear hd hb6
  go_wp2_with fail
  refine (begin_ok HD.out (new_ok 1048576 (by omega) (by omega)) (by simp [newSt]) sz 0 (by omega) (by omega) (by omega) (by omega)).mono ?_
  rintro e w7 ⟨l1, S1, rfl, _, hlb, hsub, hc⟩
  obtain ⟨hx1, hge1, hb7⟩ := AX.open HG.out HX5.out.be HB6.out hlb hsub hc
  have hx7 := HX5.out.below hb7
  have hdj : ∀ x ∈ S0, x ∉ S1 := fun x hx hm => by
    have h1 := HX5.out.lb.lt x hx
    have h2 := hge1 x hm
    omega
  have kd7 := blk_below hb7 HK5.out.1
  have kl7 := blk_below hb7 HK5.out.2
  simp only [List.setIfInBounds_toArray, List.set_cons_zero] at kd7 kl7
  have cd7 := blk_cell kd7 1
  have cl7 := blk_cell kl7 1
  have fd7 := blk_free kd7 1
  have fl7 := blk_free kl7 1
  simp at cd7 cl7
  obtain ⟨d1, hd1⟩ : ∃ x, w5.heap.size = x := ⟨_, rfl⟩
  rw [hd1] at hx1
  have kd8 := blk_set kd7 1 (.pointer (some ⟨d1, 0, none⟩))
  have kl8' : (w7.setCell ⟨w.heap.size, 1, none⟩ (.pointer (some ⟨d1, 0, none⟩))).heap[W1.heap.size]? = _ := (Below.heap_setCell _ _ _ _ (Ne.symm hdl)).trans kl7
  have kl8 := blk_set kl8' 1 (.pointer (some ⟨l1, 0, none⟩))
  have kd8' : ((w7.setCell ⟨w.heap.size, 1, none⟩ (.pointer (some ⟨d1, 0, none⟩))).setCell ⟨W1.heap.size, 1, none⟩ (.pointer (some ⟨l1, 0, none⟩))).heap[w.heap.size]? = _ := (Below.heap_setCell _ _ _ _ hdl).trans kd8
  have ha8 := (hx7.setOut (o := 1) (z := .pointer (some ⟨d1, 0, none⟩)) kd7 (Nat.le_refl _) (by decide) (by decide)).setOut (o := 1) (z := .pointer (some ⟨l1, 0, none⟩)) kl8' hbw1 (by decide) (by decide)
  have hb8 := (hx1.setOut (o := 1) (z := .pointer (some ⟨d1, 0, none⟩)) kd7 (Nat.le_refl _) (by decide) (by decide)).setOut (o := 1) (z := .pointer (some ⟨l1, 0, none⟩)) kl8' hbw1 (by decide) (by decide)
  have HY8 := Lib.hid (AY.mk ha8 hb8 hdj)
  have HK8 := Lib.hid (And.intro kd8' kl8)
  clear hlb hsub hc hx1 hge1 hb7 hx7 kd7 kl7 kd8 kl8' kl8 kd8' ha8 hb8 hdj HD HB6 HX5 HK5
  go_wp2
  rw [rounds_succ]
  clear hd1 cd7 cl7 fd7 fl7
  obtain ⟨w8, hw8⟩ : ∃ x, ((w7.setCell ⟨w.heap.size, 1, none⟩ (.pointer (some ⟨d1, 0, none⟩))).setCell ⟨W1.heap.size, 1, none⟩ (.pointer (some ⟨l1, 0, none⟩))) = x := ⟨_, rfl⟩
  rw [hw8] at HY8 HK8 ⊢
  clear hw8
  have HK9 : Hid (w8.heap[w.heap.size]? = some (.cells #[.pointer (some ⟨d0, 0, none⟩), .pointer (some ⟨d1, 0, none⟩)] 25) ∧ w8.heap[W1.heap.size]? = some (.cells #[.pointer (some ⟨l0, 0, none⟩), .pointer (some ⟨l1, 0, none⟩)] 27)) := by
    have h1 := HK8.out
    simp only [List.setIfInBounds_toArray, List.set_cons_zero, List.set_cons_succ] at h1
    exact h1
  have HP0 := Lib.hid (pair_start sz)
  obtain ⟨bl, hbl⟩ : ∃ x, W1.heap.size = x := ⟨_, rfl⟩
  rw [hbl] at HK9 ⊢
  clear HK8 HBW
  have hnew : newSt 1048576 = ⟨[], 1048576, -1, false⟩ := rfl
  rw [hnew] at HY8
  obtain ⟨dkS0, hdkS⟩ : ∃ x : DkSt, (⟨[], 1048576, -1, false⟩ : DkSt) = x := ⟨_, rfl⟩
  obtain ⟨lgS0, hlgS⟩ : ∃ x : LgSt, (⟨sz, [], 0, 0, false⟩ : LgSt) = x := ⟨_, rfl⟩
  rw [hdkS, hlgS] at HY8 HP0
  have HSZ0 : Hid (lgS0.size = sz) := by show _ = _; rw [← hlgS]
  clear hdkS hlgS hnew
  go_wp2_with fail
  clear hbl
  go_loopw [12] (fun i wr => ∃ (k q : Nat) (k0 k1 : DkSt) (g0 g1 : LgSt) (S0 S1 : List Nat), i = .int .i64 k ∧ k ≤ n ∧ k ≤ 40 ∧ Hid (LgPair q k0 g0 k1 g1) ∧ Hid (q ≤ k ∧ g0.size = sz) ∧ Hid (AY w wr d0 l0 k0 g0 S0 d1 l1 k1 g1 S1) ∧ Hid (wr.heap[w.heap.size]? = some (.cells #[.pointer (some ⟨d0, 0, none⟩), .pointer (some ⟨d1, 0, none⟩)] 25) ∧ wr.heap[bl]? = some (.cells #[.pointer (some ⟨l0, 0, none⟩), .pointer (some ⟨l1, 0, none⟩)] 27))) (fun i _ => n - (intOf i).toNat)
  case atStart => exact ⟨0, 0, dkS0, dkS0, lgS0, lgS0, S0, S1, rfl, Nat.zero_le _, Nat.zero_le _, HP0, Lib.hid ⟨Nat.le_refl _, HSZ0.out⟩, HY8, HK9⟩
  case round =>
    obtain ⟨k, q, k0, k1, g0, g1, S0, S1, rfl, hk, hk40, HPR, HQ, HY, HK⟩ := hrel
    obtain ⟨C, hC⟩ : ∃ C, (decide (k < n) && decide (k < 40)) = C := ⟨_, rfl⟩
    have HC := Lib.hid hC
    clear hC
    go_upto_region 13 with fail
    go_cut [62] (fun u wx => u = .bool C ∧ wr = wx)
    case first =>
      by_cases c1 : k < n
      · have k1i : (k : Int) < n := by omega
        by_cases c2 : k < 40
        · have k2i : (k : Int) < 40 := by omega
          go_wp2_with fail
          go_meet
          exact ⟨by rw [← HC.out]; simp [c1, c2], rfl⟩
        · have k2i : ¬ (k : Int) < 40 := by omega
          go_wp2_with fail
          go_meet
          exact ⟨by rw [← HC.out]; simp [c2], rfl⟩
      · have k1i : ¬ (k : Int) < n := by omega
        go_wp2_with fail
        go_meet
        exact ⟨by rw [← HC.out]; simp [c1], rfl⟩
    case rest =>
      obtain ⟨rfl, rfl⟩ := hcut
      cases C with
      | true =>
        have hc := HC.out
        simp only [Bool.and_eq_true, decide_eq_true_eq] at hc
        obtain ⟨c1, c2⟩ := hc
        go_upto_region 15 with fail
        have k1i : (k : Int) < n := by omega
        obtain ⟨x, hx⟩ : ∃ x, bs[k]? = some x := ⟨_, List.getElem?_eq_getElem (by rw [HN.out]; exact c1)⟩
        obtain ⟨bb, o, u, hA, dw, hru⟩ := HRB.out.at hx
        subst hA
        have dr := cell_later HY.out.a.be dw
        have hrx := hru.below HY.out.a.be
        obtain ⟨Au, cu, rfl, _, _⟩ := hru.form
        obtain ⟨Lx, hLx⟩ : ∃ L, x.length = L := ⟨_, rfl⟩
        obtain ⟨sm, hsm0⟩ : ∃ q, smallV x = q := ⟨_, rfl⟩
        have hsm := small_any _ x wr hrx
        rw [hsm0] at hsm
        rw [hLx] at hrx dr hsm hru dw
        have HSMA := Lib.hid hsm
        have HRU := Lib.hid hru
        have HLX := Lib.hid hLx
        have HSV := Lib.hid hsm0
        have HDW := Lib.hid dw
        clear hx dw hru hrx hsm hLx hsm0
        by_cases hx0 : Lx = 0
        · have hx1 : ((Lx : Int) == 0) = true := by simp [hx0]
          clear hx0
          go_wp2
          first
          | exact ⟨⟨k + 1, q, k0, k1, g0, g1, S0, S1, by go_num, by omega, by omega, HPR, Lib.hid ⟨by have := HQ.out.1; omega, HQ.out.2⟩, HY, HK⟩, by simp [intOf]; omega⟩
          | (go_roundw
             case rel => exact ⟨k + 1, q, k0, k1, g0, g1, S0, S1, by go_num, by omega, by omega, HPR, Lib.hid ⟨by have := HQ.out.1; omega, HQ.out.2⟩, HY, HK⟩
             case measure => simp [intOf]; omega)
        · have hx1 : ((Lx : Int) == 0) = false := by simp [hx0]
          cases sm with
          | false =>
            clear hx0
            go_wp2_with (go_at_call 7; (with_reducible refine HSMA.out.mono ?_); rintro e w' ⟨rfl, hw⟩; subst hw)
            first
            | exact ⟨⟨k + 1, q, k0, k1, g0, g1, S0, S1, by go_num, by omega, by omega, HPR, Lib.hid ⟨by have := HQ.out.1; omega, HQ.out.2⟩, HY, HK⟩, by simp [intOf]; omega⟩
            | (go_roundw
               case rel => exact ⟨k + 1, q, k0, k1, g0, g1, S0, S1, by go_num, by omega, by omega, HPR, Lib.hid ⟨by have := HQ.out.1; omega, HQ.out.2⟩, HY, HK⟩
               case measure => simp [intOf]; omega)
          | true =>
            have hsx : smallB x := by
              obtain ⟨s1, s2⟩ := (smallV_iff x).1 HSV.out
              exact ⟨by rw [HLX.out]; omega, s1, s2⟩
            have HSX := Lib.hid hsx
            have dl0 : wr.cell? ⟨bl, 0, none⟩ = some (.pointer (some ⟨l0, 0, none⟩)) := by rw [blk_cell HK.out.2]; rfl
            have hfew : g0.firsts.length ≤ 100 := by have := HPR.out.a.nfew; have := HQ.out.1; omega
            obtain ⟨K, hKK⟩ : ∃ K, g0.firsts.length = K := ⟨_, rfl⟩
            have hK100 : K ≤ 100 := by omega
            have HKK := Lib.hid hKK
            have HFL : Hid ((lFiles g0).length = K) := by show _ = _; unfold lFiles; rw [List.length_map, hKK]
            have HFI := Lib.hid (HY.out.a.files (by omega))
            clear hsx hKK hx0
            go_upto_region 16 with (go_at_call 7; (with_reducible refine HSMA.out.mono ?_); rintro e w' ⟨rfl, hw⟩; subst hw)
            go_wp2_with fail
            refine HFI.out.mono ?_
            rintro e w2 ⟨z2, rfl, hz2, hb2⟩
            obtain ⟨A2, c2', rfl, hc2, hm2⟩ := hz2.form
            rw [HFL.out] at hz2 hc2 ⊢
            have HZ2 := Lib.hid hz2
            have HB2 := Lib.hid hb2
            have HY2 := Lib.hid (HY.out.below hb2)
            have HK2 := Lib.hid (And.intro (blk_below hb2 HK.out.1) (blk_below hb2 HK.out.2))
            obtain ⟨F, hF⟩ : ∃ F, fullL k0 g0 = F := ⟨_, rfl⟩
            have HF := Lib.hid hF
            clear hz2 hb2 hF HFI HY HK dl0 dr
            go_upto_region 17 with fail
            go_cut [14] (fun u wx => u = .bool F ∧ Hid (Below w2.heap.size w2 wx))
            case first =>
              have dd0 : w2.cell? ⟨w.heap.size, 0, none⟩ = some (.pointer (some ⟨d0, 0, none⟩)) := by rw [blk_cell HK2.out.1]; rfl
              by_cases hK0 : K = 0
              · subst hK0
                have hF1 : F = true := by rw [← HF.out]; exact full_none _ _ (List.eq_nil_of_length_eq_zero HKK.out)
                subst hF1
                refine wp_region_all (fun _ => True) 17 (by kernel_rfl) rfl trivial (fun hHeld => ?_)
                refine takeL (i := 0) (v := ?_) rfl (by kernel_rfl) (by kernel_rfl) (by kernel_rfl) (fun _ _ _ h => h) (.inl ⟨by rfl, ?_⟩) (by assumption) ?_
                rotate_left
                · (intro w hSw; (try dsimp only at hSw); go_simp; (first | done | with_reducible rfl))
                try simp only [Act.put, List.setIfInBounds_toArray, List.set_cons_zero, List.set_cons_succ]
                refine takeL (i := 1) (v := ?_) rfl (by kernel_rfl) (by kernel_rfl) (by kernel_rfl) (fun _ _ _ h => h) (.inl ⟨by rfl, ?_⟩) (by assumption) ?_
                rotate_left
                · (intro w hSw; (try dsimp only at hSw); go_simp; (first | done | with_reducible rfl))
                try simp only [Act.put, List.setIfInBounds_toArray, List.set_cons_zero, List.set_cons_succ]
                refine takeL (i := 2) (v := ?_) rfl (by kernel_rfl) (by kernel_rfl) (by kernel_rfl) (fun _ _ _ h => h) (.inl ⟨by rfl, ?_⟩) (by assumption) ?_
                rotate_left
                · (intro w hSw; (try dsimp only at hSw); go_simp; (first | done | with_reducible rfl))
                try simp only [Act.put, List.setIfInBounds_toArray, List.set_cons_zero, List.set_cons_succ]
                refine takeL (i := 3) (v := ?_) rfl (by kernel_rfl) (by kernel_rfl) (by kernel_rfl) (fun _ _ _ h => h) (.inl ⟨by rfl, ?_⟩) (by assumption) ?_
                rotate_left
                · (intro w hSw; (try dsimp only at hSw); go_simp; (first | done | with_reducible rfl))
                try simp only [Act.put, List.setIfInBounds_toArray, List.set_cons_zero, List.set_cons_succ]
                refine takeL (i := 4) (v := undef) rfl (by kernel_rfl) (by kernel_rfl) (by kernel_rfl) (fun _ _ _ h => h) (.inr ⟨by rfl, rfl⟩) (by assumption) ?_
                try simp only [Act.put, List.setIfInBounds_toArray, List.set_cons_zero, List.set_cons_succ]
                refine takeL (i := 5) (v := undef) rfl (by kernel_rfl) (by kernel_rfl) (by kernel_rfl) (fun _ _ _ h => h) (.inr ⟨by rfl, rfl⟩) (by assumption) ?_
                try simp only [Act.put, List.setIfInBounds_toArray, List.set_cons_zero, List.set_cons_succ]
                refine takeL (i := 6) (v := undef) rfl (by kernel_rfl) (by kernel_rfl) (by kernel_rfl) (fun _ _ _ h => h) (.inr ⟨by rfl, rfl⟩) (by assumption) ?_
                try simp only [Act.put, List.setIfInBounds_toArray, List.set_cons_zero, List.set_cons_succ]
                refine takeL (i := 7) (v := undef) rfl (by kernel_rfl) (by kernel_rfl) (by kernel_rfl) (fun _ _ _ h => h) (.inr ⟨by rfl, rfl⟩) (by assumption) ?_
                try simp only [Act.put, List.setIfInBounds_toArray, List.set_cons_zero, List.set_cons_succ]
                refine takeL (i := 8) (v := undef) rfl (by kernel_rfl) (by kernel_rfl) (by kernel_rfl) (fun _ _ _ h => h) (.inr ⟨by rfl, rfl⟩) (by assumption) ?_
                try simp only [Act.put, List.setIfInBounds_toArray, List.set_cons_zero, List.set_cons_succ]
                refine takeL (i := 9) (v := undef) rfl (by kernel_rfl) (by kernel_rfl) (by kernel_rfl) (fun _ _ _ h => h) (.inr ⟨by rfl, rfl⟩) (by assumption) ?_
                try simp only [Act.put, List.setIfInBounds_toArray, List.set_cons_zero, List.set_cons_succ]
                refine takeL (i := 10) (v := undef) rfl (by kernel_rfl) (by kernel_rfl) (by kernel_rfl) (fun _ _ _ h => h) (.inr ⟨by rfl, rfl⟩) (by assumption) ?_
                try simp only [Act.put, List.setIfInBounds_toArray, List.set_cons_zero, List.set_cons_succ]
                refine takeL (i := 11) (v := undef) rfl (by kernel_rfl) (by kernel_rfl) (by kernel_rfl) (fun _ _ _ h => h) (.inr ⟨by rfl, rfl⟩) (by assumption) ?_
                try simp only [Act.put, List.setIfInBounds_toArray, List.set_cons_zero, List.set_cons_succ]
                refine takeL (i := 13) (v := undef) rfl (by kernel_rfl) (by kernel_rfl) (by kernel_rfl) (fun _ _ _ h => h) (.inr ⟨by rfl, rfl⟩) (by assumption) ?_
                try simp only [Act.put, List.setIfInBounds_toArray, List.set_cons_zero, List.set_cons_succ]
                refine takeL (i := 12) (v := undef) rfl (by kernel_rfl) (by kernel_rfl) (by kernel_rfl) (fun _ _ _ h => h) (.inr ⟨by rfl, rfl⟩) (by assumption) ?_
                try simp only [Act.put, List.setIfInBounds_toArray, List.set_cons_zero, List.set_cons_succ]
                refine takeL (i := 14) (v := undef) rfl (by kernel_rfl) (by kernel_rfl) (by kernel_rfl) (fun _ _ _ h => h) (.inr ⟨by rfl, rfl⟩) (by assumption) ?_
                try simp only [Act.put, List.setIfInBounds_toArray, List.set_cons_zero, List.set_cons_succ]
                refine takeL (i := 15) (v := ?_) rfl (by kernel_rfl) (by kernel_rfl) (by kernel_rfl) (fun _ _ _ h => h) (.inl ⟨by rfl, ?_⟩) (by assumption) ?_
                rotate_left
                · (intro w hSw; (try dsimp only at hSw); go_simp; (first | done | with_reducible rfl))
                try simp only [Act.put, List.setIfInBounds_toArray, List.set_cons_zero, List.set_cons_succ]
                refine stepL (i := 16) rfl (by kernel_rfl) (fun K hK => ?_)
                go_simp
                refine hK.out _ _ trivial (fun hHeld => ?_)
                clear hK K
                try simp only [Act.put, List.setIfInBounds_toArray, List.set_cons_zero, List.set_cons_succ]
                refine wpAnyH_done (by kernel_rfl) ?_ _
                clear hHeld
                go_wp2_with fail
                go_meet
                exact ⟨rfl, Lib.hid (Below.refl _ _).drew⟩
              · obtain ⟨t, rfl⟩ : ∃ t, K = t + 1 := ⟨K - 1, by omega⟩
                have hne : g0.firsts ≠ [] := fun e => by have := HKK.out; rw [e] at this; simp at this
                have hF1 := full_one k0 g0 hne
                rw [HF.out] at hF1
                have hlast := lFiles_last hne
                rw [HKK.out, Nat.add_sub_cancel] at hlast
                obtain ⟨bz, oz, hA, dz⟩ := HZ2.out.at hlast
                subst hA
                have hsi := HY2.out.a.size HPR.out.a.ok (fileL g0)
                obtain ⟨nm, hnm⟩ : ∃ nm, fileL g0 = nm := ⟨_, rfl⟩
                rw [hnm] at hsi dz hF1
                obtain ⟨V, hV⟩ : ∃ V, sizeF k0 nm = V := ⟨_, rfl⟩
                rw [hV] at hF1
                have HSI := Lib.hid (fun w3 (hb3 : Below w2.heap.size w2 w3) => hV ▸ (HY2.out.a.below hb3).size HPR.out.a.ok nm)
                rw [HQ.out.2] at hF1
                subst hF1
                have e5 : IntKind.i64.wrap ((t : Int) + 1 - 1) = (t : Int) := by rw [IntKind.wrap_i64]; omega
                have e6 : IntKind.i64.wrap (t : Int) = (t : Int) := by rw [IntKind.wrap_i64]; omega
                have e7 : ((t : Int) + 1 == 0) = false := by simp; omega
                have e8 : (t : Int) < (t : Int) + 1 := by omega
                have e9 : (0 : Int) ≤ (t : Int) := by omega
                have HB0 := Lib.hid (Below.refl w2.heap.size w2)
                clear hne hlast hsi hnm hV
                refine wp_region_all (fun w' => w'.cell? ⟨w.heap.size, 0, none⟩ = some (.pointer (some ⟨d0, 0, none⟩)) ∧ w'.cell? ⟨bz, oz + t, none⟩ = some (.string nm)) 17 (by kernel_rfl) rfl ⟨dd0, dz⟩ (fun hHeld => ?_)
                refine takeL (i := 0) (v := ?_) rfl (by kernel_rfl) (by kernel_rfl) (by kernel_rfl) (fun _ _ _ h => h) (.inl ⟨by rfl, ?_⟩) (by assumption) ?_
                rotate_left
                · (intro w hSw; (try dsimp only at hSw); go_simp; (first | done | with_reducible rfl))
                try simp only [Act.put, List.setIfInBounds_toArray, List.set_cons_zero, List.set_cons_succ]
                refine takeL (i := 1) (v := ?_) rfl (by kernel_rfl) (by kernel_rfl) (by kernel_rfl) (fun _ _ _ h => h) (.inl ⟨by rfl, ?_⟩) (by assumption) ?_
                rotate_left
                · (intro w hSw; (try dsimp only at hSw); go_simp; (first | done | with_reducible rfl))
                try simp only [Act.put, List.setIfInBounds_toArray, List.set_cons_zero, List.set_cons_succ]
                refine takeL (i := 2) (v := ?_) rfl (by kernel_rfl) (by kernel_rfl) (by kernel_rfl) (fun _ _ _ h => h) (.inl ⟨by rfl, ?_⟩) (by assumption) ?_
                rotate_left
                · (intro w hSw; (try dsimp only at hSw); go_simp; (first | done | with_reducible rfl))
                try simp only [Act.put, List.setIfInBounds_toArray, List.set_cons_zero, List.set_cons_succ]
                refine takeL (i := 3) (v := ?_) rfl (by kernel_rfl) (by kernel_rfl) (by kernel_rfl) (fun _ _ _ h => h) (.inl ⟨by rfl, ?_⟩) (by assumption) ?_
                rotate_left
                · (intro w hSw; (try dsimp only at hSw); go_simp; (first | done | with_reducible rfl))
                try simp only [Act.put, List.setIfInBounds_toArray, List.set_cons_zero, List.set_cons_succ]
                refine takeL (i := 4) (v := ?_) rfl (by kernel_rfl) (by kernel_rfl) (by kernel_rfl) (fun _ _ _ h => h) (.inl ⟨by rfl, ?_⟩) (by assumption) ?_
                rotate_left
                · (intro w hSw; (try dsimp only at hSw); go_simp; (first | done | with_reducible rfl))
                try simp only [Act.put, List.setIfInBounds_toArray, List.set_cons_zero, List.set_cons_succ]
                refine takeL (i := 5) (v := ?_) rfl (by kernel_rfl) (by kernel_rfl) (by kernel_rfl) (fun _ _ _ h => h) (.inl ⟨by rfl, ?_⟩) (by assumption) ?_
                rotate_left
                · (intro w hSw; (try dsimp only at hSw); go_simp; (first | done | with_reducible rfl))
                try simp only [Act.put, List.setIfInBounds_toArray, List.set_cons_zero, List.set_cons_succ]
                refine takeL (i := 6) (v := ?_) rfl (by kernel_rfl) (by kernel_rfl) (by kernel_rfl) (fun _ _ _ h => h) (.inl ⟨by rfl, ?_⟩) (by assumption) ?_
                rotate_left
                · (intro w hSw; (try dsimp only at hSw); go_simp; (first | done | with_reducible rfl))
                try simp only [Act.put, List.setIfInBounds_toArray, List.set_cons_zero, List.set_cons_succ]
                refine takeL (i := 7) (v := ?_) rfl (by kernel_rfl) (by kernel_rfl) (by kernel_rfl) (fun _ _ _ h => h) (.inl ⟨by rfl, ?_⟩) (by assumption) ?_
                rotate_left
                · (intro w hSw; (try dsimp only at hSw); go_simp; (first | done | with_reducible rfl))
                try simp only [Act.put, List.setIfInBounds_toArray, List.set_cons_zero, List.set_cons_succ]
                refine takeL (i := 8) (v := ?_) rfl (by kernel_rfl) (by kernel_rfl) (by kernel_rfl) (fun _ _ _ h => h) (.inl ⟨by rfl, ?_⟩) (by assumption) ?_
                rotate_left
                · (intro w hSw; (try dsimp only at hSw); go_simp; (first | done | with_reducible rfl))
                try simp only [Act.put, List.setIfInBounds_toArray, List.set_cons_zero, List.set_cons_succ]
                refine takeL (i := 9) (v := ?_) rfl (by kernel_rfl) (by kernel_rfl) (by kernel_rfl) (fun _ _ _ h => h) (.inl ⟨by rfl, ?_⟩) (by assumption) ?_
                rotate_left
                · (intro w hSw; (try dsimp only at hSw); go_simp; (first | done | with_reducible rfl))
                try simp only [Act.put, List.setIfInBounds_toArray, List.set_cons_zero, List.set_cons_succ]
                refine takeL (i := 10) (v := ?_) rfl (by kernel_rfl) (by kernel_rfl) (by kernel_rfl) (fun _ _ _ h => h) (.inl ⟨by rfl, ?_⟩) (by assumption) ?_
                rotate_left
                · (intro w hSw; (try dsimp only at hSw); go_simp; (first | done | with_reducible rfl))
                try simp only [Act.put, List.setIfInBounds_toArray, List.set_cons_zero, List.set_cons_succ]
                refine takeL (i := 11) (v := ?_) rfl (by kernel_rfl) (by kernel_rfl) (by kernel_rfl) (fun _ _ _ h => h) (.inl ⟨by rfl, ?_⟩) (by assumption) ?_
                rotate_left
                · (intro w hSw; (try dsimp only at hSw); go_simp; (first | done | with_reducible rfl))
                try simp only [Act.put, List.setIfInBounds_toArray, List.set_cons_zero, List.set_cons_succ]
                refine takeL (i := 13) (v := ?_) rfl (by kernel_rfl) (by kernel_rfl) (by kernel_rfl) (fun _ _ _ h => h) (.inl ⟨by rfl, ?_⟩) (by assumption) ?_
                rotate_left
                · (intro w hSw; (try dsimp only at hSw); go_simp; (first | done | with_reducible rfl))
                try simp only [Act.put, List.setIfInBounds_toArray, List.set_cons_zero, List.set_cons_succ]
                refine stepL (i := 12) rfl (by kernel_rfl) (fun K hK => ?_)
                go_simp
                go_at_call 9
                refine (HSI.out _ HB0.out.drew).mono ?_
                rintro e w5 ⟨rfl, hb⟩
                have HB5 : Hid (Below w2.heap.size w2 w5) := Lib.hid (drewN_start (w := w2) (q := 1) hb)
                clear hb
                go_wp2_with fail
                refine hK.out _ _ ⟨cell_later HB5.out dd0, cell_later HB5.out dz⟩ (fun hHeld => ?_)
                clear hK K
                try simp only [Act.put, List.setIfInBounds_toArray, List.set_cons_zero, List.set_cons_succ]
                refine takeL (i := 14) (v := ?_) rfl (by kernel_rfl) (by kernel_rfl) (by kernel_rfl) (fun _ _ _ h => h) (.inl ⟨by rfl, ?_⟩) (by assumption) ?_
                rotate_left
                · (intro w hSw; (try dsimp only at hSw); go_simp; (first | done | with_reducible rfl))
                try simp only [Act.put, List.setIfInBounds_toArray, List.set_cons_zero, List.set_cons_succ]
                refine takeL (i := 15) (v := ?_) rfl (by kernel_rfl) (by kernel_rfl) (by kernel_rfl) (fun _ _ _ h => h) (.inl ⟨by rfl, ?_⟩) (by assumption) ?_
                rotate_left
                · (intro w hSw; (try dsimp only at hSw); go_simp; (first | done | with_reducible rfl))
                try simp only [Act.put, List.setIfInBounds_toArray, List.set_cons_zero, List.set_cons_succ]
                refine stepL (i := 16) rfl (by kernel_rfl) (fun K hK => ?_)
                go_simp
                refine hK.out _ _ ⟨cell_later HB5.out dd0, cell_later HB5.out dz⟩ (fun hHeld => ?_)
                clear hK K
                try simp only [Act.put, List.setIfInBounds_toArray, List.set_cons_zero, List.set_cons_succ]
                refine wpAnyH_done (by kernel_rfl) ?_ _
                clear hHeld
                go_wp2_with fail
                go_meet
                exact ⟨rfl, HB5⟩
            case rest =>
              obtain ⟨rfl, HBc⟩ := hcut
              have HYc := Lib.hid (HY2.out.below HBc.out)
              have HKc := Lib.hid (And.intro (blk_below HBc.out HK2.out.1) (blk_below HBc.out HK2.out.2))
              obtain ⟨hp1, hp2, hp3, hp4⟩ := HPR.out.write (by have := HQ.out.1; omega) HSX.out
              have hrxc := HRU.out.below HYc.out.a.be
              have hwr0 := write_any HYc.out.a.lb HPR.out.a.ok (by have := HPR.out.a.fuse; omega) HYc.out.a.gb (by have := HPR.out.a.lo; omega) (by have := HPR.out.a.hi; have := HQ.out.1; omega) (by omega) _ x hrxc (fun y hy => by have := HSX.out.2.2 y hy; omega)
              obtain ⟨r0, hr0⟩ : ∃ r, lWrite k0 g0 x = r := ⟨_, rfl⟩
              obtain ⟨r1, hr1⟩ : ∃ r, lWrite k1 g1 x = r := ⟨_, rfl⟩
              rw [hr0] at hwr0
              rw [hr0, hr1] at hp1
              rw [hr0] at hp2 hp4
              rw [hr1] at hp3
              obtain ⟨dk0, lg0, n0, e0⟩ := r0
              obtain ⟨dk1, lg1, n1, e1⟩ := r1
              simp only [Prod.mk.injEq] at hp2 hp3
              obtain ⟨rfl, rfl⟩ := hp2
              obtain ⟨rfl, rfl⟩ := hp3
              simp only at hp4
              obtain ⟨N, hNN⟩ : ∃ N, g0.last + 1 = N := ⟨_, rfl⟩
              rw [hNN] at hwr0 hr0 hr1 hp4
              have hwr0 : Calls Tryd.prog 10 _ wc (WrP d0 l0 S0 (dk0, lg0, N, 0) wc) := hwr0
              have HW0 := Lib.hid (fun w3 (hb3 : Below wc.heap.size wc w3) => (write_any (HYc.out.below hb3).a.lb HPR.out.a.ok (by have := HPR.out.a.fuse; omega) (HYc.out.below hb3).a.gb (by have := HPR.out.a.lo; omega) (by have := HPR.out.a.hi; have := HQ.out.1; omega) (by omega) _ x (hrxc.below hb3) (fun y hy => by have := HSX.out.2.2 y hy; omega)))
              rw [hr0] at HW0
              have HP1 := Lib.hid hp1
              have HSIZ : Hid (lg0.size = g0.size) := by
                obtain ⟨_, _, _, _, h5, _, _⟩ := write_ok HPR.out.a (Int.le_refl _) (by omega) (by have := HQ.out.1; omega) HSX.out
                rw [hr0] at h5
                exact h5
              have HFIR := Lib.hid hp4
              have HR1 := Lib.hid hr1
              have HNN := Lib.hid hNN
              have dl0 : wc.cell? ⟨bl, 0, none⟩ = some (.pointer (some ⟨l0, 0, none⟩)) := by rw [blk_cell HKc.out.2]; rfl
              have drc := cell_later HYc.out.a.be HDW.out
              clear hp1 hp4 hrxc hwr0 hr0 hr1 hNN HY2 HK2 HB2 HBc
              go_upto_region 18 with fail
              refine wp_region_all (fun w' => w'.cell? ⟨bl, 0, none⟩ = some (.pointer (some ⟨l0, 0, none⟩)) ∧ w'.cell? ⟨bb, o + k, none⟩ = some (.slice Au Lx cu)) 12 (by kernel_rfl) rfl ⟨dl0, drc⟩ (fun hHeld => ?_)
              refine takeL (i := 0) (v := ?_) rfl (by kernel_rfl) (by kernel_rfl) (by kernel_rfl) (fun _ _ _ h => h) (.inl ⟨by rfl, ?_⟩) (by assumption) ?_
              rotate_left
              · (intro w hSw; (try dsimp only at hSw); go_simp; (first | done | with_reducible rfl))
              try simp only [Act.put, List.setIfInBounds_toArray, List.set_cons_zero, List.set_cons_succ]
              refine takeL (i := 1) (v := ?_) rfl (by kernel_rfl) (by kernel_rfl) (by kernel_rfl) (fun _ _ _ h => h) (.inl ⟨by rfl, ?_⟩) (by assumption) ?_
              rotate_left
              · (intro w hSw; (try dsimp only at hSw); go_simp; (first | done | with_reducible rfl))
              try simp only [Act.put, List.setIfInBounds_toArray, List.set_cons_zero, List.set_cons_succ]
              refine takeL (i := 2) (v := ?_) rfl (by kernel_rfl) (by kernel_rfl) (by kernel_rfl) (fun _ _ _ h => h) (.inl ⟨by rfl, ?_⟩) (by assumption) ?_
              rotate_left
              · (intro w hSw; (try dsimp only at hSw); go_simp; (first | done | with_reducible rfl))
              try simp only [Act.put, List.setIfInBounds_toArray, List.set_cons_zero, List.set_cons_succ]
              refine takeL (i := 3) (v := ?_) rfl (by kernel_rfl) (by kernel_rfl) (by kernel_rfl) (fun _ _ _ h => h) (.inl ⟨by rfl, ?_⟩) (by assumption) ?_
              rotate_left
              · (intro w hSw; (try dsimp only at hSw); go_simp; (first | done | with_reducible rfl))
              try simp only [Act.put, List.setIfInBounds_toArray, List.set_cons_zero, List.set_cons_succ]
              refine takeL (i := 4) (v := ?_) rfl (by kernel_rfl) (by kernel_rfl) (by kernel_rfl) (fun _ _ _ h => h) (.inl ⟨by rfl, ?_⟩) (by assumption) ?_
              rotate_left
              · (intro w hSw; (try dsimp only at hSw); go_simp; (first | done | with_reducible rfl))
              try simp only [Act.put, List.setIfInBounds_toArray, List.set_cons_zero, List.set_cons_succ]
              refine takeL (i := 5) (v := ?_) rfl (by kernel_rfl) (by kernel_rfl) (by kernel_rfl) (fun _ _ _ h => h) (.inl ⟨by rfl, ?_⟩) (by assumption) ?_
              rotate_left
              · (intro w hSw; (try dsimp only at hSw); go_simp; (first | done | with_reducible rfl))
              try simp only [Act.put, List.setIfInBounds_toArray, List.set_cons_zero, List.set_cons_succ]
              refine stepL (i := 6) rfl (by kernel_rfl) (fun K hK => ?_)
              go_simp
              go_at_call 10
              refine (HW0.out _ (Below.refl _ _).drew).mono ?_
              rintro e w4 ⟨rfl, hl4⟩
              have hyd := HYc.out.below (below_drewN (Below.refl wc.heap.size wc) 1)
              obtain ⟨S4, hy4⟩ := hyd.step hl4
              have HY4 : Hid (AY w w4 d0 l0 dk0 lg0 S4 d1 l1 k1 g1 S1) := hy4
              have HK4 := Lib.hid (And.intro (hyd.a.blkO hl4 (b := w.heap.size) HKc.out.1 (by decide)) (hyd.a.blkO hl4 (b := bl) HKc.out.2 (by decide)))
              clear hl4 hy4 hyd
              go_wp2_with fail
              refine hK.out _ _ ⟨by rw [blk_cell HK4.out.2]; rfl, cell_later HY4.out.a.be HDW.out⟩ (fun hHeld => ?_)
              clear hK K
              try simp only [Act.put, List.setIfInBounds_toArray, List.set_cons_zero, List.set_cons_succ]
              refine takeL (i := 7) (v := ?_) rfl (by kernel_rfl) (by kernel_rfl) (by kernel_rfl) (fun _ _ _ h => h) (.inl ⟨by rfl, ?_⟩) (by assumption) ?_
              rotate_left
              · (intro w hSw; (try dsimp only at hSw); go_simp; (first | done | with_reducible rfl))
              try simp only [Act.put, List.setIfInBounds_toArray, List.set_cons_zero, List.set_cons_succ]
              refine takeL (i := 8) (v := ?_) rfl (by kernel_rfl) (by kernel_rfl) (by kernel_rfl) (fun _ _ _ h => h) (.inl ⟨by rfl, ?_⟩) (by assumption) ?_
              rotate_left
              · (intro w hSw; (try dsimp only at hSw); go_simp; (first | done | with_reducible rfl))
              try simp only [Act.put, List.setIfInBounds_toArray, List.set_cons_zero, List.set_cons_succ]
              refine takeL (i := 9) (v := ?_) rfl (by kernel_rfl) (by kernel_rfl) (by kernel_rfl) (fun _ _ _ h => h) (.inl ⟨by rfl, ?_⟩) (by assumption) ?_
              rotate_left
              · (intro w hSw; (try dsimp only at hSw); go_simp; (first | done | with_reducible rfl))
              try simp only [Act.put, List.setIfInBounds_toArray, List.set_cons_zero, List.set_cons_succ]
              refine stepL (i := 10) rfl (by kernel_rfl) (fun K hK => ?_)
              go_simp
              refine hK.out _ _ ⟨by rw [blk_cell HK4.out.2]; rfl, cell_later HY4.out.a.be HDW.out⟩ (fun hHeld => ?_)
              clear hK K
              try simp only [Act.put, List.setIfInBounds_toArray, List.set_cons_zero, List.set_cons_succ]
              refine stepL (i := 11) rfl (by kernel_rfl) (fun K hK => ?_)
              go_simp
              refine hK.out _ _ ⟨by rw [blk_cell HK4.out.2]; rfl, cell_later HY4.out.a.be HDW.out⟩ (fun hHeld => ?_)
              clear hK K
              try simp only [Act.put, List.setIfInBounds_toArray, List.set_cons_zero, List.set_cons_succ]
              refine wpAnyH_done (by kernel_rfl) ?_ _
              clear hHeld
              have hrx4 := HRU.out.below HY4.out.a.be
              have HW1 := Lib.hid (fun w3 (hb3 : Below w4.heap.size w4 w3) => (write_any (HY4.out.below hb3).b.lb HPR.out.b.ok (by have := HPR.out.b.fuse; omega) (HY4.out.below hb3).b.gb (by have := HPR.out.b.lo; omega) (by have := HPR.out.b.hi; have := HQ.out.1; omega) (by have := HPR.out.b.nfew; have := HQ.out.1; omega) _ x (hrx4.below hb3) (fun y hy => by have := HSX.out.2.2 y hy; omega)))
              rw [HR1.out] at HW1
              have dl4 : w4.cell? ⟨bl, 1, none⟩ = some (.pointer (some ⟨l1, 0, none⟩)) := by rw [blk_cell HK4.out.2]; rfl
              have dr4 := cell_later HY4.out.a.be HDW.out
              clear hrx4 HW0 HYc HKc dl0 drc
              go_upto_region 19 with fail
              refine wp_region_all (fun w' => w'.cell? ⟨bl, 1, none⟩ = some (.pointer (some ⟨l1, 0, none⟩)) ∧ w'.cell? ⟨bb, o + k, none⟩ = some (.slice Au Lx cu)) 12 (by kernel_rfl) rfl ⟨dl4, dr4⟩ (fun hHeld => ?_)
              refine takeL (i := 0) (v := ?_) rfl (by kernel_rfl) (by kernel_rfl) (by kernel_rfl) (fun _ _ _ h => h) (.inl ⟨by rfl, ?_⟩) (by assumption) ?_
              rotate_left
              · (intro w hSw; (try dsimp only at hSw); go_simp; (first | done | with_reducible rfl))
              try simp only [Act.put, List.setIfInBounds_toArray, List.set_cons_zero, List.set_cons_succ]
              refine takeL (i := 1) (v := ?_) rfl (by kernel_rfl) (by kernel_rfl) (by kernel_rfl) (fun _ _ _ h => h) (.inl ⟨by rfl, ?_⟩) (by assumption) ?_
              rotate_left
              · (intro w hSw; (try dsimp only at hSw); go_simp; (first | done | with_reducible rfl))
              try simp only [Act.put, List.setIfInBounds_toArray, List.set_cons_zero, List.set_cons_succ]
              refine takeL (i := 2) (v := ?_) rfl (by kernel_rfl) (by kernel_rfl) (by kernel_rfl) (fun _ _ _ h => h) (.inl ⟨by rfl, ?_⟩) (by assumption) ?_
              rotate_left
              · (intro w hSw; (try dsimp only at hSw); go_simp; (first | done | with_reducible rfl))
              try simp only [Act.put, List.setIfInBounds_toArray, List.set_cons_zero, List.set_cons_succ]
              refine takeL (i := 3) (v := ?_) rfl (by kernel_rfl) (by kernel_rfl) (by kernel_rfl) (fun _ _ _ h => h) (.inl ⟨by rfl, ?_⟩) (by assumption) ?_
              rotate_left
              · (intro w hSw; (try dsimp only at hSw); go_simp; (first | done | with_reducible rfl))
              try simp only [Act.put, List.setIfInBounds_toArray, List.set_cons_zero, List.set_cons_succ]
              refine takeL (i := 4) (v := ?_) rfl (by kernel_rfl) (by kernel_rfl) (by kernel_rfl) (fun _ _ _ h => h) (.inl ⟨by rfl, ?_⟩) (by assumption) ?_
              rotate_left
              · (intro w hSw; (try dsimp only at hSw); go_simp; (first | done | with_reducible rfl))
              try simp only [Act.put, List.setIfInBounds_toArray, List.set_cons_zero, List.set_cons_succ]
              refine takeL (i := 5) (v := ?_) rfl (by kernel_rfl) (by kernel_rfl) (by kernel_rfl) (fun _ _ _ h => h) (.inl ⟨by rfl, ?_⟩) (by assumption) ?_
              rotate_left
              · (intro w hSw; (try dsimp only at hSw); go_simp; (first | done | with_reducible rfl))
              try simp only [Act.put, List.setIfInBounds_toArray, List.set_cons_zero, List.set_cons_succ]
              refine stepL (i := 6) rfl (by kernel_rfl) (fun K hK => ?_)
              go_simp
              go_at_call 10
              refine (HW1.out _ (Below.refl _ _).drew).mono ?_
              rintro e w5 ⟨rfl, hl5⟩
              have hyd := HY4.out.below (below_drewN (Below.refl w4.heap.size w4) 1)
              obtain ⟨S5, hy5⟩ := hyd.step1 hl5
              have HY5 : Hid (AY w w5 d0 l0 dk0 lg0 S4 d1 l1 dk1 lg1 S5) := hy5
              have HK5 := Lib.hid (And.intro (hyd.b.blkO hl5 (b := w.heap.size) HK4.out.1 (by decide)) (hyd.b.blkO hl5 (b := bl) HK4.out.2 (by decide)))
              clear hl5 hy5 hyd
              go_wp2_with fail
              refine hK.out _ _ ⟨by rw [blk_cell HK5.out.2]; rfl, cell_later HY5.out.a.be HDW.out⟩ (fun hHeld => ?_)
              clear hK K
              try simp only [Act.put, List.setIfInBounds_toArray, List.set_cons_zero, List.set_cons_succ]
              refine takeL (i := 7) (v := ?_) rfl (by kernel_rfl) (by kernel_rfl) (by kernel_rfl) (fun _ _ _ h => h) (.inl ⟨by rfl, ?_⟩) (by assumption) ?_
              rotate_left
              · (intro w hSw; (try dsimp only at hSw); go_simp; (first | done | with_reducible rfl))
              try simp only [Act.put, List.setIfInBounds_toArray, List.set_cons_zero, List.set_cons_succ]
              refine takeL (i := 8) (v := ?_) rfl (by kernel_rfl) (by kernel_rfl) (by kernel_rfl) (fun _ _ _ h => h) (.inl ⟨by rfl, ?_⟩) (by assumption) ?_
              rotate_left
              · (intro w hSw; (try dsimp only at hSw); go_simp; (first | done | with_reducible rfl))
              try simp only [Act.put, List.setIfInBounds_toArray, List.set_cons_zero, List.set_cons_succ]
              refine takeL (i := 9) (v := ?_) rfl (by kernel_rfl) (by kernel_rfl) (by kernel_rfl) (fun _ _ _ h => h) (.inl ⟨by rfl, ?_⟩) (by assumption) ?_
              rotate_left
              · (intro w hSw; (try dsimp only at hSw); go_simp; (first | done | with_reducible rfl))
              try simp only [Act.put, List.setIfInBounds_toArray, List.set_cons_zero, List.set_cons_succ]
              refine stepL (i := 10) rfl (by kernel_rfl) (fun K hK => ?_)
              go_simp
              refine hK.out _ _ ⟨by rw [blk_cell HK5.out.2]; rfl, cell_later HY5.out.a.be HDW.out⟩ (fun hHeld => ?_)
              clear hK K
              try simp only [Act.put, List.setIfInBounds_toArray, List.set_cons_zero, List.set_cons_succ]
              refine stepL (i := 11) rfl (by kernel_rfl) (fun K hK => ?_)
              go_simp
              refine hK.out _ _ ⟨by rw [blk_cell HK5.out.2]; rfl, cell_later HY5.out.a.be HDW.out⟩ (fun hHeld => ?_)
              clear hK K
              try simp only [Act.put, List.setIfInBounds_toArray, List.set_cons_zero, List.set_cons_succ]
              refine wpAnyH_done (by kernel_rfl) ?_ _
              clear hHeld
              have HSY := Lib.hid (fun w3 (hb3 : Below w5.heap.size w5 w3) => logsync_any (HY5.out.below hb3).b.lb HP1.out.b.ok (by have := HP1.out.b.fuse; omega) (HY5.out.below hb3).b.gb)
              obtain ⟨hq1, hq2⟩ := HP1.out.sync
              obtain ⟨r2, hr2⟩ : ∃ r, lSync dk1 lg1 = r := ⟨_, rfl⟩
              rw [hr2] at HSY hq1 hq2
              obtain ⟨dk2, lg2, e2⟩ := r2
              simp only at hq1 hq2
              subst hq2
              have HP2 := Lib.hid hq1
              have hfew0 : lg0.firsts.length ≤ 1000000 := by have := HP1.out.a.nfew; have := HQ.out.1; omega
              have HFEW := Lib.hid hfew0
              have dl5 : w5.cell? ⟨bl, 0, none⟩ = some (.pointer (some ⟨l0, 0, none⟩)) ∧ w5.cell? ⟨bl, 1, none⟩ = some (.pointer (some ⟨l1, 0, none⟩)) := ⟨by rw [blk_cell HK5.out.2]; rfl, by rw [blk_cell HK5.out.2]; rfl⟩
              have hNv : (N != N) = false := by simp
              clear hq1 hr2 hfew0 HW1 HY4 HK4 dl4 dr4
              cases F with
              | true =>
                have hfi2 : lg0.firsts = g0.firsts ++ [N] := by rw [HFIR.out, if_pos HF.out]
                have hnl : (lFiles lg0).length = K + 1 := by unfold lFiles; rw [hfi2, List.length_map, List.length_append, HKK.out]; rfl
                have hat : (lFiles lg0)[K]? = some (nameL N) := by
                  unfold lFiles
                  rw [hfi2, List.getElem?_map, List.getElem?_append_right (by rw [HKK.out]; exact Nat.le_refl _), HKK.out, Nat.sub_self]
                  rfl
                obtain ⟨nm, hnm⟩ : ∃ nm, nameL N = nm := ⟨_, rfl⟩
                rw [hnm] at hat
                have HNM := Lib.hid hnm
                have HNL := Lib.hid hnl
                have HAT := Lib.hid hat
                have t1 : (K : Int) < (K : Int) + 1 := by omega
                have t2 : decide ((K : Int) < (K : Int) + 1) = true := decide_eq_true t1
                have t3 : (true != true) = false := rfl
                have t4 : (0 : Int) ≤ K := by omega
                have hnv := neq_name nm
                clear hfi2 hnl hat hnm
                go_upto_region 20 with fail
                refine wp_region_all (fun w' => w'.cell? ⟨bl, 0, none⟩ = some (.pointer (some ⟨l0, 0, none⟩)) ∧ w'.cell? ⟨bl, 1, none⟩ = some (.pointer (some ⟨l1, 0, none⟩))) 43 (by kernel_rfl) rfl dl5 (fun hHeld => ?_)
                refine takeL (i := 0) (v := ?_) rfl (by kernel_rfl) (by kernel_rfl) (by kernel_rfl) (fun _ _ _ h => h) (.inl ⟨by rfl, ?_⟩) (by assumption) ?_
                rotate_left
                · (intro w hSw; (try dsimp only at hSw); go_simp; (first | done | with_reducible rfl))
                try simp only [Act.put, List.setIfInBounds_toArray, List.set_cons_zero, List.set_cons_succ]
                refine takeL (i := 1) (v := ?_) rfl (by kernel_rfl) (by kernel_rfl) (by kernel_rfl) (fun _ _ _ h => h) (.inl ⟨by rfl, ?_⟩) (by assumption) ?_
                rotate_left
                · (intro w hSw; (try dsimp only at hSw); go_simp; (first | done | with_reducible rfl))
                try simp only [Act.put, List.setIfInBounds_toArray, List.set_cons_zero, List.set_cons_succ]
                refine takeL (i := 2) (v := ?_) rfl (by kernel_rfl) (by kernel_rfl) (by kernel_rfl) (fun _ _ _ h => h) (.inl ⟨by rfl, ?_⟩) (by assumption) ?_
                rotate_left
                · (intro w hSw; (try dsimp only at hSw); go_simp; (first | done | with_reducible rfl))
                try simp only [Act.put, List.setIfInBounds_toArray, List.set_cons_zero, List.set_cons_succ]
                refine takeL (i := 3) (v := ?_) rfl (by kernel_rfl) (by kernel_rfl) (by kernel_rfl) (fun _ _ _ h => h) (.inl ⟨by rfl, ?_⟩) (by assumption) ?_
                rotate_left
                · (intro w hSw; (try dsimp only at hSw); go_simp; (first | done | with_reducible rfl))
                try simp only [Act.put, List.setIfInBounds_toArray, List.set_cons_zero, List.set_cons_succ]
                refine takeL (i := 4) (v := ?_) rfl (by kernel_rfl) (by kernel_rfl) (by kernel_rfl) (fun _ _ _ h => h) (.inl ⟨by rfl, ?_⟩) (by assumption) ?_
                rotate_left
                · (intro w hSw; (try dsimp only at hSw); go_simp; (first | done | with_reducible rfl))
                try simp only [Act.put, List.setIfInBounds_toArray, List.set_cons_zero, List.set_cons_succ]
                refine takeL (i := 5) (v := ?_) rfl (by kernel_rfl) (by kernel_rfl) (by kernel_rfl) (fun _ _ _ h => h) (.inl ⟨by rfl, ?_⟩) (by assumption) ?_
                rotate_left
                · (intro w hSw; (try dsimp only at hSw); go_simp; (first | done | with_reducible rfl))
                try simp only [Act.put, List.setIfInBounds_toArray, List.set_cons_zero, List.set_cons_succ]
                refine takeL (i := 6) (v := ?_) rfl (by kernel_rfl) (by kernel_rfl) (by kernel_rfl) (fun _ _ _ h => h) (.inl ⟨by rfl, ?_⟩) (by assumption) ?_
                rotate_left
                · (intro w hSw; (try dsimp only at hSw); go_simp; (first | done | with_reducible rfl))
                try simp only [Act.put, List.setIfInBounds_toArray, List.set_cons_zero, List.set_cons_succ]
                refine takeL (i := 7) (v := ?_) rfl (by kernel_rfl) (by kernel_rfl) (by kernel_rfl) (fun _ _ _ h => h) (.inl ⟨by rfl, ?_⟩) (by assumption) ?_
                rotate_left
                · (intro w hSw; (try dsimp only at hSw); go_simp; (first | done | with_reducible rfl))
                try simp only [Act.put, List.setIfInBounds_toArray, List.set_cons_zero, List.set_cons_succ]
                refine takeL (i := 8) (v := ?_) rfl (by kernel_rfl) (by kernel_rfl) (by kernel_rfl) (fun _ _ _ h => h) (.inl ⟨by rfl, ?_⟩) (by assumption) ?_
                rotate_left
                · (intro w hSw; (try dsimp only at hSw); go_simp; (first | done | with_reducible rfl))
                try simp only [Act.put, List.setIfInBounds_toArray, List.set_cons_zero, List.set_cons_succ]
                refine takeL (i := 9) (v := ?_) rfl (by kernel_rfl) (by kernel_rfl) (by kernel_rfl) (fun _ _ _ h => h) (.inl ⟨by rfl, ?_⟩) (by assumption) ?_
                rotate_left
                · (intro w hSw; (try dsimp only at hSw); go_simp; (first | done | with_reducible rfl))
                try simp only [Act.put, List.setIfInBounds_toArray, List.set_cons_zero, List.set_cons_succ]
                refine takeL (i := 10) (v := ?_) rfl (by kernel_rfl) (by kernel_rfl) (by kernel_rfl) (fun _ _ _ h => h) (.inl ⟨by rfl, ?_⟩) (by assumption) ?_
                rotate_left
                · (intro w hSw; (try dsimp only at hSw); go_simp; (first | done | with_reducible rfl))
                try simp only [Act.put, List.setIfInBounds_toArray, List.set_cons_zero, List.set_cons_succ]
                refine takeL (i := 11) (v := ?_) rfl (by kernel_rfl) (by kernel_rfl) (by kernel_rfl) (fun _ _ _ h => h) (.inl ⟨by rfl, ?_⟩) (by assumption) ?_
                rotate_left
                · (intro w hSw; (try dsimp only at hSw); go_simp; (first | done | with_reducible rfl))
                try simp only [Act.put, List.setIfInBounds_toArray, List.set_cons_zero, List.set_cons_succ]
                refine takeL (i := 12) (v := ?_) rfl (by kernel_rfl) (by kernel_rfl) (by kernel_rfl) (fun _ _ _ h => h) (.inl ⟨by rfl, ?_⟩) (by assumption) ?_
                rotate_left
                · (intro w hSw; (try dsimp only at hSw); go_simp; (first | done | with_reducible rfl))
                try simp only [Act.put, List.setIfInBounds_toArray, List.set_cons_zero, List.set_cons_succ]
                refine takeL (i := 13) (v := ?_) rfl (by kernel_rfl) (by kernel_rfl) (by kernel_rfl) (fun _ _ _ h => h) (.inl ⟨by rfl, ?_⟩) (by assumption) ?_
                rotate_left
                · (intro w hSw; (try dsimp only at hSw); go_simp; (first | done | with_reducible rfl))
                try simp only [Act.put, List.setIfInBounds_toArray, List.set_cons_zero, List.set_cons_succ]
                refine stepL (i := 14) rfl (by kernel_rfl) (fun K hK => ?_)
                go_simp
                go_at_call 11
                refine (HSY.out _ (Below.refl _ _).drew).mono ?_
                rintro e w6 ⟨rfl, hl6⟩
                have hyd := HY5.out.below (below_drewN (Below.refl w5.heap.size w5) 1)
                obtain ⟨S6, hy6⟩ := hyd.step1 hl6
                have HY6 : Hid (AY w w6 d0 l0 dk0 lg0 S4 d1 l1 dk2 lg2 S6) := hy6
                have HK6 := Lib.hid (And.intro (hyd.b.blkO hl6 (b := w.heap.size) HK5.out.1 (by decide)) (hyd.b.blkO hl6 (b := bl) HK5.out.2 (by decide)))
                clear hl6 hy6 hyd
                go_wp2_with fail
                refine hK.out _ _ ⟨by rw [blk_cell HK6.out.2]; rfl, by rw [blk_cell HK6.out.2]; rfl⟩ (fun hHeld => ?_)
                clear hK K
                try simp only [Act.put, List.setIfInBounds_toArray, List.set_cons_zero, List.set_cons_succ]
                refine takeL (i := 15) (v := ?_) rfl (by kernel_rfl) (by kernel_rfl) (by kernel_rfl) (fun _ _ _ h => h) (.inl ⟨by rfl, ?_⟩) (by assumption) ?_
                rotate_left
                · (intro w hSw; (try dsimp only at hSw); go_simp; (first | done | with_reducible rfl))
                try simp only [Act.put, List.setIfInBounds_toArray, List.set_cons_zero, List.set_cons_succ]
                refine takeL (i := 16) (v := ?_) rfl (by kernel_rfl) (by kernel_rfl) (by kernel_rfl) (fun _ _ _ h => h) (.inl ⟨by rfl, ?_⟩) (by assumption) ?_
                rotate_left
                · (intro w hSw; (try dsimp only at hSw); go_simp; (first | done | with_reducible rfl))
                try simp only [Act.put, List.setIfInBounds_toArray, List.set_cons_zero, List.set_cons_succ]
                refine takeL (i := 17) (v := ?_) rfl (by kernel_rfl) (by kernel_rfl) (by kernel_rfl) (fun _ _ _ h => h) (.inl ⟨by rfl, ?_⟩) (by assumption) ?_
                rotate_left
                · (intro w hSw; (try dsimp only at hSw); go_simp; (first | done | with_reducible rfl))
                try simp only [Act.put, List.setIfInBounds_toArray, List.set_cons_zero, List.set_cons_succ]
                refine takeL (i := 18) (v := ?_) rfl (by kernel_rfl) (by kernel_rfl) (by kernel_rfl) (fun _ _ _ h => h) (.inl ⟨by rfl, ?_⟩) (by assumption) ?_
                rotate_left
                · (intro w hSw; (try dsimp only at hSw); go_simp; (first | done | with_reducible rfl))
                try simp only [Act.put, List.setIfInBounds_toArray, List.set_cons_zero, List.set_cons_succ]
                refine takeL (i := 19) (v := ?_) rfl (by kernel_rfl) (by kernel_rfl) (by kernel_rfl) (fun _ _ _ h => h) (.inl ⟨by rfl, ?_⟩) (by assumption) ?_
                rotate_left
                · (intro w hSw; (try dsimp only at hSw); go_simp; (first | done | with_reducible rfl))
                try simp only [Act.put, List.setIfInBounds_toArray, List.set_cons_zero, List.set_cons_succ]
                refine takeL (i := 22) (v := ?_) rfl (by kernel_rfl) (by kernel_rfl) (by kernel_rfl) (fun _ _ _ h => h) (.inl ⟨by rfl, ?_⟩) (by assumption) ?_
                rotate_left
                · (intro w hSw; (try dsimp only at hSw); go_simp; (first | done | with_reducible rfl))
                try simp only [Act.put, List.setIfInBounds_toArray, List.set_cons_zero, List.set_cons_succ]
                refine takeL (i := 23) (v := ?_) rfl (by kernel_rfl) (by kernel_rfl) (by kernel_rfl) (fun _ _ _ h => h) (.inl ⟨by rfl, ?_⟩) (by assumption) ?_
                rotate_left
                · (intro w hSw; (try dsimp only at hSw); go_simp; (first | done | with_reducible rfl))
                try simp only [Act.put, List.setIfInBounds_toArray, List.set_cons_zero, List.set_cons_succ]
                refine takeL (i := 25) (v := ?_) rfl (by kernel_rfl) (by kernel_rfl) (by kernel_rfl) (fun _ _ _ h => h) (.inl ⟨by rfl, ?_⟩) (by assumption) ?_
                rotate_left
                · (intro w hSw; (try dsimp only at hSw); go_simp; (first | done | with_reducible rfl))
                try simp only [Act.put, List.setIfInBounds_toArray, List.set_cons_zero, List.set_cons_succ]
                refine stepL (i := 20) rfl (by kernel_rfl) (fun K hK => ?_)
                go_simp
                go_at_call 8
                refine (HY6.out.a.files HFEW.out).mono ?_
                rintro e w7 ⟨z7, rfl, hz7, hb7⟩
                obtain ⟨A7, c7, rfl, _, _⟩ := hz7.form
                rw [HNL.out] at hz7 ⊢
                have HY7 := Lib.hid (HY6.out.below hb7)
                have HK7 := Lib.hid (And.intro (blk_below hb7 HK6.out.1) (blk_below hb7 HK6.out.2))
                clear hz7 hb7
                go_wp2_with fail
                refine hK.out _ _ ⟨by rw [blk_cell HK7.out.2]; rfl, by rw [blk_cell HK7.out.2]; rfl⟩ (fun hHeld => ?_)
                clear hK K
                try simp only [Act.put, List.setIfInBounds_toArray, List.set_cons_zero, List.set_cons_succ]
                refine takeL (i := 21) (v := ?_) rfl (by kernel_rfl) (by kernel_rfl) (by kernel_rfl) (fun _ _ _ h => h) (.inl ⟨by rfl, ?_⟩) (by assumption) ?_
                rotate_left
                · (intro w hSw; (try dsimp only at hSw); go_simp; (first | done | with_reducible rfl))
                try simp only [Act.put, List.setIfInBounds_toArray, List.set_cons_zero, List.set_cons_succ]
                refine takeL (i := 24) (v := ?_) rfl (by kernel_rfl) (by kernel_rfl) (by kernel_rfl) (fun _ _ _ h => h) (.inl ⟨by rfl, ?_⟩) (by assumption) ?_
                rotate_left
                · (intro w hSw; (try dsimp only at hSw); go_simp; (first | done | with_reducible rfl))
                try simp only [Act.put, List.setIfInBounds_toArray, List.set_cons_zero, List.set_cons_succ]
                refine takeL (i := 26) (v := ?_) rfl (by kernel_rfl) (by kernel_rfl) (by kernel_rfl) (fun _ _ _ h => h) (.inl ⟨by rfl, ?_⟩) (by assumption) ?_
                rotate_left
                · (intro w hSw; (try dsimp only at hSw); go_simp; (first | done | with_reducible rfl))
                try simp only [Act.put, List.setIfInBounds_toArray, List.set_cons_zero, List.set_cons_succ]
                refine takeL (i := 27) (v := ?_) rfl (by kernel_rfl) (by kernel_rfl) (by kernel_rfl) (fun _ _ _ h => h) (.inl ⟨by rfl, ?_⟩) (by assumption) ?_
                rotate_left
                · (intro w hSw; (try dsimp only at hSw); go_simp; (first | done | with_reducible rfl))
                try simp only [Act.put, List.setIfInBounds_toArray, List.set_cons_zero, List.set_cons_succ]
                refine takeL (i := 28) (v := ?_) rfl (by kernel_rfl) (by kernel_rfl) (by kernel_rfl) (fun _ _ _ h => h) (.inl ⟨by rfl, ?_⟩) (by assumption) ?_
                rotate_left
                · (intro w hSw; (try dsimp only at hSw); go_simp; (first | done | with_reducible rfl))
                try simp only [Act.put, List.setIfInBounds_toArray, List.set_cons_zero, List.set_cons_succ]
                refine takeL (i := 29) (v := ?_) rfl (by kernel_rfl) (by kernel_rfl) (by kernel_rfl) (fun _ _ _ h => h) (.inl ⟨by rfl, ?_⟩) (by assumption) ?_
                rotate_left
                · (intro w hSw; (try dsimp only at hSw); go_simp; (first | done | with_reducible rfl))
                try simp only [Act.put, List.setIfInBounds_toArray, List.set_cons_zero, List.set_cons_succ]
                refine takeL (i := 30) (v := ?_) rfl (by kernel_rfl) (by kernel_rfl) (by kernel_rfl) (fun _ _ _ h => h) (.inl ⟨by rfl, ?_⟩) (by assumption) ?_
                rotate_left
                · (intro w hSw; (try dsimp only at hSw); go_simp; (first | done | with_reducible rfl))
                try simp only [Act.put, List.setIfInBounds_toArray, List.set_cons_zero, List.set_cons_succ]
                refine takeL (i := 31) (v := ?_) rfl (by kernel_rfl) (by kernel_rfl) (by kernel_rfl) (fun _ _ _ h => h) (.inl ⟨by rfl, ?_⟩) (by assumption) ?_
                rotate_left
                · (intro w hSw; (try dsimp only at hSw); go_simp; (first | done | with_reducible rfl))
                try simp only [Act.put, List.setIfInBounds_toArray, List.set_cons_zero, List.set_cons_succ]
                refine takeL (i := 32) (v := ?_) rfl (by kernel_rfl) (by kernel_rfl) (by kernel_rfl) (fun _ _ _ h => h) (.inl ⟨by rfl, ?_⟩) (by assumption) ?_
                rotate_left
                · (intro w hSw; (try dsimp only at hSw); go_simp; (first | done | with_reducible rfl))
                try simp only [Act.put, List.setIfInBounds_toArray, List.set_cons_zero, List.set_cons_succ]
                refine takeL (i := 34) (v := ?_) rfl (by kernel_rfl) (by kernel_rfl) (by kernel_rfl) (fun _ _ _ h => h) (.inl ⟨by rfl, ?_⟩) (by assumption) ?_
                rotate_left
                · (intro w hSw; (try dsimp only at hSw); go_simp; (first | done | with_reducible rfl))
                try simp only [Act.put, List.setIfInBounds_toArray, List.set_cons_zero, List.set_cons_succ]
                refine takeL (i := 35) (v := ?_) rfl (by kernel_rfl) (by kernel_rfl) (by kernel_rfl) (fun _ _ _ h => h) (.inl ⟨by rfl, ?_⟩) (by assumption) ?_
                rotate_left
                · (intro w hSw; (try dsimp only at hSw); go_simp; (first | done | with_reducible rfl))
                try simp only [Act.put, List.setIfInBounds_toArray, List.set_cons_zero, List.set_cons_succ]
                refine takeL (i := 38) (v := ?_) rfl (by kernel_rfl) (by kernel_rfl) (by kernel_rfl) (fun _ _ _ h => h) (.inl ⟨by rfl, ?_⟩) (by assumption) ?_
                rotate_left
                · (intro w hSw; (try dsimp only at hSw); go_simp; (first | done | with_reducible rfl))
                try simp only [Act.put, List.setIfInBounds_toArray, List.set_cons_zero, List.set_cons_succ]
                refine stepL (i := 33) rfl (by kernel_rfl) (fun K hK => ?_)
                go_simp
                go_at_call 8
                refine (HY7.out.a.files HFEW.out).mono ?_
                rintro e w8 ⟨z8, rfl, hz8, hb8⟩
                obtain ⟨A8, c8, rfl, _, _⟩ := hz8.form
                rw [HNL.out] at hz8 ⊢
                obtain ⟨b8, o8, hA8, d8⟩ := hz8.at HAT.out
                subst hA8
                have HY8' := Lib.hid (HY7.out.below hb8)
                have HK8 := Lib.hid (And.intro (blk_below hb8 HK7.out.1) (blk_below hb8 HK7.out.2))
                have HD8 := Lib.hid d8
                clear hz8 hb8
                go_wp2_with fail
                refine hK.out _ _ ⟨by rw [blk_cell HK8.out.2]; rfl, by rw [blk_cell HK8.out.2]; rfl⟩ (fun hHeld => ?_)
                clear hK K
                try simp only [Act.put, List.setIfInBounds_toArray, List.set_cons_zero, List.set_cons_succ]
                refine takeL (i := 36) (v := ?_) rfl (by kernel_rfl) (by kernel_rfl) (by kernel_rfl) (fun _ _ _ h => h) (.inl ⟨by rfl, ?_⟩) (by assumption) ?_
                rotate_left
                · (intro w hSw; (try dsimp only at hSw); go_simp; (first | done | with_reducible rfl))
                try simp only [Act.put, List.setIfInBounds_toArray, List.set_cons_zero, List.set_cons_succ]
                refine readyL (rs := [37, 39]) (by kernel_rfl) (by simp) (consL rfl (fun K hK => ?_) (consL rfl (fun K hK => ?_) AllReadyH.nil))
                · go_simp
                  refine hK.out _ _ ⟨by rw [blk_cell HK8.out.2]; rfl, by rw [blk_cell HK8.out.2]; rfl⟩ (fun hHeld => ?_)
                  clear hK K
                  try simp only [Act.put, List.setIfInBounds_toArray, List.set_cons_zero, List.set_cons_succ]
                  refine stepL (i := 39) rfl (by kernel_rfl) (fun K hK => ?_)
                  go_simp
                  go_at_call 12
                  refine (name_any N _ HY8'.out.a.gb.gok).mono ?_
                  rintro e w9 ⟨rfl, hb9⟩
                  rw [HNM.out]
                  have HY9 := Lib.hid (HY8'.out.below hb9)
                  have HK9' := Lib.hid (And.intro (blk_below hb9 HK8.out.1) (blk_below hb9 HK8.out.2))
                  have d9 := cell_later hb9 HD8.out
                  clear hb9
                  go_wp2_with fail
                  refine hK.out _ _ ⟨by rw [blk_cell HK9'.out.2]; rfl, by rw [blk_cell HK9'.out.2]; rfl⟩ (fun hHeld => ?_)
                  clear hK K
                  try simp only [Act.put, List.setIfInBounds_toArray, List.set_cons_zero, List.set_cons_succ]
                  refine takeL (i := 40) (v := ?_) rfl (by kernel_rfl) (by kernel_rfl) (by kernel_rfl) (fun _ _ _ h => h) (.inl ⟨by rfl, ?_⟩) (by assumption) ?_
                  rotate_left
                  · (intro w hSw; (try dsimp only at hSw); go_simp; (first | done | with_reducible rfl))
                  try simp only [Act.put, List.setIfInBounds_toArray, List.set_cons_zero, List.set_cons_succ]
                  refine takeL (i := 41) (v := ?_) rfl (by kernel_rfl) (by kernel_rfl) (by kernel_rfl) (fun _ _ _ h => h) (.inl ⟨by rfl, ?_⟩) (by assumption) ?_
                  rotate_left
                  · (intro w hSw; (try dsimp only at hSw); go_simp; (first | done | with_reducible rfl))
                  try simp only [Act.put, List.setIfInBounds_toArray, List.set_cons_zero, List.set_cons_succ]
                  refine takeL (i := 42) (v := ?_) rfl (by kernel_rfl) (by kernel_rfl) (by kernel_rfl) (fun _ _ _ h => h) (.inl ⟨by rfl, ?_⟩) (by assumption) ?_
                  rotate_left
                  · (intro w hSw; (try dsimp only at hSw); go_simp; (first | done | with_reducible rfl))
                  try simp only [Act.put, List.setIfInBounds_toArray, List.set_cons_zero, List.set_cons_succ]
                  refine wpAnyH_done (by kernel_rfl) ?_ _
                  clear hHeld
                  have HSI9 : Hid (lg0.size = sz) := by
                    show _ = _
                    rw [HSIZ.out]
                    exact HQ.out.2
                  go_wp2
                  have hsz9 : lg0.size = sz := by have h1 := HP1.out.si; have h2 := HSI9.out; exact h2
                  first
                  | exact ⟨⟨k + 1, q + 1, dk0, dk2, lg0, lg2, S4, S6, by go_num, by omega, by omega, HP2, Lib.hid ⟨by have := HQ.out.1; omega, hsz9⟩, HY9, HK9'⟩, by simp [intOf]; omega⟩
                  | (go_roundw
                     case rel => exact ⟨k + 1, q + 1, dk0, dk2, lg0, lg2, S4, S6, by go_num, by omega, by omega, HP2, Lib.hid ⟨by have := HQ.out.1; omega, hsz9⟩, HY9, HK9'⟩
                     case measure => simp [intOf]; omega)
                · go_simp
                  go_at_call 12
                  refine (name_any N _ HY8'.out.a.gb.gok).mono ?_
                  rintro e w9 ⟨rfl, hb9⟩
                  rw [HNM.out]
                  have HY9 := Lib.hid (HY8'.out.below hb9)
                  have HK9' := Lib.hid (And.intro (blk_below hb9 HK8.out.1) (blk_below hb9 HK8.out.2))
                  have d9 := cell_later hb9 HD8.out
                  clear hb9
                  go_wp2_with fail
                  refine hK.out _ _ ⟨by rw [blk_cell HK9'.out.2]; rfl, by rw [blk_cell HK9'.out.2]; rfl⟩ (fun hHeld => ?_)
                  clear hK K
                  try simp only [Act.put, List.setIfInBounds_toArray, List.set_cons_zero, List.set_cons_succ]
                  refine stepL (i := 37) rfl (by kernel_rfl) (fun K hK => ?_)
                  go_simp
                  refine hK.out _ _ ⟨by rw [blk_cell HK9'.out.2]; rfl, by rw [blk_cell HK9'.out.2]; rfl⟩ (fun hHeld => ?_)
                  clear hK K
                  try simp only [Act.put, List.setIfInBounds_toArray, List.set_cons_zero, List.set_cons_succ]
                  refine takeL (i := 40) (v := ?_) rfl (by kernel_rfl) (by kernel_rfl) (by kernel_rfl) (fun _ _ _ h => h) (.inl ⟨by rfl, ?_⟩) (by assumption) ?_
                  rotate_left
                  · (intro w hSw; (try dsimp only at hSw); go_simp; (first | done | with_reducible rfl))
                  try simp only [Act.put, List.setIfInBounds_toArray, List.set_cons_zero, List.set_cons_succ]
                  refine takeL (i := 41) (v := ?_) rfl (by kernel_rfl) (by kernel_rfl) (by kernel_rfl) (fun _ _ _ h => h) (.inl ⟨by rfl, ?_⟩) (by assumption) ?_
                  rotate_left
                  · (intro w hSw; (try dsimp only at hSw); go_simp; (first | done | with_reducible rfl))
                  try simp only [Act.put, List.setIfInBounds_toArray, List.set_cons_zero, List.set_cons_succ]
                  refine takeL (i := 42) (v := ?_) rfl (by kernel_rfl) (by kernel_rfl) (by kernel_rfl) (fun _ _ _ h => h) (.inl ⟨by rfl, ?_⟩) (by assumption) ?_
                  rotate_left
                  · (intro w hSw; (try dsimp only at hSw); go_simp; (first | done | with_reducible rfl))
                  try simp only [Act.put, List.setIfInBounds_toArray, List.set_cons_zero, List.set_cons_succ]
                  refine wpAnyH_done (by kernel_rfl) ?_ _
                  clear hHeld
                  have HSI9 : Hid (lg0.size = sz) := by
                    show _ = _
                    rw [HSIZ.out]
                    exact HQ.out.2
                  go_wp2
                  have hsz9 : lg0.size = sz := by have h1 := HP1.out.si; have h2 := HSI9.out; exact h2
                  first
                  | exact ⟨⟨k + 1, q + 1, dk0, dk2, lg0, lg2, S4, S6, by go_num, by omega, by omega, HP2, Lib.hid ⟨by have := HQ.out.1; omega, hsz9⟩, HY9, HK9'⟩, by simp [intOf]; omega⟩
                  | (go_roundw
                     case rel => exact ⟨k + 1, q + 1, dk0, dk2, lg0, lg2, S4, S6, by go_num, by omega, by omega, HP2, Lib.hid ⟨by have := HQ.out.1; omega, hsz9⟩, HY9, HK9'⟩
                     case measure => simp [intOf]; omega)
              | false =>
                have hfi2 : lg0.firsts = g0.firsts := by rw [HFIR.out, if_neg (by rw [HF.out]; simp)]
                have hnl : (lFiles lg0).length = K := by unfold lFiles; rw [hfi2, List.length_map, HKK.out]
                have HNL := Lib.hid hnl
                have t1 : ¬ (K : Int) < (K : Int) := by omega
                have t2 : decide ((K : Int) < (K : Int)) = false := decide_eq_false t1
                clear hfi2 hnl
                go_upto_region 20 with fail
                refine wp_region_all (fun w' => w'.cell? ⟨bl, 0, none⟩ = some (.pointer (some ⟨l0, 0, none⟩)) ∧ w'.cell? ⟨bl, 1, none⟩ = some (.pointer (some ⟨l1, 0, none⟩))) 43 (by kernel_rfl) rfl dl5 (fun hHeld => ?_)
                refine takeL (i := 0) (v := ?_) rfl (by kernel_rfl) (by kernel_rfl) (by kernel_rfl) (fun _ _ _ h => h) (.inl ⟨by rfl, ?_⟩) (by assumption) ?_
                rotate_left
                · (intro w hSw; (try dsimp only at hSw); go_simp; (first | done | with_reducible rfl))
                try simp only [Act.put, List.setIfInBounds_toArray, List.set_cons_zero, List.set_cons_succ]
                refine takeL (i := 1) (v := ?_) rfl (by kernel_rfl) (by kernel_rfl) (by kernel_rfl) (fun _ _ _ h => h) (.inl ⟨by rfl, ?_⟩) (by assumption) ?_
                rotate_left
                · (intro w hSw; (try dsimp only at hSw); go_simp; (first | done | with_reducible rfl))
                try simp only [Act.put, List.setIfInBounds_toArray, List.set_cons_zero, List.set_cons_succ]
                refine takeL (i := 2) (v := ?_) rfl (by kernel_rfl) (by kernel_rfl) (by kernel_rfl) (fun _ _ _ h => h) (.inl ⟨by rfl, ?_⟩) (by assumption) ?_
                rotate_left
                · (intro w hSw; (try dsimp only at hSw); go_simp; (first | done | with_reducible rfl))
                try simp only [Act.put, List.setIfInBounds_toArray, List.set_cons_zero, List.set_cons_succ]
                refine takeL (i := 3) (v := ?_) rfl (by kernel_rfl) (by kernel_rfl) (by kernel_rfl) (fun _ _ _ h => h) (.inl ⟨by rfl, ?_⟩) (by assumption) ?_
                rotate_left
                · (intro w hSw; (try dsimp only at hSw); go_simp; (first | done | with_reducible rfl))
                try simp only [Act.put, List.setIfInBounds_toArray, List.set_cons_zero, List.set_cons_succ]
                refine takeL (i := 4) (v := ?_) rfl (by kernel_rfl) (by kernel_rfl) (by kernel_rfl) (fun _ _ _ h => h) (.inl ⟨by rfl, ?_⟩) (by assumption) ?_
                rotate_left
                · (intro w hSw; (try dsimp only at hSw); go_simp; (first | done | with_reducible rfl))
                try simp only [Act.put, List.setIfInBounds_toArray, List.set_cons_zero, List.set_cons_succ]
                refine takeL (i := 5) (v := ?_) rfl (by kernel_rfl) (by kernel_rfl) (by kernel_rfl) (fun _ _ _ h => h) (.inl ⟨by rfl, ?_⟩) (by assumption) ?_
                rotate_left
                · (intro w hSw; (try dsimp only at hSw); go_simp; (first | done | with_reducible rfl))
                try simp only [Act.put, List.setIfInBounds_toArray, List.set_cons_zero, List.set_cons_succ]
                refine takeL (i := 6) (v := ?_) rfl (by kernel_rfl) (by kernel_rfl) (by kernel_rfl) (fun _ _ _ h => h) (.inl ⟨by rfl, ?_⟩) (by assumption) ?_
                rotate_left
                · (intro w hSw; (try dsimp only at hSw); go_simp; (first | done | with_reducible rfl))
                try simp only [Act.put, List.setIfInBounds_toArray, List.set_cons_zero, List.set_cons_succ]
                refine takeL (i := 7) (v := ?_) rfl (by kernel_rfl) (by kernel_rfl) (by kernel_rfl) (fun _ _ _ h => h) (.inl ⟨by rfl, ?_⟩) (by assumption) ?_
                rotate_left
                · (intro w hSw; (try dsimp only at hSw); go_simp; (first | done | with_reducible rfl))
                try simp only [Act.put, List.setIfInBounds_toArray, List.set_cons_zero, List.set_cons_succ]
                refine takeL (i := 8) (v := ?_) rfl (by kernel_rfl) (by kernel_rfl) (by kernel_rfl) (fun _ _ _ h => h) (.inl ⟨by rfl, ?_⟩) (by assumption) ?_
                rotate_left
                · (intro w hSw; (try dsimp only at hSw); go_simp; (first | done | with_reducible rfl))
                try simp only [Act.put, List.setIfInBounds_toArray, List.set_cons_zero, List.set_cons_succ]
                refine takeL (i := 9) (v := ?_) rfl (by kernel_rfl) (by kernel_rfl) (by kernel_rfl) (fun _ _ _ h => h) (.inl ⟨by rfl, ?_⟩) (by assumption) ?_
                rotate_left
                · (intro w hSw; (try dsimp only at hSw); go_simp; (first | done | with_reducible rfl))
                try simp only [Act.put, List.setIfInBounds_toArray, List.set_cons_zero, List.set_cons_succ]
                refine takeL (i := 10) (v := ?_) rfl (by kernel_rfl) (by kernel_rfl) (by kernel_rfl) (fun _ _ _ h => h) (.inl ⟨by rfl, ?_⟩) (by assumption) ?_
                rotate_left
                · (intro w hSw; (try dsimp only at hSw); go_simp; (first | done | with_reducible rfl))
                try simp only [Act.put, List.setIfInBounds_toArray, List.set_cons_zero, List.set_cons_succ]
                refine takeL (i := 11) (v := ?_) rfl (by kernel_rfl) (by kernel_rfl) (by kernel_rfl) (fun _ _ _ h => h) (.inl ⟨by rfl, ?_⟩) (by assumption) ?_
                rotate_left
                · (intro w hSw; (try dsimp only at hSw); go_simp; (first | done | with_reducible rfl))
                try simp only [Act.put, List.setIfInBounds_toArray, List.set_cons_zero, List.set_cons_succ]
                refine takeL (i := 12) (v := ?_) rfl (by kernel_rfl) (by kernel_rfl) (by kernel_rfl) (fun _ _ _ h => h) (.inl ⟨by rfl, ?_⟩) (by assumption) ?_
                rotate_left
                · (intro w hSw; (try dsimp only at hSw); go_simp; (first | done | with_reducible rfl))
                try simp only [Act.put, List.setIfInBounds_toArray, List.set_cons_zero, List.set_cons_succ]
                refine takeL (i := 13) (v := ?_) rfl (by kernel_rfl) (by kernel_rfl) (by kernel_rfl) (fun _ _ _ h => h) (.inl ⟨by rfl, ?_⟩) (by assumption) ?_
                rotate_left
                · (intro w hSw; (try dsimp only at hSw); go_simp; (first | done | with_reducible rfl))
                try simp only [Act.put, List.setIfInBounds_toArray, List.set_cons_zero, List.set_cons_succ]
                refine stepL (i := 14) rfl (by kernel_rfl) (fun K hK => ?_)
                go_simp
                go_at_call 11
                refine (HSY.out _ (Below.refl _ _).drew).mono ?_
                rintro e w6 ⟨rfl, hl6⟩
                have hyd := HY5.out.below (below_drewN (Below.refl w5.heap.size w5) 1)
                obtain ⟨S6, hy6⟩ := hyd.step1 hl6
                have HY6 : Hid (AY w w6 d0 l0 dk0 lg0 S4 d1 l1 dk2 lg2 S6) := hy6
                have HK6 := Lib.hid (And.intro (hyd.b.blkO hl6 (b := w.heap.size) HK5.out.1 (by decide)) (hyd.b.blkO hl6 (b := bl) HK5.out.2 (by decide)))
                clear hl6 hy6 hyd
                go_wp2_with fail
                refine hK.out _ _ ⟨by rw [blk_cell HK6.out.2]; rfl, by rw [blk_cell HK6.out.2]; rfl⟩ (fun hHeld => ?_)
                clear hK K
                try simp only [Act.put, List.setIfInBounds_toArray, List.set_cons_zero, List.set_cons_succ]
                refine takeL (i := 15) (v := ?_) rfl (by kernel_rfl) (by kernel_rfl) (by kernel_rfl) (fun _ _ _ h => h) (.inl ⟨by rfl, ?_⟩) (by assumption) ?_
                rotate_left
                · (intro w hSw; (try dsimp only at hSw); go_simp; (first | done | with_reducible rfl))
                try simp only [Act.put, List.setIfInBounds_toArray, List.set_cons_zero, List.set_cons_succ]
                refine takeL (i := 16) (v := ?_) rfl (by kernel_rfl) (by kernel_rfl) (by kernel_rfl) (fun _ _ _ h => h) (.inl ⟨by rfl, ?_⟩) (by assumption) ?_
                rotate_left
                · (intro w hSw; (try dsimp only at hSw); go_simp; (first | done | with_reducible rfl))
                try simp only [Act.put, List.setIfInBounds_toArray, List.set_cons_zero, List.set_cons_succ]
                refine takeL (i := 17) (v := ?_) rfl (by kernel_rfl) (by kernel_rfl) (by kernel_rfl) (fun _ _ _ h => h) (.inl ⟨by rfl, ?_⟩) (by assumption) ?_
                rotate_left
                · (intro w hSw; (try dsimp only at hSw); go_simp; (first | done | with_reducible rfl))
                try simp only [Act.put, List.setIfInBounds_toArray, List.set_cons_zero, List.set_cons_succ]
                refine takeL (i := 18) (v := ?_) rfl (by kernel_rfl) (by kernel_rfl) (by kernel_rfl) (fun _ _ _ h => h) (.inl ⟨by rfl, ?_⟩) (by assumption) ?_
                rotate_left
                · (intro w hSw; (try dsimp only at hSw); go_simp; (first | done | with_reducible rfl))
                try simp only [Act.put, List.setIfInBounds_toArray, List.set_cons_zero, List.set_cons_succ]
                refine takeL (i := 19) (v := ?_) rfl (by kernel_rfl) (by kernel_rfl) (by kernel_rfl) (fun _ _ _ h => h) (.inl ⟨by rfl, ?_⟩) (by assumption) ?_
                rotate_left
                · (intro w hSw; (try dsimp only at hSw); go_simp; (first | done | with_reducible rfl))
                try simp only [Act.put, List.setIfInBounds_toArray, List.set_cons_zero, List.set_cons_succ]
                refine takeL (i := 22) (v := ?_) rfl (by kernel_rfl) (by kernel_rfl) (by kernel_rfl) (fun _ _ _ h => h) (.inl ⟨by rfl, ?_⟩) (by assumption) ?_
                rotate_left
                · (intro w hSw; (try dsimp only at hSw); go_simp; (first | done | with_reducible rfl))
                try simp only [Act.put, List.setIfInBounds_toArray, List.set_cons_zero, List.set_cons_succ]
                refine takeL (i := 23) (v := ?_) rfl (by kernel_rfl) (by kernel_rfl) (by kernel_rfl) (fun _ _ _ h => h) (.inl ⟨by rfl, ?_⟩) (by assumption) ?_
                rotate_left
                · (intro w hSw; (try dsimp only at hSw); go_simp; (first | done | with_reducible rfl))
                try simp only [Act.put, List.setIfInBounds_toArray, List.set_cons_zero, List.set_cons_succ]
                refine takeL (i := 25) (v := ?_) rfl (by kernel_rfl) (by kernel_rfl) (by kernel_rfl) (fun _ _ _ h => h) (.inl ⟨by rfl, ?_⟩) (by assumption) ?_
                rotate_left
                · (intro w hSw; (try dsimp only at hSw); go_simp; (first | done | with_reducible rfl))
                try simp only [Act.put, List.setIfInBounds_toArray, List.set_cons_zero, List.set_cons_succ]
                refine stepL (i := 20) rfl (by kernel_rfl) (fun K hK => ?_)
                go_simp
                go_at_call 8
                refine (HY6.out.a.files HFEW.out).mono ?_
                rintro e w7 ⟨z7, rfl, hz7, hb7⟩
                obtain ⟨A7, c7, rfl, _, _⟩ := hz7.form
                rw [HNL.out] at hz7 ⊢
                have HY7 := Lib.hid (HY6.out.below hb7)
                have HK7 := Lib.hid (And.intro (blk_below hb7 HK6.out.1) (blk_below hb7 HK6.out.2))
                clear hz7 hb7
                go_wp2_with fail
                refine hK.out _ _ ⟨by rw [blk_cell HK7.out.2]; rfl, by rw [blk_cell HK7.out.2]; rfl⟩ (fun hHeld => ?_)
                clear hK K
                try simp only [Act.put, List.setIfInBounds_toArray, List.set_cons_zero, List.set_cons_succ]
                refine takeL (i := 21) (v := ?_) rfl (by kernel_rfl) (by kernel_rfl) (by kernel_rfl) (fun _ _ _ h => h) (.inl ⟨by rfl, ?_⟩) (by assumption) ?_
                rotate_left
                · (intro w hSw; (try dsimp only at hSw); go_simp; (first | done | with_reducible rfl))
                try simp only [Act.put, List.setIfInBounds_toArray, List.set_cons_zero, List.set_cons_succ]
                refine takeL (i := 24) (v := ?_) rfl (by kernel_rfl) (by kernel_rfl) (by kernel_rfl) (fun _ _ _ h => h) (.inl ⟨by rfl, ?_⟩) (by assumption) ?_
                rotate_left
                · (intro w hSw; (try dsimp only at hSw); go_simp; (first | done | with_reducible rfl))
                try simp only [Act.put, List.setIfInBounds_toArray, List.set_cons_zero, List.set_cons_succ]
                refine takeL (i := 26) (v := ?_) rfl (by kernel_rfl) (by kernel_rfl) (by kernel_rfl) (fun _ _ _ h => h) (.inl ⟨by rfl, ?_⟩) (by assumption) ?_
                rotate_left
                · (intro w hSw; (try dsimp only at hSw); go_simp; (first | done | with_reducible rfl))
                try simp only [Act.put, List.setIfInBounds_toArray, List.set_cons_zero, List.set_cons_succ]
                refine takeL (i := 27) (v := ?_) rfl (by kernel_rfl) (by kernel_rfl) (by kernel_rfl) (fun _ _ _ h => h) (.inl ⟨by rfl, ?_⟩) (by assumption) ?_
                rotate_left
                · (intro w hSw; (try dsimp only at hSw); go_simp; (first | done | with_reducible rfl))
                try simp only [Act.put, List.setIfInBounds_toArray, List.set_cons_zero, List.set_cons_succ]
                refine takeL (i := 28) (v := ?_) rfl (by kernel_rfl) (by kernel_rfl) (by kernel_rfl) (fun _ _ _ h => h) (.inl ⟨by rfl, ?_⟩) (by assumption) ?_
                rotate_left
                · (intro w hSw; (try dsimp only at hSw); go_simp; (first | done | with_reducible rfl))
                try simp only [Act.put, List.setIfInBounds_toArray, List.set_cons_zero, List.set_cons_succ]
                refine takeL (i := 29) (v := ?_) rfl (by kernel_rfl) (by kernel_rfl) (by kernel_rfl) (fun _ _ _ h => h) (.inl ⟨by rfl, ?_⟩) (by assumption) ?_
                rotate_left
                · (intro w hSw; (try dsimp only at hSw); go_simp; (first | done | with_reducible rfl))
                try simp only [Act.put, List.setIfInBounds_toArray, List.set_cons_zero, List.set_cons_succ]
                refine takeL (i := 30) (v := ?_) rfl (by kernel_rfl) (by kernel_rfl) (by kernel_rfl) (fun _ _ _ h => h) (.inl ⟨by rfl, ?_⟩) (by assumption) ?_
                rotate_left
                · (intro w hSw; (try dsimp only at hSw); go_simp; (first | done | with_reducible rfl))
                try simp only [Act.put, List.setIfInBounds_toArray, List.set_cons_zero, List.set_cons_succ]
                have HY9 := HY7
                have HK9' := HK7
                refine takeL (i := 31) (v := undef) rfl (by kernel_rfl) (by kernel_rfl) (by kernel_rfl) (fun _ _ _ h => h) (.inr ⟨by rfl, rfl⟩) (by assumption) ?_
                try simp only [Act.put, List.setIfInBounds_toArray, List.set_cons_zero, List.set_cons_succ]
                refine takeL (i := 32) (v := undef) rfl (by kernel_rfl) (by kernel_rfl) (by kernel_rfl) (fun _ _ _ h => h) (.inr ⟨by rfl, rfl⟩) (by assumption) ?_
                try simp only [Act.put, List.setIfInBounds_toArray, List.set_cons_zero, List.set_cons_succ]
                refine takeL (i := 34) (v := undef) rfl (by kernel_rfl) (by kernel_rfl) (by kernel_rfl) (fun _ _ _ h => h) (.inr ⟨by rfl, rfl⟩) (by assumption) ?_
                try simp only [Act.put, List.setIfInBounds_toArray, List.set_cons_zero, List.set_cons_succ]
                refine takeL (i := 35) (v := undef) rfl (by kernel_rfl) (by kernel_rfl) (by kernel_rfl) (fun _ _ _ h => h) (.inr ⟨by rfl, rfl⟩) (by assumption) ?_
                try simp only [Act.put, List.setIfInBounds_toArray, List.set_cons_zero, List.set_cons_succ]
                refine takeL (i := 38) (v := undef) rfl (by kernel_rfl) (by kernel_rfl) (by kernel_rfl) (fun _ _ _ h => h) (.inr ⟨by rfl, rfl⟩) (by assumption) ?_
                try simp only [Act.put, List.setIfInBounds_toArray, List.set_cons_zero, List.set_cons_succ]
                refine takeL (i := 33) (v := undef) rfl (by kernel_rfl) (by kernel_rfl) (by kernel_rfl) (fun _ _ _ h => h) (.inr ⟨by rfl, rfl⟩) (by assumption) ?_
                try simp only [Act.put, List.setIfInBounds_toArray, List.set_cons_zero, List.set_cons_succ]
                refine takeL (i := 36) (v := undef) rfl (by kernel_rfl) (by kernel_rfl) (by kernel_rfl) (fun _ _ _ h => h) (.inr ⟨by rfl, rfl⟩) (by assumption) ?_
                try simp only [Act.put, List.setIfInBounds_toArray, List.set_cons_zero, List.set_cons_succ]
                refine takeL (i := 37) (v := undef) rfl (by kernel_rfl) (by kernel_rfl) (by kernel_rfl) (fun _ _ _ h => h) (.inr ⟨by rfl, rfl⟩) (by assumption) ?_
                try simp only [Act.put, List.setIfInBounds_toArray, List.set_cons_zero, List.set_cons_succ]
                refine takeL (i := 39) (v := undef) rfl (by kernel_rfl) (by kernel_rfl) (by kernel_rfl) (fun _ _ _ h => h) (.inr ⟨by rfl, rfl⟩) (by assumption) ?_
                try simp only [Act.put, List.setIfInBounds_toArray, List.set_cons_zero, List.set_cons_succ]
                refine takeL (i := 40) (v := undef) rfl (by kernel_rfl) (by kernel_rfl) (by kernel_rfl) (fun _ _ _ h => h) (.inr ⟨by rfl, rfl⟩) (by assumption) ?_
                try simp only [Act.put, List.setIfInBounds_toArray, List.set_cons_zero, List.set_cons_succ]
                refine takeL (i := 41) (v := ?_) rfl (by kernel_rfl) (by kernel_rfl) (by kernel_rfl) (fun _ _ _ h => h) (.inl ⟨by rfl, ?_⟩) (by assumption) ?_
                rotate_left
                · (intro w hSw; (try dsimp only at hSw); go_simp; (first | done | with_reducible rfl))
                try simp only [Act.put, List.setIfInBounds_toArray, List.set_cons_zero, List.set_cons_succ]
                refine takeL (i := 42) (v := ?_) rfl (by kernel_rfl) (by kernel_rfl) (by kernel_rfl) (fun _ _ _ h => h) (.inl ⟨by rfl, ?_⟩) (by assumption) ?_
                rotate_left
                · (intro w hSw; (try dsimp only at hSw); go_simp; (first | done | with_reducible rfl))
                try simp only [Act.put, List.setIfInBounds_toArray, List.set_cons_zero, List.set_cons_succ]
                refine wpAnyH_done (by kernel_rfl) ?_ _
                clear hHeld
                have HSI9 : Hid (lg0.size = sz) := by
                  show _ = _
                  rw [HSIZ.out]
                  exact HQ.out.2
                go_wp2
                have hsz9 : lg0.size = sz := by have h1 := HP1.out.si; have h2 := HSI9.out; exact h2
                first
                | exact ⟨⟨k + 1, q + 1, dk0, dk2, lg0, lg2, S4, S6, by go_num, by omega, by omega, HP2, Lib.hid ⟨by have := HQ.out.1; omega, hsz9⟩, HY9, HK9'⟩, by simp [intOf]; omega⟩
                | (go_roundw
                   case rel => exact ⟨k + 1, q + 1, dk0, dk2, lg0, lg2, S4, S6, by go_num, by omega, by omega, HP2, Lib.hid ⟨by have := HQ.out.1; omega, hsz9⟩, HY9, HK9'⟩
                   case measure => simp [intOf]; omega)
      | false =>
        go_upto_region 22 with fail
        have dl0 : wr.cell? ⟨bl, 0, none⟩ = some (.pointer (some ⟨l0, 0, none⟩)) := by rw [blk_cell HK.out.2]; rfl
        have dl1 : wr.cell? ⟨bl, 1, none⟩ = some (.pointer (some ⟨l1, 0, none⟩)) := by rw [blk_cell HK.out.2]; rfl
        have hfew0 : g0.firsts.length ≤ 1000000 := by have := HPR.out.a.nfew; have := HQ.out.1; omega
        have hfew1 : g1.firsts.length ≤ 1000000 := by have := HPR.out.b.nfew; have := HQ.out.1; omega
        obtain ⟨K, hKK⟩ : ∃ K, g0.firsts.length = K := ⟨_, rfl⟩
        have hK100 : K ≤ 100 := by have := HPR.out.a.nfew; have := HQ.out.1; omega
        have hnl : (lFiles g0).length = K := by unfold lFiles; rw [List.length_map, hKK]
        have hsame : lFiles g1 = lFiles g0 := by unfold lFiles; rw [HPR.out.fi]
        have HF0 := Lib.hid (HY.out.a.files hfew0)
        have HF1 := Lib.hid (fun w3 (hb3 : Below wr.heap.size wr w3) => hsame ▸ (HY.out.below hb3).b.files hfew1)
        have HKK := Lib.hid hKK
        have HNL := Lib.hid hnl
        clear hfew0 hfew1 hKK hnl hsame
        go_wp2_with fail
        refine HF0.out.mono ?_
        rintro e w2 ⟨z2, rfl, hz2, hb2⟩
        obtain ⟨A2, c2, rfl, _, _⟩ := hz2.form
        rw [HNL.out] at hz2 ⊢
        have HZ2 := Lib.hid hz2
        have HB2 := Lib.hid hb2
        have dl12 := cell_later hb2 dl1
        clear hz2 hb2 HF0
        go_wp2_with fail
        refine (HF1.out _ HB2.out).mono ?_
        rintro e w3 ⟨z3, rfl, hz3, hb3⟩
        have HST := Lib.hid (sameTexts_any _ _ _ _ w3 (HZ2.out.below hb3) hz3)
        rw [show decide (lFiles g0 = lFiles g0) = true by simp] at HST
        obtain ⟨A3, c3, rfl, _, _⟩ := hz3.form
        have HZ3 := Lib.hid (HZ2.out.below hb3)
        have HB3 := Lib.hid (HB2.out.trans (hb3.mono HB2.out.size))
        clear hz3 hb3 HF1 HZ2
        go_wp2_with fail
        refine HST.out.mono ?_
        rintro e w4 ⟨rfl, hb4⟩
        have HZ4 := Lib.hid (HZ3.out.below hb4)
        have HB4 := Lib.hid (HB3.out.trans (hb4.mono HB3.out.size))
        clear hb4 HST HZ3 dl0 dl1 dl12
        go_wp2_with fail
        go_loopw [172] (fun i wx => ∃ m : Nat, i = .int .i64 m ∧ m ≤ K ∧ Hid (Below w4.heap.size w4 wx)) (fun i _ => K - (intOf i).toNat)
        case atStart => exact ⟨0, rfl, Nat.zero_le _, Lib.hid (Below.refl _ _)⟩
        case round =>
          rename World => wx
          obtain ⟨m, rfl, hm, HBX⟩ := hrel
          have hbx := HB4.out.trans (HBX.out.mono HB4.out.size)
          have HYX := Lib.hid (HY.out.below hbx)
          have dd0 : wx.cell? ⟨w.heap.size, 0, none⟩ = some (.pointer (some ⟨d0, 0, none⟩)) := by rw [blk_cell (blk_below hbx HK.out.1)]; rfl
          have dd1 : wx.cell? ⟨w.heap.size, 1, none⟩ = some (.pointer (some ⟨d1, 0, none⟩)) := by rw [blk_cell (blk_below hbx HK.out.1)]; rfl
          by_cases hlt : m < K
          · have hmi : (m : Int) < K := by omega
            obtain ⟨fv, hfv⟩ : ∃ f, g0.firsts[m]? = some f := ⟨_, List.getElem?_eq_getElem (by rw [HKK.out]; exact hlt)⟩
            obtain ⟨hh0, hh1, hby⟩ := HPR.out.bytes (List.mem_of_getElem? hfv)
            have hnm : (lFiles g0)[m]? = some (nameL fv) := by unfold lFiles; rw [List.getElem?_map, hfv]; rfl
            obtain ⟨bz, oz, hA, dz⟩ := HZ4.out.at hnm
            subst hA
            have dzx := cell_later HBX.out dz
            obtain ⟨nm, hnn⟩ : ∃ nm, nameL fv = nm := ⟨_, rfl⟩
            rw [hnn] at hh0 hh1 hby dzx
            have HR0 := Lib.hid (HYX.out.a.read HPR.out.a.ok HPR.out.a.lit nm hh0)
            have HR1 := Lib.hid (fun w5 (hb5 : Below wx.heap.size wx w5) => (HYX.out.below hb5).b.read HPR.out.b.ok HPR.out.b.lit nm hh1)
            have HBY := Lib.hid hby
            clear hfv hh0 hh1 hby hnm dz hnn hbx
            go_wp2_with fail
            refine HR0.out.mono ?_
            rintro e w5 ⟨z5, rfl, hz5, hb5⟩
            have hr5 := hz5.reads
            obtain ⟨A5, c5, rfl⟩ := bytes_form hz5
            have HZ5 := Lib.hid hr5
            have HB5 := Lib.hid hb5
            have dd15 := cell_later hb5 dd1
            clear hz5 hr5 hb5 HR0
            go_wp2_with fail
            refine (HR1.out _ HB5.out).mono ?_
            rintro e w6 ⟨z6, rfl, hz6, hb6⟩
            have hsb := sameBytes_any _ _ _ _ w6 (HZ5.out.below hb6) hz6.reads
            rw [show decide ((lookF k0.fs nm).bs = (lookF k1.fs nm).bs) = true by simp [HBY.out]] at hsb
            obtain ⟨A6, c6, rfl⟩ := bytes_form hz6
            have HSB := Lib.hid hsb
            have HB6 := Lib.hid (HBX.out.trans ((HB5.out.trans (hb6.mono HB5.out.size)).mono HBX.out.size))
            clear hz6 hb6 hsb HR1
            go_wp2_with fail
            refine HSB.out.mono ?_
            rintro e w' ⟨rfl, hw⟩
            subst hw
            go_wp2
            go_roundw
            case rel => exact ⟨m + 1, by go_num, by omega, HB6⟩
            case measure => simp [intOf]; omega
          · obtain rfl : m = K := by omega
            have HAW := Lib.hid (awake_any wx HYX.out.a.gb.gok)
            clear hbx
            go_wp2_with fail
            refine HAW.out.mono ?_
            rintro e w20 ⟨rfl, hb⟩
            have HFIN : Hid (Below w.heap.size w w20) := Lib.hid (HYX.out.a.be.trans (hb.mono HYX.out.a.be.size))
            clear hb
            go_wp2_with fail
            exact bodyPost_ret (v := .bool true) (by simp [results]) rfl ⟨rfl, HFIN.out⟩
end Go.Proofs.YthehpafkaefohaaDoor

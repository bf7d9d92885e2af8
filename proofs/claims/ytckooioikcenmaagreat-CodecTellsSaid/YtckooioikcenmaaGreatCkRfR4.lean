/- The pen that reads: hist. Conditions: sizes a machine can have. -/
import Derived.Test.YtckooioikcenmaaGreatCkM12
namespace Go.Proofs.YtckooioikcenmaaGreat
open Go.RowKit
def HistRd (base p d : Nat) (s' : Pn) (y0 : ByteArray) (y1 : Int) (y2 : List DCmd) (y3 : List Int) (y4 : List DKnown) (y5 : List Int) (y6 : Bool) (y7 : Bool) (y8 : Int) (y9 : Int) (y10 : Int) (y11 : Int) (nA nB nC nD nE nF : Value) (w : World) (e : Ending) (w' : World) : Prop :=
  e = .returned (.tuple #[]) ∧ ∃ v2 v3 v4 v5 : Value, PR base p w' s' ∧ Chg p d w w' ∧ w'.heap[d]? = some (.cells #[nA, nB, .string y0, .int .i64 y1, v2, v3, v4, v5, .bool y6, .bool y7, .int .i64 y8, .int .i64 y9, .int .i64 y10, .int .i64 y11, nC, nD, nE, nF] 65) ∧ LOwn 191 mCmd base w' v2 y2 ∧ LOwn 3 mI base w' v3 y3 ∧ LOwn 202 mKnown base w' v4 y4 ∧ LOwn 2 mI base w' v5 y5
set_option maxRecDepth 20000 in
set_option maxHeartbeats 16000000 in
theorem penHist_rd {base p d : Nat} {st s1 s2 s3 s4 s5 s6 s7 s8 s9 s10 s11 s12 : Pn} {y0 : ByteArray} {y1 : Int} {y2 : List DCmd} {y3 : List Int} {y4 : List DKnown} {y5 : List Int} {y6 : Bool} {y7 : Bool} {y8 : Int} {y9 : Int} {y10 : Int} {y11 : Int} {nA nB nC nD nE nF : Value} {w : World} (hs : PR base p w st) (hd : w.heap[d]? = some (.cells #[nA, nB, .string ⟨#[]⟩, .int .i64 0, .slice none 0 0, .slice none 0 0, .slice none 0 0, .slice none 0 0, .bool false, .bool false, .int .i64 0, .int .i64 0, .int .i64 0, .int .i64 0, nC, nD, nE, nF] 65))
    (q0 : pC cS st ⟨#[]⟩ = (y0, s1)) (q1 : pC cI s1 0 = (y1, s2)) (q2 : pC (cL cCmd) s2 [] = (y2, s3)) (q3 : pC (cL cI) s3 [] = (y3, s4)) (q4 : pC (cL cKnown) s4 [] = (y4, s5)) (q5 : pC (cL cI) s5 [] = (y5, s6)) (q6 : pC cF s6 false = (y6, s7)) (q7 : pC cF s7 false = (y7, s8)) (q8 : pC cI s8 0 = (y8, s9)) (q9 : pC cI s9 0 = (y9, s10)) (q10 : pC cI s10 0 = (y10, s11)) (q11 : pC cI s11 0 = (y11, s12)) (hne : d ≠ p) (hbd : base ≤ d) :
    Calls Tryz.prog 104 #[.pointer (some ⟨p, 0, none⟩), .pointer (some ⟨d, 2, none⟩)] w (HistRd base p d s12 y0 y1 y2 y3 y4 y5 y6 y7 y8 y9 y10 y11 nA nB nC nD nE nF w) := by
  have C0 : Hid (RS base p d w st w) := ⟨hs, Chg.refl _ _ _⟩
  have D0 := Lib.hid hd
  have Q0 := Lib.hid q0
  have Q1 := Lib.hid q1
  have Q2 := Lib.hid q2
  have Q3 := Lib.hid q3
  have Q4 := Lib.hid q4
  have Q5 := Lib.hid q5
  have Q6 := Lib.hid q6
  have Q7 := Lib.hid q7
  have Q8 := Lib.hid q8
  have Q9 := Lib.hid q9
  have Q10 := Lib.hid q10
  have Q11 := Lib.hid q11
  clear hs hd q0 q1 q2 q3 q4 q5 q6 q7 q8 q9 q10 q11
  go_enter Tryz.func104, Tryz.ntmps104
  go_wp2_with fail
  refine (rdText (o := 2) (cs' := #[nA, nB, .string y0, .int .i64 0, .slice none 0 0, .slice none 0 0, .slice none 0 0, .slice none 0 0, .bool false, .bool false, .int .i64 0, .int .i64 0, .int .i64 0, .int .i64 0, nC, nD, nE, nF]) C0.out D0.out Q0.out rfl rfl (.inl rfl) hne hbd).mono ?_
  rintro e w101 ⟨rfl, hc, hd2, hch⟩
  have C101 := Lib.hid hc
  have D101 := Lib.hid hd2
  clear hc hd2 hch
  go_wp2_with fail
  refine (rdNum (o := 3) (cs' := #[nA, nB, .string y0, .int .i64 y1, .slice none 0 0, .slice none 0 0, .slice none 0 0, .slice none 0 0, .bool false, .bool false, .int .i64 0, .int .i64 0, .int .i64 0, .int .i64 0, nC, nD, nE, nF]) C101.out D101.out Q1.out rfl rfl (.inl rfl) hne hbd).mono ?_
  rintro e w102 ⟨rfl, hc, hd2, hch⟩
  have C102 := Lib.hid hc
  have D102 := Lib.hid hd2
  clear hc hd2 hch
  have cl := blk_cell D102.out 4
  simp at cl
  go_wp2_with fail
  refine (rdMany C102.out D102.out (.inl rfl) hne hbd).mono ?_
  rintro e w103 ⟨rfl, hc, hd2, hch⟩
  have n1030 : (pM s2 0).1 ≤ 1000000000 := Nat.le_trans (pM_le C102.out.pr.rd) C102.out.pr.sm
  have HR : Hid (pIt cCmd (0, 0, ⟨#[]⟩, 0, 0) (pM s2 0).1 (pM s2 0).2 [] = (y2, s3)) := by show _ = _; rw [← pL_read cCmd (0, 0, ⟨#[]⟩, 0, 0) C102.out.pr.rd]; exact Q2.out
  obtain ⟨n103, hn⟩ : ∃ n, (pM s2 0).1 = n := ⟨_, rfl⟩
  obtain ⟨sq103, hsq⟩ : ∃ q, (pM s2 0).2 = q := ⟨_, rfl⟩
  rw [hn] at n1030 HR ⊢
  rw [hsq] at HR hc
  clear hn hsq cl
  have HL103 : Hid (RL cCmd (0, 0, ⟨#[]⟩, 0, 0) mCmd 191 base p d 65 (fun v => #[nA, nB, .string y0, .int .i64 y1, v, .slice none 0 0, .slice none 0 0, .slice none 0 0, .bool false, .bool false, .int .i64 0, .int .i64 0, .int .i64 0, .int .i64 0, nC, nD, nE, nF]) w w103 n103 (y2, s3) [] sq103 (.slice none 0 0) w103) := RL.start hc hd2 HR.out
  have CM103 := Lib.hid hc
  have DM103 := Lib.hid hd2
  clear hc hd2 hch HR
  go_wp2
  go_loopw [4] (fun ix wl => ∃ k : Nat, ix = .int .i64 k ∧ k ≤ n103 ∧ Hid (∃ acc s v, acc.length = k ∧ RL cCmd (0, 0, ⟨#[]⟩, 0, 0) mCmd 191 base p d 65 (fun v => #[nA, nB, .string y0, .int .i64 y1, v, .slice none 0 0, .slice none 0 0, .slice none 0 0, .bool false, .bool false, .int .i64 0, .int .i64 0, .int .i64 0, .int .i64 0, nC, nD, nE, nF]) w w103 n103 (y2, s3) acc s v wl)) (fun ix _ => n103 - (intOf ix).toNat)
  case atStart => exact ⟨0, rfl, by omega, ⟨_, _, _, rfl, HL103.out⟩⟩
  case round =>
    obtain ⟨kk, rfl, hk103, HW⟩ := hrel
    obtain ⟨acc103, sx103, vx, hka, hL⟩ := HW.out
    subst hka
    obtain ⟨wz103, hwr⟩ : ∃ z, z = wr := ⟨_, rfl⟩
    subst hwr
    obtain ⟨Av103, cv103, rfl⟩ := hL.len
    have tb := hL.pr.cell3
    have tr := hL.pr.cell2
    have HX103 := Lib.hid hL
    clear HW hL HL103
    obtain ⟨gg, hg⟩ : ∃ g : Bool, (decide (acc103.length < n103) && !sx103.bad) = g := ⟨_, rfl⟩
    have HG103 := Lib.hid hg
    clear hg
    go_upto_region 3 with fail
    go_cut [43] (fun sl wx => sl = .bool gg ∧ wz103 = wx)
    case first =>
      by_cases h1 : acc103.length < n103
      · cases hb : sx103.bad with
        | true =>
          have hgg : gg = false := by rw [← HG103.out]; simp [h1, hb]
          have HGG := Lib.hid hgg
          rw [hb] at tb
          clear hb hgg
          go_wp2
          go_meet
          exact ⟨by rw [HGG.out], rfl⟩
        | false =>
          have hgg : gg = true := by rw [← HG103.out]; simp [h1, hb]
          have HGG := Lib.hid hgg
          rw [hb] at tb
          clear hb hgg
          go_wp2
          go_meet
          exact ⟨by rw [HGG.out], rfl⟩
      · have hgg : gg = false := by rw [← HG103.out]; simp [h1]
        have HGG := Lib.hid hgg
        clear hgg
        go_wp2
        go_meet
        exact ⟨by rw [HGG.out], rfl⟩
    case rest =>
      obtain ⟨rfl, hwx⟩ := hcut
      subst hwx
      cases gg with
      | true =>
        obtain ⟨h1, h2⟩ : acc103.length < n103 ∧ sx103.bad = false := by simpa using HG103.out
        rw [h2] at tb
        have H2103 := Lib.hid h2
        clear HG103 h2
        have hbw : base ≤ (wz103.alloc (.cells #[.int .i64 0, .int .u8 0, .string ⟨#[]⟩, .int .i64 0, .int .i64 0] 191)).heap.size := by have := HX103.out.pr.lt; have := HX103.out.pr.hr; simp; omega
        have cl := blk_cell HX103.out.blk 4
        simp at cl
        have HOW : Hid (LOwn 191 mCmd base (wz103.alloc (.cells #[.int .i64 0, .int .u8 0, .string ⟨#[]⟩, .int .i64 0, .int .i64 0] 191)) _ acc103) := HX103.out.own.keep mCmd_law (Stay.below ((Below.refl _ _).alloc (Nat.le_refl _) _))
        have HAL : Hid ((wz103.alloc (.cells #[.int .i64 0, .int .u8 0, .string ⟨#[]⟩, .int .i64 0, .int .i64 0] 191)).heap[wz103.heap.size]? = some (.cells ([.int .i64 0, .int .u8 0, .string ⟨#[]⟩, .int .i64 0, .int .i64 0] : List Value).toArray 191)) := alloc_at _ _
        have hal : acc103.length + 1 ≤ 100000000000 := by omega
        have hzo : ∀ u ∈ ([.int .i64 0, .int .u8 0, .string ⟨#[]⟩, .int .i64 0, .int .i64 0] : List Value), u.oneCell' = true := fun u hu => (List.all_eq_true.1 (rfl : ([.int .i64 0, .int .u8 0, .string ⟨#[]⟩, .int .i64 0, .int .i64 0] : List Value).all (·.oneCell') = true)) u hu
        have HZO := Lib.hid hzo
        clear hzo
        have HUL : Hid (([.int .i64 0, .int .u8 0, .string ⟨#[]⟩, .int .i64 0, .int .i64 0] : List Value).length = mCmd.n) := by show _ = _; rfl
        go_upto_region 7 with (first
          | (with_reducible refine wpList_buildOne rfl (.tmp 55) rfl (.agg #[.int .i64 0, .int .u8 0, .string ⟨#[]⟩, .int .i64 0, .int .i64 0]) #[.int .i64 0, .int .u8 0, .string ⟨#[]⟩, .int .i64 0, .int .i64 0] elemCmd rfl rfl rfl (by decide) (by decide) ?_)
          | ((with_reducible refine wpList_pushZ rfl (.tmp 54) (.tmp 56) rfl elemCmd mCmd_law (by decide) base _ acc103 [.int .i64 0, .int .u8 0, .string ⟨#[]⟩, .int .i64 0, .int .i64 0] wz103.heap.size rfl HOW.out rfl HAL.out HUL.out HZO.out hal (by decide) hbw ?_); intro g103 cp103 w103a hZ hG hat; have hk1 := (HX103.out.pushed hG).2.1; have cl3 := blk_cell hk1 4; have fl3 := blk_free hk1 4; simp at cl3; have HZ103 := Lib.hid (HX103.out.stored mCmd_law (off := 4) hG hZ hat (by decide) rfl hne hbd); clear hZ hG hat hk1 cl))
        clear cl3 fl3 HOW HAL HUL hal HZO hbw
        generalize (w103a.setCell ⟨d, 4, none⟩ (.slice (some ⟨g103, 0, none⟩) (acc103.length + 1) cp103)) = wy103 at HZ103 ⊢
        have cl := blk_cell HZ103.out.blk 4
        simp at cl
        have tr := HZ103.out.pr.cell2
        have HRG : Hid (wy103.rangeAt g103 (acc103.length * 5) [.int .i64 0, .int .u8 0, .string ⟨#[]⟩, .int .i64 0, .int .i64 0]) := HZ103.out.own.range
        have hi1 : Hid ((Tryz.prog.info? 191).map (·.size) = some ([.int .i64 0, .int .u8 0, .string ⟨#[]⟩, .int .i64 0, .int .i64 0] : List Value).length) := by show _ = _; kernel_rfl
        have hi2 : Hid ((Tryz.prog.info? 191).map (·.size) = some (#[.int .i64 0, .int .u8 0, .string ⟨#[]⟩, .int .i64 0, .int .i64 0] : Array Value).size) := by show _ = _; kernel_rfl
        have hone : Hid ((#[.int .i64 0, .int .u8 0, .string ⟨#[]⟩, .int .i64 0, .int .i64 0] : Array Value).all (·.oneCell') = true) := all_oneCell_toArray (cs := [.int .i64 0, .int .u8 0, .string ⟨#[]⟩, .int .i64 0, .int .i64 0]) (fun u hu => List.all_eq_true.1 (rfl : ([.int .i64 0, .int .u8 0, .string ⟨#[]⟩, .int .i64 0, .int .i64 0] : List Value).all (·.oneCell') = true) u hu)
        have HTH : Hid ((wy103.alloc (.cells #[.int .i64 0, .int .u8 0, .string ⟨#[]⟩, .int .i64 0, .int .i64 0] 191)).there wy103.heap.size 0 (#[.int .i64 0, .int .u8 0, .string ⟨#[]⟩, .int .i64 0, .int .i64 0] : Array Value).size) := there_new _ _ _ _ rfl
        have HB103 : Hid (Below wy103.heap.size wy103 ((wy103.alloc (.cells #[.int .i64 0, .int .u8 0, .string ⟨#[]⟩, .int .i64 0, .int .i64 0] 191)).setCells wy103.heap.size 0 [.int .i64 0, .int .u8 0, .string ⟨#[]⟩, .int .i64 0, .int .i64 0])) := below_cells (Nat.le_refl _) _ _ _ ((Below.refl _ _).alloc (Nat.le_refl _) _)
        have HD103 : Hid (((wy103.alloc (.cells #[.int .i64 0, .int .u8 0, .string ⟨#[]⟩, .int .i64 0, .int .i64 0] 191)).setCells wy103.heap.size 0 [.int .i64 0, .int .u8 0, .string ⟨#[]⟩, .int .i64 0, .int .i64 0]).heap[wy103.heap.size]? = some (.cells #[.int .i64 0, .int .u8 0, .string ⟨#[]⟩, .int .i64 0, .int .i64 0] 191)) := fresh_cells wy103 #[.int .i64 0, .int .u8 0, .string ⟨#[]⟩, .int .i64 0, .int .i64 0] #[.int .i64 0, .int .u8 0, .string ⟨#[]⟩, .int .i64 0, .int .i64 0] 191 rfl
        have ckd := blk_cell HD103.out 1
        simp at ckd
        go_wp2_with (first
          | (with_reducible refine wpList_load_mid rfl 191 (.tmp 65) rfl g103 (acc103.length * 5) rfl [.int .i64 0, .int .u8 0, .string ⟨#[]⟩, .int .i64 0, .int .i64 0] _ HRG.out Tryz.underlying191 rfl hi1.out ?_)
          | (with_reducible refine wpList_store_mid rfl 191 (.tmp 6) (.tmp 66) rfl wy103.heap.size 0 #[.int .i64 0, .int .u8 0, .string ⟨#[]⟩, .int .i64 0, .int .i64 0] rfl rfl HTH.out hi2.out hone.out ?_))
        clear HRG HTH hi2 hone
        clear cl
        have hgn103 : wy103.heap.size ≠ p := by have := HZ103.out.pr.lt; omega
        have hgb103 : base ≤ wy103.heap.size := by have := HZ103.out.pr.lt; have := HZ103.out.pr.hr; omega
        have CL103 : Hid (RS base p wy103.heap.size ((wy103.alloc (.cells #[.int .i64 0, .int .u8 0, .string ⟨#[]⟩, .int .i64 0, .int .i64 0] 191)).setCells wy103.heap.size 0 [.int .i64 0, .int .u8 0, .string ⟨#[]⟩, .int .i64 0, .int .i64 0]) sx103 ((wy103.alloc (.cells #[.int .i64 0, .int .u8 0, .string ⟨#[]⟩, .int .i64 0, .int .i64 0] 191)).setCells wy103.heap.size 0 [.int .i64 0, .int .u8 0, .string ⟨#[]⟩, .int .i64 0, .int .i64 0])) := HZ103.out.newb HB103.out
        clear ckd
        have CK103 : Hid (RS base p wy103.heap.size ((wy103.alloc (.cells #[.int .i64 0, .int .u8 0, .string ⟨#[]⟩, .int .i64 0, .int .i64 0] 191)).setCells wy103.heap.size 0 [.int .i64 0, .int .u8 0, .string ⟨#[]⟩, .int .i64 0, .int .i64 0]) sx103 (((wy103.alloc (.cells #[.int .i64 0, .int .u8 0, .string ⟨#[]⟩, .int .i64 0, .int .i64 0] 191)).setCells wy103.heap.size 0 [.int .i64 0, .int .u8 0, .string ⟨#[]⟩, .int .i64 0, .int .i64 0]).alloc (.cells #[.int .u8 0] 5))) := CL103.out.alloc _
        have DK103 : Hid ((((wy103.alloc (.cells #[.int .i64 0, .int .u8 0, .string ⟨#[]⟩, .int .i64 0, .int .i64 0] 191)).setCells wy103.heap.size 0 [.int .i64 0, .int .u8 0, .string ⟨#[]⟩, .int .i64 0, .int .i64 0]).alloc (.cells #[.int .u8 0] 5)).heap[wy103.heap.size]? = some (.cells #[.int .i64 0, .int .u8 0, .string ⟨#[]⟩, .int .i64 0, .int .i64 0] 191)) := blk_alloc HD103.out _
        have HKK103 : Hid ((((wy103.alloc (.cells #[.int .i64 0, .int .u8 0, .string ⟨#[]⟩, .int .i64 0, .int .i64 0] 191)).setCells wy103.heap.size 0 [.int .i64 0, .int .u8 0, .string ⟨#[]⟩, .int .i64 0, .int .i64 0]).alloc (.cells #[.int .u8 0] 5)).heap[((wy103.alloc (.cells #[.int .i64 0, .int .u8 0, .string ⟨#[]⟩, .int .i64 0, .int .i64 0] 191)).setCells wy103.heap.size 0 [.int .i64 0, .int .u8 0, .string ⟨#[]⟩, .int .i64 0, .int .i64 0]).heap.size]? = some (.cells #[.int .u8 0] 5)) := alloc_at _ _
        have hkl103 : wy103.heap.size < ((wy103.alloc (.cells #[.int .i64 0, .int .u8 0, .string ⟨#[]⟩, .int .i64 0, .int .i64 0] 191)).setCells wy103.heap.size 0 [.int .i64 0, .int .u8 0, .string ⟨#[]⟩, .int .i64 0, .int .i64 0]).heap.size := blk_lt HD103.out
        generalize ((wy103.alloc (.cells #[.int .i64 0, .int .u8 0, .string ⟨#[]⟩, .int .i64 0, .int .i64 0] 191)).setCells wy103.heap.size 0 [.int .i64 0, .int .u8 0, .string ⟨#[]⟩, .int .i64 0, .int .i64 0]) = wl103 at HB103 HD103 CL103 CK103 DK103 HKK103 hkl103 ⊢
        have hkn103 : wl103.heap.size ≠ p := by have := HZ103.out.pr.lt; omega
        have hkb103 : base ≤ wl103.heap.size := by omega
        have hkd103 : wy103.heap.size ≠ wl103.heap.size := by omega
        obtain ⟨gk103, hgk⟩ : ∃ k, k = wl103.heap.size := ⟨_, rfl⟩
        have hkg103 : wl103.heap.size ≤ gk103 := by omega
        rw [← hgk] at HKK103 hkl103 hkn103 hkb103 hkd103 ⊢
        clear hgk
        obtain ⟨e103_0, t103_1, q103_0⟩ : ∃ u t, pC cI sx103 0 = (u, t) := ⟨_, _, rfl⟩
        obtain ⟨e103_1, t103_2, q103_1⟩ : ∃ u t, pC cB t103_1 0 = (u, t) := ⟨_, _, rfl⟩
        obtain ⟨e103_2, t103_3, q103_2⟩ : ∃ u t, pC cS t103_2 ⟨#[]⟩ = (u, t) := ⟨_, _, rfl⟩
        obtain ⟨e103_3, t103_4, q103_3⟩ : ∃ u t, pC cI t103_3 0 = (u, t) := ⟨_, _, rfl⟩
        obtain ⟨e103_4, t103_5, q103_4⟩ : ∃ u t, pC cI t103_4 0 = (u, t) := ⟨_, _, rfl⟩
        have HE103 : Hid (pC cCmd sx103 (0, 0, ⟨#[]⟩, 0, 0) = ((e103_0, e103_1, e103_2, e103_3, e103_4), t103_5)) := by show _ = _; unfold cCmd; simp only [pC_seq, q103_0, q103_1, q103_2, q103_3, q103_4]
        have Q103_0 := Lib.hid q103_0
        clear q103_0
        have Q103_1 := Lib.hid q103_1
        clear q103_1
        have Q103_2 := Lib.hid q103_2
        clear q103_2
        have Q103_3 := Lib.hid q103_3
        clear q103_3
        have Q103_4 := Lib.hid q103_4
        clear q103_4
        clear tr tb
        go_wp2_with fail
        refine (rdWhole (o := 0) (cs' := #[.int .i64 e103_0, .int .u8 0, .string ⟨#[]⟩, .int .i64 0, .int .i64 0]) CK103.out DK103.out Q103_0.out rfl rfl (.inl rfl) hgn103 hgb103).mono ?_
        rintro e w104 ⟨rfl, hc, hd2, hch⟩
        have hK104 := hch.blk HKK103.out hkn103 (Ne.symm hkd103)
        have HK104 := Lib.hid hK104
        clear hK104
        have C104 := Lib.hid hc
        have D104 := Lib.hid hd2
        clear hc hd2 hch
        go_wp2_with fail
        refine (rdSmall (o := 0) (cs' := #[.int .u8 e103_1]) C104.out HK104.out Q103_1.out rfl rfl (.inr hkg103) hkn103 hkb103).mono ?_
        rintro e w105 ⟨rfl, hc, hd2, hch⟩
        have C105 := Lib.hid hc
        have HK105 := Lib.hid hd2
        have hD105 := hch.blk D104.out hgn103 hkd103
        have ck105 := blk_cell HK105.out 0
        simp at ck105
        have cl105 := blk_cell hD105 1
        have fl105 := blk_free hD105 1
        simp at cl105
        have D105 : Hid ((w105.setCell ⟨wy103.heap.size, 1, none⟩ (.int .u8 e103_1)).heap[wy103.heap.size]? = some (.cells #[.int .i64 e103_0, .int .u8 e103_1, .string ⟨#[]⟩, .int .i64 0, .int .i64 0] 191)) := by show _ = _; rw [blk_set hD105]; rfl
        have CC105 : Hid (RS base p wy103.heap.size wl103 t103_2 (w105.setCell ⟨wy103.heap.size, 1, none⟩ (.int .u8 e103_1))) := C105.out.setQ hgn103 hgb103 1 _
        clear hc hd2 hch hD105
        go_wp2_with fail
        clear ck105 cl105 fl105
        refine (rdText (o := 2) (cs' := #[.int .i64 e103_0, .int .u8 e103_1, .string e103_2, .int .i64 0, .int .i64 0]) CC105.out D105.out Q103_2.out rfl rfl (.inl rfl) hgn103 hgb103).mono ?_
        rintro e w106 ⟨rfl, hc, hd2, hch⟩
        have C106 := Lib.hid hc
        have D106 := Lib.hid hd2
        clear hc hd2 hch
        go_wp2_with fail
        refine (rdNum (o := 3) (cs' := #[.int .i64 e103_0, .int .u8 e103_1, .string e103_2, .int .i64 e103_3, .int .i64 0]) C106.out D106.out Q103_3.out rfl rfl (.inl rfl) hgn103 hgb103).mono ?_
        rintro e w107 ⟨rfl, hc, hd2, hch⟩
        have C107 := Lib.hid hc
        have D107 := Lib.hid hd2
        clear hc hd2 hch
        go_wp2_with fail
        refine (rdWhole (o := 4) (cs' := #[.int .i64 e103_0, .int .u8 e103_1, .string e103_2, .int .i64 e103_3, .int .i64 e103_4]) C107.out D107.out Q103_4.out rfl rfl (.inl rfl) hgn103 hgb103).mono ?_
        rintro e w108 ⟨rfl, hc, hd2, hch⟩
        have C108 := Lib.hid hc
        have D108 := Lib.hid hd2
        clear hc hd2 hch
        have HY103 : Hid (mCmd.own base w108 [.int .i64 e103_0, .int .u8 e103_1, .string e103_2, .int .i64 e103_3, .int .i64 e103_4] (e103_0, e103_1, e103_2, e103_3, e103_4)) := mCmd_mk
        have HN103 := Lib.hid (HZ103.out.next (q := 1) mCmd_law HB103.out C108.out (by decide) (by decide) hne HY103.out HE103.out h1 H2103.out)
        obtain ⟨hb1, hb2, _⟩ := HZ103.out.back mCmd_law HB103.out C108.out (by decide) hne
        have cl := blk_cell hb1 4
        simp at cl
        have tr := C108.out.pr.cell2
        have HT2 : Hid ((World.drewN w108 1).there g103 (acc103.length * 5) (#[.int .i64 e103_0, .int .u8 e103_1, .string e103_2, .int .i64 e103_3, .int .i64 e103_4] : Array Value).size) := hb2.there (n := 5) rfl
        have hlna : ((acc103.length : Nat) : Int) < (acc103.length : Int) + 1 := by omega
        clear hb1
        have HLG := Lib.hid (range_of D108.out)
        have hi3 : Hid ((Tryz.prog.info? 191).map (·.size) = some ([.int .i64 e103_0, .int .u8 e103_1, .string e103_2, .int .i64 e103_3, .int .i64 e103_4] : List Value).length) := by show _ = _; kernel_rfl
        have hi4 : Hid ((Tryz.prog.info? 191).map (·.size) = some (#[.int .i64 e103_0, .int .u8 e103_1, .string e103_2, .int .i64 e103_3, .int .i64 e103_4] : Array Value).size) := by show _ = _; kernel_rfl
        have hon2 : Hid ((#[.int .i64 e103_0, .int .u8 e103_1, .string e103_2, .int .i64 e103_3, .int .i64 e103_4] : Array Value).all (·.oneCell') = true) := all_oneCell_toArray (cs := [.int .i64 e103_0, .int .u8 e103_1, .string e103_2, .int .i64 e103_3, .int .i64 e103_4]) (fun u hu => List.all_eq_true.1 (rfl : ([.int .i64 e103_0, .int .u8 e103_1, .string e103_2, .int .i64 e103_3, .int .i64 e103_4] : List Value).all (·.oneCell') = true) u hu)
        clear hb2
        go_wp2
        refine wp_region_still_tail 7 (by kernel_rfl) (by kernel_rfl) ?_
        simp only [List.take_succ_cons, List.take_zero, List.drop_succ_cons, List.drop_zero]
        repeat (first | (refine wpStill_load_mid rfl 191 (.tmp 6) rfl wy103.heap.size 0 rfl [.int .i64 e103_0, .int .u8 e103_1, .string e103_2, .int .i64 e103_3, .int .i64 e103_4] _ HLG.out Tryz.underlying191 rfl hi3.out ?_) | still_step)
        try refine wpStill_nil ?_
        change wpList _ _ _ _ _ (World.drewN _ 1)
        go_wp2_with (with_reducible refine wpList_store_mid rfl 191 (.tmp 95) (.tmp 94) rfl g103 (acc103.length * 5) #[.int .i64 e103_0, .int .u8 e103_1, .string e103_2, .int .i64 e103_3, .int .i64 e103_4] rfl rfl HT2.out hi4.out hon2.out ?_)
        go_roundw
        case rel => exact ⟨acc103.length + 1, by go_num, by omega, ⟨acc103 ++ [_], _, _, by simp, HN103.out⟩⟩
        case measure => simp [intOf]; omega
      | false =>
        have hend := HX103.out.end (by have := HG103.out; simpa using this)
        injection hend with h8 h9
        subst h8
        subst h9
        have C103 : Hid (RS base p d w s3 wz103) := HX103.out.rs
        have D103 : Hid (wz103.heap[d]? = some (.cells #[nA, nB, .string y0, .int .i64 y1, .slice Av103 (y2).length cv103, .slice none 0 0, .slice none 0 0, .slice none 0 0, .bool false, .bool false, .int .i64 0, .int .i64 0, .int .i64 0, .int .i64 0, nC, nD, nE, nF] 65)) := HX103.out.blk
        have O103 : Hid (LOwn 191 mCmd base wz103 (.slice Av103 (y2).length cv103) y2) := HX103.out.own
        clear HX103 HG103 CM103 DM103 tb tr
        have cl := blk_cell D103.out 5
        simp at cl
        go_wp2_with fail
        refine (rdMany C103.out D103.out (.inl rfl) hne hbd).mono ?_
        rintro e w109 ⟨rfl, hc, hd2, hch⟩
        have hO103 := O103.out.go mCmd_law C103.out.pr D103.out hch (by decide) (by decide)
        clear O103
        have O103 := Lib.hid hO103
        clear hO103
        have n1090 : (pM s3 0).1 ≤ 1000000000 := Nat.le_trans (pM_le C103.out.pr.rd) C103.out.pr.sm
        have HR : Hid (pIt cI 0 (pM s3 0).1 (pM s3 0).2 [] = (y3, s4)) := by show _ = _; rw [← pL_read cI 0 C103.out.pr.rd]; exact Q3.out
        obtain ⟨n109, hn⟩ : ∃ n, (pM s3 0).1 = n := ⟨_, rfl⟩
        obtain ⟨sq109, hsq⟩ : ∃ q, (pM s3 0).2 = q := ⟨_, rfl⟩
        rw [hn] at n1090 HR ⊢
        rw [hsq] at HR hc
        clear hn hsq cl
        have HL109 : Hid (RL cI 0 mI 3 base p d 65 (fun v => #[nA, nB, .string y0, .int .i64 y1, .slice Av103 (y2).length cv103, v, .slice none 0 0, .slice none 0 0, .bool false, .bool false, .int .i64 0, .int .i64 0, .int .i64 0, .int .i64 0, nC, nD, nE, nF]) w w109 n109 (y3, s4) [] sq109 (.slice none 0 0) w109) := RL.start hc hd2 HR.out
        have CM109 := Lib.hid hc
        have DM109 := Lib.hid hd2
        clear hc hd2 hch HR
        go_wp2
        go_loopw [8] (fun ix wl => ∃ k : Nat, ix = .int .i64 k ∧ k ≤ n109 ∧ Hid (∃ acc s v, acc.length = k ∧ RL cI 0 mI 3 base p d 65 (fun v => #[nA, nB, .string y0, .int .i64 y1, .slice Av103 (y2).length cv103, v, .slice none 0 0, .slice none 0 0, .bool false, .bool false, .int .i64 0, .int .i64 0, .int .i64 0, .int .i64 0, nC, nD, nE, nF]) w w109 n109 (y3, s4) acc s v wl)) (fun ix _ => n109 - (intOf ix).toNat)
        case atStart => exact ⟨0, rfl, by omega, ⟨_, _, _, rfl, HL109.out⟩⟩
        case round =>
          obtain ⟨kk, rfl, hk109, HW⟩ := hrel
          obtain ⟨acc109, sx109, vx, hka, hL⟩ := HW.out
          subst hka
          obtain ⟨wz109, hwr⟩ : ∃ z, z = wr := ⟨_, rfl⟩
          subst hwr
          obtain ⟨Av109, cv109, rfl⟩ := hL.len
          have tb := hL.pr.cell3
          have tr := hL.pr.cell2
          have HX109 := Lib.hid hL
          clear HW hL HL109
          obtain ⟨gg, hg⟩ : ∃ g : Bool, (decide (acc109.length < n109) && !sx109.bad) = g := ⟨_, rfl⟩
          have HG109 := Lib.hid hg
          clear hg
          go_upto_region 18 with fail
          go_cut [112] (fun sl wx => sl = .bool gg ∧ wz109 = wx)
          case first =>
            by_cases h1 : acc109.length < n109
            · cases hb : sx109.bad with
              | true =>
                have hgg : gg = false := by rw [← HG109.out]; simp [h1, hb]
                have HGG := Lib.hid hgg
                rw [hb] at tb
                clear hb hgg
                go_wp2
                go_meet
                exact ⟨by rw [HGG.out], rfl⟩
              | false =>
                have hgg : gg = true := by rw [← HG109.out]; simp [h1, hb]
                have HGG := Lib.hid hgg
                rw [hb] at tb
                clear hb hgg
                go_wp2
                go_meet
                exact ⟨by rw [HGG.out], rfl⟩
            · have hgg : gg = false := by rw [← HG109.out]; simp [h1]
              have HGG := Lib.hid hgg
              clear hgg
              go_wp2
              go_meet
              exact ⟨by rw [HGG.out], rfl⟩
          case rest =>
            obtain ⟨rfl, hwx⟩ := hcut
            subst hwx
            cases gg with
            | true =>
              obtain ⟨h1, h2⟩ : acc109.length < n109 ∧ sx109.bad = false := by simpa using HG109.out
              rw [h2] at tb
              have H2109 := Lib.hid h2
              clear HG109 h2
              have hbw : base ≤ (wz109.alloc (.cells #[.int .i64 0] 3)).heap.size := by have := HX109.out.pr.lt; have := HX109.out.pr.hr; simp; omega
              have cl := blk_cell HX109.out.blk 5
              simp at cl
              have HOW : Hid (LOwn 3 mI base (wz109.alloc (.cells #[.int .i64 0] 3)) _ acc109) := HX109.out.own.keep mI_law (Stay.below ((Below.refl _ _).alloc (Nat.le_refl _) _))
              have HAL : Hid ((wz109.alloc (.cells #[.int .i64 0] 3)).heap[wz109.heap.size]? = some (.cells ([.int .i64 0] : List Value).toArray 3)) := alloc_at _ _
              have hal : acc109.length + 1 ≤ 100000000000 := by omega
              have hzo : ∀ u ∈ ([.int .i64 0] : List Value), u.oneCell' = true := fun u hu => (List.all_eq_true.1 (rfl : ([.int .i64 0] : List Value).all (·.oneCell') = true)) u hu
              have HZO := Lib.hid hzo
              clear hzo
              have HUL : Hid (([.int .i64 0] : List Value).length = mI.n) := by show _ = _; rfl
              go_upto_region 22 with (first
                | (with_reducible refine wpList_buildOne rfl (.const (.int .i64 0)) rfl (.int .i64 0) #[.int .i64 0] elemInt rfl rfl rfl (by decide) (by decide) ?_)
                | ((with_reducible refine wpList_pushZ rfl (.tmp 123) (.tmp 124) rfl elemInt mI_law (by decide) base _ acc109 [.int .i64 0] wz109.heap.size rfl HOW.out rfl HAL.out HUL.out HZO.out hal (by decide) hbw ?_); intro g109 cp109 w109a hZ hG hat; have hk1 := (HX109.out.pushed hG).2.1; have cl3 := blk_cell hk1 5; have fl3 := blk_free hk1 5; simp at cl3; have HZ109 := Lib.hid (HX109.out.stored mI_law (off := 5) hG hZ hat (by decide) rfl hne hbd); clear hZ hG hat hk1 cl))
              clear cl3 fl3 HOW HAL HUL hal HZO hbw
              generalize (w109a.setCell ⟨d, 5, none⟩ (.slice (some ⟨g109, 0, none⟩) (acc109.length + 1) cp109)) = wy109 at HZ109 ⊢
              have cl := blk_cell HZ109.out.blk 5
              simp at cl
              have tr := HZ109.out.pr.cell2
              have cr : wy109.cell? ⟨g109, acc109.length, none⟩ = some (.int .i64 0) := by have := HZ109.out.own.range 0 _ rfl; simpa [show mI.n = 1 from rfl] using this
              have HB109 : Hid (Below wy109.heap.size wy109 (wy109.alloc (.cells #[.int .i64 0] 3))) := (Below.refl _ _).alloc (Nat.le_refl _) _
              have HD109 : Hid ((wy109.alloc (.cells #[.int .i64 0] 3)).heap[wy109.heap.size]? = some (.cells #[.int .i64 0] 3)) := alloc_at _ _
              go_wp2_with fail
              clear cl cr
              have hgn109 : wy109.heap.size ≠ p := by have := HZ109.out.pr.lt; omega
              have hgb109 : base ≤ wy109.heap.size := by have := HZ109.out.pr.lt; have := HZ109.out.pr.hr; omega
              have CL109 : Hid (RS base p wy109.heap.size (wy109.alloc (.cells #[.int .i64 0] 3)) sx109 (wy109.alloc (.cells #[.int .i64 0] 3))) := HZ109.out.newb HB109.out
              generalize (wy109.alloc (.cells #[.int .i64 0] 3)) = wl109 at HB109 HD109 CL109 ⊢
              obtain ⟨e109_0, t109_1, q109_0⟩ : ∃ u t, pC cI sx109 0 = (u, t) := ⟨_, _, rfl⟩
              have HE109 : Hid (pC cI sx109 0 = (e109_0, t109_1)) := q109_0
              have Q109_0 := Lib.hid q109_0
              clear q109_0
              clear tr tb
              go_wp2_with fail
              refine (rdWhole (o := 0) (cs' := #[.int .i64 e109_0]) CL109.out HD109.out Q109_0.out rfl rfl (.inl rfl) hgn109 hgb109).mono ?_
              rintro e w110 ⟨rfl, hc, hd2, hch⟩
              have C110 := Lib.hid hc
              have D110 := Lib.hid hd2
              clear hc hd2 hch
              have HY109 : Hid (mI.own base w110 [.int .i64 e109_0] e109_0) := rfl
              have HN109 := Lib.hid (HZ109.out.next (q := 1) mI_law HB109.out C110.out (by decide) (by decide) hne HY109.out HE109.out h1 H2109.out)
              obtain ⟨hb1, hb2, _⟩ := HZ109.out.back mI_law HB109.out C110.out (by decide) hne
              have cl := blk_cell hb1 5
              simp at cl
              have tr := C110.out.pr.cell2
              have HT2 : Hid ((World.drewN w110 1).there g109 (acc109.length * 1) (#[.int .i64 e109_0] : Array Value).size) := hb2.there (n := 1) rfl
              have hlna : ((acc109.length : Nat) : Int) < (acc109.length : Int) + 1 := by omega
              clear hb1
              obtain ⟨cx, fx⟩ := hb2.one rfl rfl
              clear HT2
              have cr := blk_cell D110.out 0
              simp at cr
              have HM109 := Lib.hid (RZ.one rfl HN109.out)
              clear hb2
              go_wp2
              go_still_tail 7, (by kernel_rfl)
              change wpList _ _ _ _ _ (World.drewN _ 1)
              go_wp2
              go_roundw
              case rel => exact ⟨acc109.length + 1, by go_num, by omega, ⟨acc109 ++ [_], _, _, by simp, HM109.out⟩⟩
              case measure => simp [intOf]; omega
            | false =>
              have hend := HX109.out.end (by have := HG109.out; simpa using this)
              injection hend with h8 h9
              subst h8
              subst h9
              have C109 : Hid (RS base p d w s4 wz109) := HX109.out.rs
              have D109 : Hid (wz109.heap[d]? = some (.cells #[nA, nB, .string y0, .int .i64 y1, .slice Av103 (y2).length cv103, .slice Av109 (y3).length cv109, .slice none 0 0, .slice none 0 0, .bool false, .bool false, .int .i64 0, .int .i64 0, .int .i64 0, .int .i64 0, nC, nD, nE, nF] 65)) := HX109.out.blk
              have O109 : Hid (LOwn 3 mI base wz109 (.slice Av109 (y3).length cv109) y3) := HX109.out.own
              have hO103 := O103.out.go mCmd_law CM109.out.pr DM109.out HX109.out.chg (by decide) (by decide)
              clear O103
              have O103 := Lib.hid hO103
              clear hO103
              clear HX109 HG109 CM109 DM109 tb tr
              have cl := blk_cell D109.out 6
              simp at cl
              go_wp2_with fail
              refine (rdMany C109.out D109.out (.inl rfl) hne hbd).mono ?_
              rintro e w111 ⟨rfl, hc, hd2, hch⟩
              have hO103 := O103.out.go mCmd_law C109.out.pr D109.out hch (by decide) (by decide)
              clear O103
              have O103 := Lib.hid hO103
              clear hO103
              have hO109 := O109.out.go mI_law C109.out.pr D109.out hch (by decide) (by decide)
              clear O109
              have O109 := Lib.hid hO109
              clear hO109
              have n1110 : (pM s4 0).1 ≤ 1000000000 := Nat.le_trans (pM_le C109.out.pr.rd) C109.out.pr.sm
              have HR : Hid (pIt cKnown (0, 0, 0) (pM s4 0).1 (pM s4 0).2 [] = (y4, s5)) := by show _ = _; rw [← pL_read cKnown (0, 0, 0) C109.out.pr.rd]; exact Q4.out
              obtain ⟨n111, hn⟩ : ∃ n, (pM s4 0).1 = n := ⟨_, rfl⟩
              obtain ⟨sq111, hsq⟩ : ∃ q, (pM s4 0).2 = q := ⟨_, rfl⟩
              rw [hn] at n1110 HR ⊢
              rw [hsq] at HR hc
              clear hn hsq cl
              have HL111 : Hid (RL cKnown (0, 0, 0) mKnown 202 base p d 65 (fun v => #[nA, nB, .string y0, .int .i64 y1, .slice Av103 (y2).length cv103, .slice Av109 (y3).length cv109, v, .slice none 0 0, .bool false, .bool false, .int .i64 0, .int .i64 0, .int .i64 0, .int .i64 0, nC, nD, nE, nF]) w w111 n111 (y4, s5) [] sq111 (.slice none 0 0) w111) := RL.start hc hd2 HR.out
              have CM111 := Lib.hid hc
              have DM111 := Lib.hid hd2
              clear hc hd2 hch HR
              go_wp2
              go_loopw [11] (fun ix wl => ∃ k : Nat, ix = .int .i64 k ∧ k ≤ n111 ∧ Hid (∃ acc s v, acc.length = k ∧ RL cKnown (0, 0, 0) mKnown 202 base p d 65 (fun v => #[nA, nB, .string y0, .int .i64 y1, .slice Av103 (y2).length cv103, .slice Av109 (y3).length cv109, v, .slice none 0 0, .bool false, .bool false, .int .i64 0, .int .i64 0, .int .i64 0, .int .i64 0, nC, nD, nE, nF]) w w111 n111 (y4, s5) acc s v wl)) (fun ix _ => n111 - (intOf ix).toNat)
              case atStart => exact ⟨0, rfl, by omega, ⟨_, _, _, rfl, HL111.out⟩⟩
              case round =>
                obtain ⟨kk, rfl, hk111, HW⟩ := hrel
                obtain ⟨acc111, sx111, vx, hka, hL⟩ := HW.out
                subst hka
                obtain ⟨wz111, hwr⟩ : ∃ z, z = wr := ⟨_, rfl⟩
                subst hwr
                obtain ⟨Av111, cv111, rfl⟩ := hL.len
                have tb := hL.pr.cell3
                have tr := hL.pr.cell2
                have HX111 := Lib.hid hL
                clear HW hL HL111
                obtain ⟨gg, hg⟩ : ∃ g : Bool, (decide (acc111.length < n111) && !sx111.bad) = g := ⟨_, rfl⟩
                have HG111 := Lib.hid hg
                clear hg
                go_upto_region 27 with fail
                go_cut [164] (fun sl wx => sl = .bool gg ∧ wz111 = wx)
                case first =>
                  by_cases h1 : acc111.length < n111
                  · cases hb : sx111.bad with
                    | true =>
                      have hgg : gg = false := by rw [← HG111.out]; simp [h1, hb]
                      have HGG := Lib.hid hgg
                      rw [hb] at tb
                      clear hb hgg
                      go_wp2
                      go_meet
                      exact ⟨by rw [HGG.out], rfl⟩
                    | false =>
                      have hgg : gg = true := by rw [← HG111.out]; simp [h1, hb]
                      have HGG := Lib.hid hgg
                      rw [hb] at tb
                      clear hb hgg
                      go_wp2
                      go_meet
                      exact ⟨by rw [HGG.out], rfl⟩
                  · have hgg : gg = false := by rw [← HG111.out]; simp [h1]
                    have HGG := Lib.hid hgg
                    clear hgg
                    go_wp2
                    go_meet
                    exact ⟨by rw [HGG.out], rfl⟩
                case rest =>
                  obtain ⟨rfl, hwx⟩ := hcut
                  subst hwx
                  cases gg with
                  | true =>
                    obtain ⟨h1, h2⟩ : acc111.length < n111 ∧ sx111.bad = false := by simpa using HG111.out
                    rw [h2] at tb
                    have H2111 := Lib.hid h2
                    clear HG111 h2
                    have hbw : base ≤ (wz111.alloc (.cells #[.int .i64 0, .int .i64 0, .int .i64 0] 202)).heap.size := by have := HX111.out.pr.lt; have := HX111.out.pr.hr; simp; omega
                    have cl := blk_cell HX111.out.blk 6
                    simp at cl
                    have HOW : Hid (LOwn 202 mKnown base (wz111.alloc (.cells #[.int .i64 0, .int .i64 0, .int .i64 0] 202)) _ acc111) := HX111.out.own.keep mKnown_law (Stay.below ((Below.refl _ _).alloc (Nat.le_refl _) _))
                    have HAL : Hid ((wz111.alloc (.cells #[.int .i64 0, .int .i64 0, .int .i64 0] 202)).heap[wz111.heap.size]? = some (.cells ([.int .i64 0, .int .i64 0, .int .i64 0] : List Value).toArray 202)) := alloc_at _ _
                    have hal : acc111.length + 1 ≤ 100000000000 := by omega
                    have hzo : ∀ u ∈ ([.int .i64 0, .int .i64 0, .int .i64 0] : List Value), u.oneCell' = true := fun u hu => (List.all_eq_true.1 (rfl : ([.int .i64 0, .int .i64 0, .int .i64 0] : List Value).all (·.oneCell') = true)) u hu
                    have HZO := Lib.hid hzo
                    clear hzo
                    have HUL : Hid (([.int .i64 0, .int .i64 0, .int .i64 0] : List Value).length = mKnown.n) := by show _ = _; rfl
                    go_upto_region 31 with (first
                      | (with_reducible refine wpList_buildOne rfl (.tmp 176) rfl (.agg #[.int .i64 0, .int .i64 0, .int .i64 0]) #[.int .i64 0, .int .i64 0, .int .i64 0] elemKnown rfl rfl rfl (by decide) (by decide) ?_)
                      | ((with_reducible refine wpList_pushZ rfl (.tmp 175) (.tmp 177) rfl elemKnown mKnown_law (by decide) base _ acc111 [.int .i64 0, .int .i64 0, .int .i64 0] wz111.heap.size rfl HOW.out rfl HAL.out HUL.out HZO.out hal (by decide) hbw ?_); intro g111 cp111 w111a hZ hG hat; have hk1 := (HX111.out.pushed hG).2.1; have cl3 := blk_cell hk1 6; have fl3 := blk_free hk1 6; simp at cl3; have HZ111 := Lib.hid (HX111.out.stored mKnown_law (off := 6) hG hZ hat (by decide) rfl hne hbd); clear hZ hG hat hk1 cl))
                    clear cl3 fl3 HOW HAL HUL hal HZO hbw
                    generalize (w111a.setCell ⟨d, 6, none⟩ (.slice (some ⟨g111, 0, none⟩) (acc111.length + 1) cp111)) = wy111 at HZ111 ⊢
                    have cl := blk_cell HZ111.out.blk 6
                    simp at cl
                    have tr := HZ111.out.pr.cell2
                    have HRG : Hid (wy111.rangeAt g111 (acc111.length * 3) [.int .i64 0, .int .i64 0, .int .i64 0]) := HZ111.out.own.range
                    have hi1 : Hid ((Tryz.prog.info? 202).map (·.size) = some ([.int .i64 0, .int .i64 0, .int .i64 0] : List Value).length) := by show _ = _; kernel_rfl
                    have hi2 : Hid ((Tryz.prog.info? 202).map (·.size) = some (#[.int .i64 0, .int .i64 0, .int .i64 0] : Array Value).size) := by show _ = _; kernel_rfl
                    have hone : Hid ((#[.int .i64 0, .int .i64 0, .int .i64 0] : Array Value).all (·.oneCell') = true) := all_oneCell_toArray (cs := [.int .i64 0, .int .i64 0, .int .i64 0]) (fun u hu => List.all_eq_true.1 (rfl : ([.int .i64 0, .int .i64 0, .int .i64 0] : List Value).all (·.oneCell') = true) u hu)
                    have HTH : Hid ((wy111.alloc (.cells #[.int .i64 0, .int .i64 0, .int .i64 0] 202)).there wy111.heap.size 0 (#[.int .i64 0, .int .i64 0, .int .i64 0] : Array Value).size) := there_new _ _ _ _ rfl
                    have HB111 : Hid (Below wy111.heap.size wy111 ((wy111.alloc (.cells #[.int .i64 0, .int .i64 0, .int .i64 0] 202)).setCells wy111.heap.size 0 [.int .i64 0, .int .i64 0, .int .i64 0])) := below_cells (Nat.le_refl _) _ _ _ ((Below.refl _ _).alloc (Nat.le_refl _) _)
                    have HD111 : Hid (((wy111.alloc (.cells #[.int .i64 0, .int .i64 0, .int .i64 0] 202)).setCells wy111.heap.size 0 [.int .i64 0, .int .i64 0, .int .i64 0]).heap[wy111.heap.size]? = some (.cells #[.int .i64 0, .int .i64 0, .int .i64 0] 202)) := fresh_cells wy111 #[.int .i64 0, .int .i64 0, .int .i64 0] #[.int .i64 0, .int .i64 0, .int .i64 0] 202 rfl
                    go_wp2_with (first
                      | (with_reducible refine wpList_load_mid rfl 202 (.tmp 186) rfl g111 (acc111.length * 3) rfl [.int .i64 0, .int .i64 0, .int .i64 0] _ HRG.out Tryz.underlying202 rfl hi1.out ?_)
                      | (with_reducible refine wpList_store_mid rfl 202 (.tmp 13) (.tmp 187) rfl wy111.heap.size 0 #[.int .i64 0, .int .i64 0, .int .i64 0] rfl rfl HTH.out hi2.out hone.out ?_))
                    clear HRG HTH hi2 hone
                    clear cl
                    have hgn111 : wy111.heap.size ≠ p := by have := HZ111.out.pr.lt; omega
                    have hgb111 : base ≤ wy111.heap.size := by have := HZ111.out.pr.lt; have := HZ111.out.pr.hr; omega
                    have CL111 : Hid (RS base p wy111.heap.size ((wy111.alloc (.cells #[.int .i64 0, .int .i64 0, .int .i64 0] 202)).setCells wy111.heap.size 0 [.int .i64 0, .int .i64 0, .int .i64 0]) sx111 ((wy111.alloc (.cells #[.int .i64 0, .int .i64 0, .int .i64 0] 202)).setCells wy111.heap.size 0 [.int .i64 0, .int .i64 0, .int .i64 0])) := HZ111.out.newb HB111.out
                    generalize ((wy111.alloc (.cells #[.int .i64 0, .int .i64 0, .int .i64 0] 202)).setCells wy111.heap.size 0 [.int .i64 0, .int .i64 0, .int .i64 0]) = wl111 at HB111 HD111 CL111 ⊢
                    obtain ⟨e111_0, t111_1, q111_0⟩ : ∃ u t, pC cI sx111 0 = (u, t) := ⟨_, _, rfl⟩
                    obtain ⟨e111_1, t111_2, q111_1⟩ : ∃ u t, pC cI t111_1 0 = (u, t) := ⟨_, _, rfl⟩
                    obtain ⟨e111_2, t111_3, q111_2⟩ : ∃ u t, pC cI t111_2 0 = (u, t) := ⟨_, _, rfl⟩
                    have HE111 : Hid (pC cKnown sx111 (0, 0, 0) = ((e111_0, e111_1, e111_2), t111_3)) := by show _ = _; unfold cKnown; simp only [pC_seq, q111_0, q111_1, q111_2]
                    have Q111_0 := Lib.hid q111_0
                    clear q111_0
                    have Q111_1 := Lib.hid q111_1
                    clear q111_1
                    have Q111_2 := Lib.hid q111_2
                    clear q111_2
                    clear tr tb
                    go_wp2_with fail
                    refine (rdWhole (o := 0) (cs' := #[.int .i64 e111_0, .int .i64 0, .int .i64 0]) CL111.out HD111.out Q111_0.out rfl rfl (.inl rfl) hgn111 hgb111).mono ?_
                    rintro e w112 ⟨rfl, hc, hd2, hch⟩
                    have C112 := Lib.hid hc
                    have D112 := Lib.hid hd2
                    clear hc hd2 hch
                    go_wp2_with fail
                    refine (rdWhole (o := 1) (cs' := #[.int .i64 e111_0, .int .i64 e111_1, .int .i64 0]) C112.out D112.out Q111_1.out rfl rfl (.inl rfl) hgn111 hgb111).mono ?_
                    rintro e w113 ⟨rfl, hc, hd2, hch⟩
                    have C113 := Lib.hid hc
                    have D113 := Lib.hid hd2
                    clear hc hd2 hch
                    go_wp2_with fail
                    refine (rdNum (o := 2) (cs' := #[.int .i64 e111_0, .int .i64 e111_1, .int .i64 e111_2]) C113.out D113.out Q111_2.out rfl rfl (.inl rfl) hgn111 hgb111).mono ?_
                    rintro e w114 ⟨rfl, hc, hd2, hch⟩
                    have C114 := Lib.hid hc
                    have D114 := Lib.hid hd2
                    clear hc hd2 hch
                    have HY111 : Hid (mKnown.own base w114 [.int .i64 e111_0, .int .i64 e111_1, .int .i64 e111_2] (e111_0, e111_1, e111_2)) := mKnown_mk
                    have HN111 := Lib.hid (HZ111.out.next (q := 1) mKnown_law HB111.out C114.out (by decide) (by decide) hne HY111.out HE111.out h1 H2111.out)
                    obtain ⟨hb1, hb2, _⟩ := HZ111.out.back mKnown_law HB111.out C114.out (by decide) hne
                    have cl := blk_cell hb1 6
                    simp at cl
                    have tr := C114.out.pr.cell2
                    have HT2 : Hid ((World.drewN w114 1).there g111 (acc111.length * 3) (#[.int .i64 e111_0, .int .i64 e111_1, .int .i64 e111_2] : Array Value).size) := hb2.there (n := 3) rfl
                    have hlna : ((acc111.length : Nat) : Int) < (acc111.length : Int) + 1 := by omega
                    clear hb1
                    have HLG := Lib.hid (range_of D114.out)
                    have hi3 : Hid ((Tryz.prog.info? 202).map (·.size) = some ([.int .i64 e111_0, .int .i64 e111_1, .int .i64 e111_2] : List Value).length) := by show _ = _; kernel_rfl
                    have hi4 : Hid ((Tryz.prog.info? 202).map (·.size) = some (#[.int .i64 e111_0, .int .i64 e111_1, .int .i64 e111_2] : Array Value).size) := by show _ = _; kernel_rfl
                    have hon2 : Hid ((#[.int .i64 e111_0, .int .i64 e111_1, .int .i64 e111_2] : Array Value).all (·.oneCell') = true) := all_oneCell_toArray (cs := [.int .i64 e111_0, .int .i64 e111_1, .int .i64 e111_2]) (fun u hu => List.all_eq_true.1 (rfl : ([.int .i64 e111_0, .int .i64 e111_1, .int .i64 e111_2] : List Value).all (·.oneCell') = true) u hu)
                    clear hb2
                    go_wp2
                    refine wp_region_still_tail 7 (by kernel_rfl) (by kernel_rfl) ?_
                    simp only [List.take_succ_cons, List.take_zero, List.drop_succ_cons, List.drop_zero]
                    repeat (first | (refine wpStill_load_mid rfl 202 (.tmp 13) rfl wy111.heap.size 0 rfl [.int .i64 e111_0, .int .i64 e111_1, .int .i64 e111_2] _ HLG.out Tryz.underlying202 rfl hi3.out ?_) | still_step)
                    try refine wpStill_nil ?_
                    change wpList _ _ _ _ _ (World.drewN _ 1)
                    go_wp2_with (with_reducible refine wpList_store_mid rfl 202 (.tmp 209) (.tmp 208) rfl g111 (acc111.length * 3) #[.int .i64 e111_0, .int .i64 e111_1, .int .i64 e111_2] rfl rfl HT2.out hi4.out hon2.out ?_)
                    go_roundw
                    case rel => exact ⟨acc111.length + 1, by go_num, by omega, ⟨acc111 ++ [_], _, _, by simp, HN111.out⟩⟩
                    case measure => simp [intOf]; omega
                  | false =>
                    have hend := HX111.out.end (by have := HG111.out; simpa using this)
                    injection hend with h8 h9
                    subst h8
                    subst h9
                    have C111 : Hid (RS base p d w s5 wz111) := HX111.out.rs
                    have D111 : Hid (wz111.heap[d]? = some (.cells #[nA, nB, .string y0, .int .i64 y1, .slice Av103 (y2).length cv103, .slice Av109 (y3).length cv109, .slice Av111 (y4).length cv111, .slice none 0 0, .bool false, .bool false, .int .i64 0, .int .i64 0, .int .i64 0, .int .i64 0, nC, nD, nE, nF] 65)) := HX111.out.blk
                    have O111 : Hid (LOwn 202 mKnown base wz111 (.slice Av111 (y4).length cv111) y4) := HX111.out.own
                    have hO103 := O103.out.go mCmd_law CM111.out.pr DM111.out HX111.out.chg (by decide) (by decide)
                    clear O103
                    have O103 := Lib.hid hO103
                    clear hO103
                    have hO109 := O109.out.go mI_law CM111.out.pr DM111.out HX111.out.chg (by decide) (by decide)
                    clear O109
                    have O109 := Lib.hid hO109
                    clear hO109
                    clear HX111 HG111 CM111 DM111 tb tr
                    have cl := blk_cell D111.out 7
                    simp at cl
                    go_wp2_with fail
                    refine (rdMany C111.out D111.out (.inl rfl) hne hbd).mono ?_
                    rintro e w115 ⟨rfl, hc, hd2, hch⟩
                    have hO103 := O103.out.go mCmd_law C111.out.pr D111.out hch (by decide) (by decide)
                    clear O103
                    have O103 := Lib.hid hO103
                    clear hO103
                    have hO109 := O109.out.go mI_law C111.out.pr D111.out hch (by decide) (by decide)
                    clear O109
                    have O109 := Lib.hid hO109
                    clear hO109
                    have hO111 := O111.out.go mKnown_law C111.out.pr D111.out hch (by decide) (by decide)
                    clear O111
                    have O111 := Lib.hid hO111
                    clear hO111
                    have n1150 : (pM s5 0).1 ≤ 1000000000 := Nat.le_trans (pM_le C111.out.pr.rd) C111.out.pr.sm
                    have HR : Hid (pIt cI 0 (pM s5 0).1 (pM s5 0).2 [] = (y5, s6)) := by show _ = _; rw [← pL_read cI 0 C111.out.pr.rd]; exact Q5.out
                    obtain ⟨n115, hn⟩ : ∃ n, (pM s5 0).1 = n := ⟨_, rfl⟩
                    obtain ⟨sq115, hsq⟩ : ∃ q, (pM s5 0).2 = q := ⟨_, rfl⟩
                    rw [hn] at n1150 HR ⊢
                    rw [hsq] at HR hc
                    clear hn hsq cl
                    have HL115 : Hid (RL cI 0 mI 2 base p d 65 (fun v => #[nA, nB, .string y0, .int .i64 y1, .slice Av103 (y2).length cv103, .slice Av109 (y3).length cv109, .slice Av111 (y4).length cv111, v, .bool false, .bool false, .int .i64 0, .int .i64 0, .int .i64 0, .int .i64 0, nC, nD, nE, nF]) w w115 n115 (y5, s6) [] sq115 (.slice none 0 0) w115) := RL.start hc hd2 HR.out
                    have CM115 := Lib.hid hc
                    have DM115 := Lib.hid hd2
                    clear hc hd2 hch HR
                    go_wp2
                    go_loopw [14] (fun ix wl => ∃ k : Nat, ix = .int .i64 k ∧ k ≤ n115 ∧ Hid (∃ acc s v, acc.length = k ∧ RL cI 0 mI 2 base p d 65 (fun v => #[nA, nB, .string y0, .int .i64 y1, .slice Av103 (y2).length cv103, .slice Av109 (y3).length cv109, .slice Av111 (y4).length cv111, v, .bool false, .bool false, .int .i64 0, .int .i64 0, .int .i64 0, .int .i64 0, nC, nD, nE, nF]) w w115 n115 (y5, s6) acc s v wl)) (fun ix _ => n115 - (intOf ix).toNat)
                    case atStart => exact ⟨0, rfl, by omega, ⟨_, _, _, rfl, HL115.out⟩⟩
                    case round =>
                      obtain ⟨kk, rfl, hk115, HW⟩ := hrel
                      obtain ⟨acc115, sx115, vx, hka, hL⟩ := HW.out
                      subst hka
                      obtain ⟨wz115, hwr⟩ : ∃ z, z = wr := ⟨_, rfl⟩
                      subst hwr
                      obtain ⟨Av115, cv115, rfl⟩ := hL.len
                      have tb := hL.pr.cell3
                      have tr := hL.pr.cell2
                      have HX115 := Lib.hid hL
                      clear HW hL HL115
                      obtain ⟨gg, hg⟩ : ∃ g : Bool, (decide (acc115.length < n115) && !sx115.bad) = g := ⟨_, rfl⟩
                      have HG115 := Lib.hid hg
                      clear hg
                      go_upto_region 38 with fail
                      go_cut [226] (fun sl wx => sl = .bool gg ∧ wz115 = wx)
                      case first =>
                        by_cases h1 : acc115.length < n115
                        · cases hb : sx115.bad with
                          | true =>
                            have hgg : gg = false := by rw [← HG115.out]; simp [h1, hb]
                            have HGG := Lib.hid hgg
                            rw [hb] at tb
                            clear hb hgg
                            go_wp2
                            go_meet
                            exact ⟨by rw [HGG.out], rfl⟩
                          | false =>
                            have hgg : gg = true := by rw [← HG115.out]; simp [h1, hb]
                            have HGG := Lib.hid hgg
                            rw [hb] at tb
                            clear hb hgg
                            go_wp2
                            go_meet
                            exact ⟨by rw [HGG.out], rfl⟩
                        · have hgg : gg = false := by rw [← HG115.out]; simp [h1]
                          have HGG := Lib.hid hgg
                          clear hgg
                          go_wp2
                          go_meet
                          exact ⟨by rw [HGG.out], rfl⟩
                      case rest =>
                        obtain ⟨rfl, hwx⟩ := hcut
                        subst hwx
                        cases gg with
                        | true =>
                          obtain ⟨h1, h2⟩ : acc115.length < n115 ∧ sx115.bad = false := by simpa using HG115.out
                          rw [h2] at tb
                          have H2115 := Lib.hid h2
                          clear HG115 h2
                          have hbw : base ≤ (wz115.alloc (.cells #[.int .i64 0] 2)).heap.size := by have := HX115.out.pr.lt; have := HX115.out.pr.hr; simp; omega
                          have cl := blk_cell HX115.out.blk 7
                          simp at cl
                          have HOW : Hid (LOwn 2 mI base (wz115.alloc (.cells #[.int .i64 0] 2)) _ acc115) := HX115.out.own.keep mI_law (Stay.below ((Below.refl _ _).alloc (Nat.le_refl _) _))
                          have HAL : Hid ((wz115.alloc (.cells #[.int .i64 0] 2)).heap[wz115.heap.size]? = some (.cells ([.int .i64 0] : List Value).toArray 2)) := alloc_at _ _
                          have hal : acc115.length + 1 ≤ 100000000000 := by omega
                          have hzo : ∀ u ∈ ([.int .i64 0] : List Value), u.oneCell' = true := fun u hu => (List.all_eq_true.1 (rfl : ([.int .i64 0] : List Value).all (·.oneCell') = true)) u hu
                          have HZO := Lib.hid hzo
                          clear hzo
                          have HUL : Hid (([.int .i64 0] : List Value).length = mI.n) := by show _ = _; rfl
                          go_upto_region 42 with (first
                            | (with_reducible refine wpList_buildOne rfl (.const (.int .i64 0)) rfl (.int .i64 0) #[.int .i64 0] elemNum rfl rfl rfl (by decide) (by decide) ?_)
                            | ((with_reducible refine wpList_pushZ rfl (.tmp 237) (.tmp 238) rfl elemNum mI_law (by decide) base _ acc115 [.int .i64 0] wz115.heap.size rfl HOW.out rfl HAL.out HUL.out HZO.out hal (by decide) hbw ?_); intro g115 cp115 w115a hZ hG hat; have hk1 := (HX115.out.pushed hG).2.1; have cl3 := blk_cell hk1 7; have fl3 := blk_free hk1 7; simp at cl3; have HZ115 := Lib.hid (HX115.out.stored mI_law (off := 7) hG hZ hat (by decide) rfl hne hbd); clear hZ hG hat hk1 cl))
                          clear cl3 fl3 HOW HAL HUL hal HZO hbw
                          generalize (w115a.setCell ⟨d, 7, none⟩ (.slice (some ⟨g115, 0, none⟩) (acc115.length + 1) cp115)) = wy115 at HZ115 ⊢
                          have cl := blk_cell HZ115.out.blk 7
                          simp at cl
                          have tr := HZ115.out.pr.cell2
                          have cr : wy115.cell? ⟨g115, acc115.length, none⟩ = some (.int .i64 0) := by have := HZ115.out.own.range 0 _ rfl; simpa [show mI.n = 1 from rfl] using this
                          have HB115 : Hid (Below wy115.heap.size wy115 (wy115.alloc (.cells #[.int .i64 0] 2))) := (Below.refl _ _).alloc (Nat.le_refl _) _
                          have HD115 : Hid ((wy115.alloc (.cells #[.int .i64 0] 2)).heap[wy115.heap.size]? = some (.cells #[.int .i64 0] 2)) := alloc_at _ _
                          go_wp2_with fail
                          clear cl cr
                          have hgn115 : wy115.heap.size ≠ p := by have := HZ115.out.pr.lt; omega
                          have hgb115 : base ≤ wy115.heap.size := by have := HZ115.out.pr.lt; have := HZ115.out.pr.hr; omega
                          have CL115 : Hid (RS base p wy115.heap.size (wy115.alloc (.cells #[.int .i64 0] 2)) sx115 (wy115.alloc (.cells #[.int .i64 0] 2))) := HZ115.out.newb HB115.out
                          generalize (wy115.alloc (.cells #[.int .i64 0] 2)) = wl115 at HB115 HD115 CL115 ⊢
                          obtain ⟨e115_0, t115_1, q115_0⟩ : ∃ u t, pC cI sx115 0 = (u, t) := ⟨_, _, rfl⟩
                          have HE115 : Hid (pC cI sx115 0 = (e115_0, t115_1)) := q115_0
                          have Q115_0 := Lib.hid q115_0
                          clear q115_0
                          clear tr tb
                          go_wp2_with fail
                          refine (rdNum (o := 0) (cs' := #[.int .i64 e115_0]) CL115.out HD115.out Q115_0.out rfl rfl (.inl rfl) hgn115 hgb115).mono ?_
                          rintro e w116 ⟨rfl, hc, hd2, hch⟩
                          have C116 := Lib.hid hc
                          have D116 := Lib.hid hd2
                          clear hc hd2 hch
                          have HY115 : Hid (mI.own base w116 [.int .i64 e115_0] e115_0) := rfl
                          have HN115 := Lib.hid (HZ115.out.next (q := 1) mI_law HB115.out C116.out (by decide) (by decide) hne HY115.out HE115.out h1 H2115.out)
                          obtain ⟨hb1, hb2, _⟩ := HZ115.out.back mI_law HB115.out C116.out (by decide) hne
                          have cl := blk_cell hb1 7
                          simp at cl
                          have tr := C116.out.pr.cell2
                          have HT2 : Hid ((World.drewN w116 1).there g115 (acc115.length * 1) (#[.int .i64 e115_0] : Array Value).size) := hb2.there (n := 1) rfl
                          have hlna : ((acc115.length : Nat) : Int) < (acc115.length : Int) + 1 := by omega
                          clear hb1
                          obtain ⟨cx, fx⟩ := hb2.one rfl rfl
                          clear HT2
                          have cr := blk_cell D116.out 0
                          simp at cr
                          have HM115 := Lib.hid (RZ.one rfl HN115.out)
                          clear hb2
                          go_wp2
                          go_still_tail 7, (by kernel_rfl)
                          change wpList _ _ _ _ _ (World.drewN _ 1)
                          go_wp2
                          go_roundw
                          case rel => exact ⟨acc115.length + 1, by go_num, by omega, ⟨acc115 ++ [_], _, _, by simp, HM115.out⟩⟩
                          case measure => simp [intOf]; omega
                        | false =>
                          have hend := HX115.out.end (by have := HG115.out; simpa using this)
                          injection hend with h8 h9
                          subst h8
                          subst h9
                          have C115 : Hid (RS base p d w s6 wz115) := HX115.out.rs
                          have D115 : Hid (wz115.heap[d]? = some (.cells #[nA, nB, .string y0, .int .i64 y1, .slice Av103 (y2).length cv103, .slice Av109 (y3).length cv109, .slice Av111 (y4).length cv111, .slice Av115 (y5).length cv115, .bool false, .bool false, .int .i64 0, .int .i64 0, .int .i64 0, .int .i64 0, nC, nD, nE, nF] 65)) := HX115.out.blk
                          have O115 : Hid (LOwn 2 mI base wz115 (.slice Av115 (y5).length cv115) y5) := HX115.out.own
                          have hO103 := O103.out.go mCmd_law CM115.out.pr DM115.out HX115.out.chg (by decide) (by decide)
                          clear O103
                          have O103 := Lib.hid hO103
                          clear hO103
                          have hO109 := O109.out.go mI_law CM115.out.pr DM115.out HX115.out.chg (by decide) (by decide)
                          clear O109
                          have O109 := Lib.hid hO109
                          clear hO109
                          have hO111 := O111.out.go mKnown_law CM115.out.pr DM115.out HX115.out.chg (by decide) (by decide)
                          clear O111
                          have O111 := Lib.hid hO111
                          clear hO111
                          clear HX115 HG115 CM115 DM115 tb tr
                          go_wp2_with fail
                          refine (rdFlag (o := 8) (cs' := #[nA, nB, .string y0, .int .i64 y1, .slice Av103 (y2).length cv103, .slice Av109 (y3).length cv109, .slice Av111 (y4).length cv111, .slice Av115 (y5).length cv115, .bool y6, .bool false, .int .i64 0, .int .i64 0, .int .i64 0, .int .i64 0, nC, nD, nE, nF]) C115.out D115.out Q6.out rfl rfl (.inl rfl) hne hbd).mono ?_
                          rintro e w117 ⟨rfl, hc, hd2, hch⟩
                          have hO103 := O103.out.go mCmd_law C115.out.pr D115.out hch (by decide) (by decide)
                          clear O103
                          have O103 := Lib.hid hO103
                          clear hO103
                          have hO109 := O109.out.go mI_law C115.out.pr D115.out hch (by decide) (by decide)
                          clear O109
                          have O109 := Lib.hid hO109
                          clear hO109
                          have hO111 := O111.out.go mKnown_law C115.out.pr D115.out hch (by decide) (by decide)
                          clear O111
                          have O111 := Lib.hid hO111
                          clear hO111
                          have hO115 := O115.out.go mI_law C115.out.pr D115.out hch (by decide) (by decide)
                          clear O115
                          have O115 := Lib.hid hO115
                          clear hO115
                          have C117 := Lib.hid hc
                          have D117 := Lib.hid hd2
                          clear hc hd2 hch
                          go_wp2_with fail
                          refine (rdFlag (o := 9) (cs' := #[nA, nB, .string y0, .int .i64 y1, .slice Av103 (y2).length cv103, .slice Av109 (y3).length cv109, .slice Av111 (y4).length cv111, .slice Av115 (y5).length cv115, .bool y6, .bool y7, .int .i64 0, .int .i64 0, .int .i64 0, .int .i64 0, nC, nD, nE, nF]) C117.out D117.out Q7.out rfl rfl (.inl rfl) hne hbd).mono ?_
                          rintro e w118 ⟨rfl, hc, hd2, hch⟩
                          have hO103 := O103.out.go mCmd_law C117.out.pr D117.out hch (by decide) (by decide)
                          clear O103
                          have O103 := Lib.hid hO103
                          clear hO103
                          have hO109 := O109.out.go mI_law C117.out.pr D117.out hch (by decide) (by decide)
                          clear O109
                          have O109 := Lib.hid hO109
                          clear hO109
                          have hO111 := O111.out.go mKnown_law C117.out.pr D117.out hch (by decide) (by decide)
                          clear O111
                          have O111 := Lib.hid hO111
                          clear hO111
                          have hO115 := O115.out.go mI_law C117.out.pr D117.out hch (by decide) (by decide)
                          clear O115
                          have O115 := Lib.hid hO115
                          clear hO115
                          have C118 := Lib.hid hc
                          have D118 := Lib.hid hd2
                          clear hc hd2 hch
                          go_wp2_with fail
                          refine (rdWhole (o := 10) (cs' := #[nA, nB, .string y0, .int .i64 y1, .slice Av103 (y2).length cv103, .slice Av109 (y3).length cv109, .slice Av111 (y4).length cv111, .slice Av115 (y5).length cv115, .bool y6, .bool y7, .int .i64 y8, .int .i64 0, .int .i64 0, .int .i64 0, nC, nD, nE, nF]) C118.out D118.out Q8.out rfl rfl (.inl rfl) hne hbd).mono ?_
                          rintro e w119 ⟨rfl, hc, hd2, hch⟩
                          have hO103 := O103.out.go mCmd_law C118.out.pr D118.out hch (by decide) (by decide)
                          clear O103
                          have O103 := Lib.hid hO103
                          clear hO103
                          have hO109 := O109.out.go mI_law C118.out.pr D118.out hch (by decide) (by decide)
                          clear O109
                          have O109 := Lib.hid hO109
                          clear hO109
                          have hO111 := O111.out.go mKnown_law C118.out.pr D118.out hch (by decide) (by decide)
                          clear O111
                          have O111 := Lib.hid hO111
                          clear hO111
                          have hO115 := O115.out.go mI_law C118.out.pr D118.out hch (by decide) (by decide)
                          clear O115
                          have O115 := Lib.hid hO115
                          clear hO115
                          have C119 := Lib.hid hc
                          have D119 := Lib.hid hd2
                          clear hc hd2 hch
                          go_wp2_with fail
                          refine (rdNum (o := 11) (cs' := #[nA, nB, .string y0, .int .i64 y1, .slice Av103 (y2).length cv103, .slice Av109 (y3).length cv109, .slice Av111 (y4).length cv111, .slice Av115 (y5).length cv115, .bool y6, .bool y7, .int .i64 y8, .int .i64 y9, .int .i64 0, .int .i64 0, nC, nD, nE, nF]) C119.out D119.out Q9.out rfl rfl (.inl rfl) hne hbd).mono ?_
                          rintro e w120 ⟨rfl, hc, hd2, hch⟩
                          have hO103 := O103.out.go mCmd_law C119.out.pr D119.out hch (by decide) (by decide)
                          clear O103
                          have O103 := Lib.hid hO103
                          clear hO103
                          have hO109 := O109.out.go mI_law C119.out.pr D119.out hch (by decide) (by decide)
                          clear O109
                          have O109 := Lib.hid hO109
                          clear hO109
                          have hO111 := O111.out.go mKnown_law C119.out.pr D119.out hch (by decide) (by decide)
                          clear O111
                          have O111 := Lib.hid hO111
                          clear hO111
                          have hO115 := O115.out.go mI_law C119.out.pr D119.out hch (by decide) (by decide)
                          clear O115
                          have O115 := Lib.hid hO115
                          clear hO115
                          have C120 := Lib.hid hc
                          have D120 := Lib.hid hd2
                          clear hc hd2 hch
                          go_wp2_with fail
                          refine (rdWhole (o := 12) (cs' := #[nA, nB, .string y0, .int .i64 y1, .slice Av103 (y2).length cv103, .slice Av109 (y3).length cv109, .slice Av111 (y4).length cv111, .slice Av115 (y5).length cv115, .bool y6, .bool y7, .int .i64 y8, .int .i64 y9, .int .i64 y10, .int .i64 0, nC, nD, nE, nF]) C120.out D120.out Q10.out rfl rfl (.inl rfl) hne hbd).mono ?_
                          rintro e w121 ⟨rfl, hc, hd2, hch⟩
                          have hO103 := O103.out.go mCmd_law C120.out.pr D120.out hch (by decide) (by decide)
                          clear O103
                          have O103 := Lib.hid hO103
                          clear hO103
                          have hO109 := O109.out.go mI_law C120.out.pr D120.out hch (by decide) (by decide)
                          clear O109
                          have O109 := Lib.hid hO109
                          clear hO109
                          have hO111 := O111.out.go mKnown_law C120.out.pr D120.out hch (by decide) (by decide)
                          clear O111
                          have O111 := Lib.hid hO111
                          clear hO111
                          have hO115 := O115.out.go mI_law C120.out.pr D120.out hch (by decide) (by decide)
                          clear O115
                          have O115 := Lib.hid hO115
                          clear hO115
                          have C121 := Lib.hid hc
                          have D121 := Lib.hid hd2
                          clear hc hd2 hch
                          go_wp2_with fail
                          refine (rdNum (o := 13) (cs' := #[nA, nB, .string y0, .int .i64 y1, .slice Av103 (y2).length cv103, .slice Av109 (y3).length cv109, .slice Av111 (y4).length cv111, .slice Av115 (y5).length cv115, .bool y6, .bool y7, .int .i64 y8, .int .i64 y9, .int .i64 y10, .int .i64 y11, nC, nD, nE, nF]) C121.out D121.out Q11.out rfl rfl (.inl rfl) hne hbd).mono ?_
                          rintro e w122 ⟨rfl, hc, hd2, hch⟩
                          have hO103 := O103.out.go mCmd_law C121.out.pr D121.out hch (by decide) (by decide)
                          clear O103
                          have O103 := Lib.hid hO103
                          clear hO103
                          have hO109 := O109.out.go mI_law C121.out.pr D121.out hch (by decide) (by decide)
                          clear O109
                          have O109 := Lib.hid hO109
                          clear hO109
                          have hO111 := O111.out.go mKnown_law C121.out.pr D121.out hch (by decide) (by decide)
                          clear O111
                          have O111 := Lib.hid hO111
                          clear hO111
                          have hO115 := O115.out.go mI_law C121.out.pr D121.out hch (by decide) (by decide)
                          clear O115
                          have O115 := Lib.hid hO115
                          clear hO115
                          have C122 := Lib.hid hc
                          have D122 := Lib.hid hd2
                          clear hc hd2 hch
                          go_wp2
                          exact bodyPost_ret (v := .tuple #[]) (by simp [results]) rfl ⟨rfl, _, _, _, _, C122.out.pr, C122.out.chg, D122.out, O103.out, O109.out, O111.out, O115.out⟩
end Go.Proofs.YtckooioikcenmaaGreat

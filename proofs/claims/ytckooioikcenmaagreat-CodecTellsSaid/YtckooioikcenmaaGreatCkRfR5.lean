/- The pen that reads: rec. Conditions: sizes a machine can have. -/
import Derived.Test.YtckooioikcenmaaGreatCkRfR4
namespace Go.Proofs.YtckooioikcenmaaGreat
open Go.RowKit
def RecRd (base p d : Nat) (s' : Pn) (y0 : ByteArray) (y1 : ByteArray) (y2 : ByteArray) (y3 : Int) (y4 : ByteArray) (y5 : Int) (y6 : List DCmd) (y7 : List Int) (y8 : List DKnown) (y9 : List Int) (y10 : Bool) (y11 : Bool) (y12 : Int) (y13 : Int) (y14 : Int) (y15 : Int) (y16 : List DAct) (y17 : List DSleep)  (w : World) (e : Ending) (w' : World) : Prop :=
  e = .returned (.tuple #[]) ∧ ∃ v6 v7 v8 v9 v16 v17 : Value, PR base p w' s' ∧ Chg p d w w' ∧ w'.heap[d]? = some (.cells #[.string y0, .string y1, .string y4, .int .i64 y5, v6, v7, v8, v9, .bool y10, .bool y11, .int .i64 y12, .int .i64 y13, .int .i64 y14, .int .i64 y15, v16, v17, .string y2, .int .i64 y3] 65) ∧ LOwn 191 mCmd base w' v6 y6 ∧ LOwn 3 mI base w' v7 y7 ∧ LOwn 202 mKnown base w' v8 y8 ∧ LOwn 2 mI base w' v9 y9 ∧ LOwn 138 mAct base w' v16 y16 ∧ LOwn 143 mSleep base w' v17 y17
set_option maxRecDepth 20000 in
set_option maxHeartbeats 16000000 in
theorem penRec_rd {base p d : Nat} {st s1 s2 s3 s4 s5 s6 s7 s8 s9 s10 s11 s12 s13 s14 s15 s16 s17 s18 : Pn} {y0 : ByteArray} {y1 : ByteArray} {y2 : ByteArray} {y3 : Int} {y4 : ByteArray} {y5 : Int} {y6 : List DCmd} {y7 : List Int} {y8 : List DKnown} {y9 : List Int} {y10 : Bool} {y11 : Bool} {y12 : Int} {y13 : Int} {y14 : Int} {y15 : Int} {y16 : List DAct} {y17 : List DSleep}  {w : World} (hs : PR base p w st) (hd : w.heap[d]? = some (.cells #[.string ⟨#[]⟩, .string ⟨#[]⟩, .string ⟨#[]⟩, .int .i64 0, .slice none 0 0, .slice none 0 0, .slice none 0 0, .slice none 0 0, .bool false, .bool false, .int .i64 0, .int .i64 0, .int .i64 0, .int .i64 0, .slice none 0 0, .slice none 0 0, .string ⟨#[]⟩, .int .i64 0] 65))
    (q0 : pC cS st ⟨#[]⟩ = (y0, s1)) (q1 : pC cS s1 ⟨#[]⟩ = (y1, s2)) (q2 : pC cS s2 ⟨#[]⟩ = (y2, s3)) (q3 : pC cI s3 0 = (y3, s4)) (q4 : pC cS s4 ⟨#[]⟩ = (y4, s5)) (q5 : pC cI s5 0 = (y5, s6)) (q6 : pC (cL cCmd) s6 [] = (y6, s7)) (q7 : pC (cL cI) s7 [] = (y7, s8)) (q8 : pC (cL cKnown) s8 [] = (y8, s9)) (q9 : pC (cL cI) s9 [] = (y9, s10)) (q10 : pC cF s10 false = (y10, s11)) (q11 : pC cF s11 false = (y11, s12)) (q12 : pC cI s12 0 = (y12, s13)) (q13 : pC cI s13 0 = (y13, s14)) (q14 : pC cI s14 0 = (y14, s15)) (q15 : pC cI s15 0 = (y15, s16)) (q16 : pC (cL cAct) s16 [] = (y16, s17)) (q17 : pC (cL cSleep) s17 [] = (y17, s18)) (hne : d ≠ p) (hbd : base ≤ d) :
    Calls Tryz.prog 69 #[.pointer (some ⟨p, 0, none⟩), .pointer (some ⟨d, 0, none⟩)] w (RecRd base p d s18 y0 y1 y2 y3 y4 y5 y6 y7 y8 y9 y10 y11 y12 y13 y14 y15 y16 y17  w) := by
  have C0 : Hid (RS base p d w st w) := ⟨hs, Chg.refl _ _ _⟩
  have D0 := Lib.hid hd
  have Q0 := Lib.hid q0
  have Q1 := Lib.hid q1
  have Q2 := Lib.hid q2
  have Q3 := Lib.hid q3
  have Q4 := Lib.hid q4
  have Q5 := Lib.hid q5
  have Q6 := Lib.hid q6
  have Q7 := Lib.hid q7
  have Q8 := Lib.hid q8
  have Q9 := Lib.hid q9
  have Q10 := Lib.hid q10
  have Q11 := Lib.hid q11
  have Q12 := Lib.hid q12
  have Q13 := Lib.hid q13
  have Q14 := Lib.hid q14
  have Q15 := Lib.hid q15
  have Q16 := Lib.hid q16
  have Q17 := Lib.hid q17
  clear hs hd q0 q1 q2 q3 q4 q5 q6 q7 q8 q9 q10 q11 q12 q13 q14 q15 q16 q17
  go_enter Tryz.func69, Tryz.ntmps69
  go_wp2_with fail
  refine (rdText (o := 0) (cs' := #[.string y0, .string ⟨#[]⟩, .string ⟨#[]⟩, .int .i64 0, .slice none 0 0, .slice none 0 0, .slice none 0 0, .slice none 0 0, .bool false, .bool false, .int .i64 0, .int .i64 0, .int .i64 0, .int .i64 0, .slice none 0 0, .slice none 0 0, .string ⟨#[]⟩, .int .i64 0]) C0.out D0.out Q0.out rfl rfl (.inl rfl) hne hbd).mono ?_
  rintro e w101 ⟨rfl, hc, hd2, hch⟩
  have C101 := Lib.hid hc
  have D101 := Lib.hid hd2
  clear hc hd2 hch
  go_wp2_with fail
  refine (rdText (o := 1) (cs' := #[.string y0, .string y1, .string ⟨#[]⟩, .int .i64 0, .slice none 0 0, .slice none 0 0, .slice none 0 0, .slice none 0 0, .bool false, .bool false, .int .i64 0, .int .i64 0, .int .i64 0, .int .i64 0, .slice none 0 0, .slice none 0 0, .string ⟨#[]⟩, .int .i64 0]) C101.out D101.out Q1.out rfl rfl (.inl rfl) hne hbd).mono ?_
  rintro e w102 ⟨rfl, hc, hd2, hch⟩
  have C102 := Lib.hid hc
  have D102 := Lib.hid hd2
  clear hc hd2 hch
  go_wp2_with fail
  refine (rdText (o := 16) (cs' := #[.string y0, .string y1, .string ⟨#[]⟩, .int .i64 0, .slice none 0 0, .slice none 0 0, .slice none 0 0, .slice none 0 0, .bool false, .bool false, .int .i64 0, .int .i64 0, .int .i64 0, .int .i64 0, .slice none 0 0, .slice none 0 0, .string y2, .int .i64 0]) C102.out D102.out Q2.out rfl rfl (.inl rfl) hne hbd).mono ?_
  rintro e w103 ⟨rfl, hc, hd2, hch⟩
  have C103 := Lib.hid hc
  have D103 := Lib.hid hd2
  clear hc hd2 hch
  go_wp2_with fail
  refine (rdWhole (o := 17) (cs' := #[.string y0, .string y1, .string ⟨#[]⟩, .int .i64 0, .slice none 0 0, .slice none 0 0, .slice none 0 0, .slice none 0 0, .bool false, .bool false, .int .i64 0, .int .i64 0, .int .i64 0, .int .i64 0, .slice none 0 0, .slice none 0 0, .string y2, .int .i64 y3]) C103.out D103.out Q3.out rfl rfl (.inl rfl) hne hbd).mono ?_
  rintro e w104 ⟨rfl, hc, hd2, hch⟩
  have C104 := Lib.hid hc
  have D104 := Lib.hid hd2
  clear hc hd2 hch
  go_wp2_with fail
  refine (penHist_rd C104.out.pr D104.out Q4.out Q5.out Q6.out Q7.out Q8.out Q9.out Q10.out Q11.out Q12.out Q13.out Q14.out Q15.out hne hbd).mono ?_
  rintro e w105 ⟨rfl, v105_0, v105_1, v105_2, v105_3, hpr, hch, hd2, ho0, ho1, ho2, ho3⟩
  have O105_0 := Lib.hid ho0
  obtain ⟨A105_0, c105_0, rfl⟩ := O105_0.out.form
  have O105_1 := Lib.hid ho1
  obtain ⟨A105_1, c105_1, rfl⟩ := O105_1.out.form
  have O105_2 := Lib.hid ho2
  obtain ⟨A105_2, c105_2, rfl⟩ := O105_2.out.form
  have O105_3 := Lib.hid ho3
  obtain ⟨A105_3, c105_3, rfl⟩ := O105_3.out.form
  have C105 : Hid (RS base p d w s16 w105) := ⟨hpr, C104.out.chg.trans hch⟩
  have D105 := Lib.hid hd2
  clear hpr hch hd2 ho0 ho1 ho2 ho3
  have cl := blk_cell D105.out 14
  simp at cl
  go_wp2_with fail
  refine (rdMany C105.out D105.out (.inl rfl) hne hbd).mono ?_
  rintro e w106 ⟨rfl, hc, hd2, hch⟩
  have hO105_0 := O105_0.out.go mCmd_law C105.out.pr D105.out hch (by decide) (by decide)
  clear O105_0
  have O105_0 := Lib.hid hO105_0
  clear hO105_0
  have hO105_1 := O105_1.out.go mI_law C105.out.pr D105.out hch (by decide) (by decide)
  clear O105_1
  have O105_1 := Lib.hid hO105_1
  clear hO105_1
  have hO105_2 := O105_2.out.go mKnown_law C105.out.pr D105.out hch (by decide) (by decide)
  clear O105_2
  have O105_2 := Lib.hid hO105_2
  clear hO105_2
  have hO105_3 := O105_3.out.go mI_law C105.out.pr D105.out hch (by decide) (by decide)
  clear O105_3
  have O105_3 := Lib.hid hO105_3
  clear hO105_3
  have n1060 : (pM s16 0).1 ≤ 1000000000 := Nat.le_trans (pM_le C105.out.pr.rd) C105.out.pr.sm
  have HR : Hid (pIt cAct (0, (0, 0, 0, 0, 0, 0, 0, 0, 0, 0)) (pM s16 0).1 (pM s16 0).2 [] = (y16, s17)) := by show _ = _; rw [← pL_read cAct (0, (0, 0, 0, 0, 0, 0, 0, 0, 0, 0)) C105.out.pr.rd]; exact Q16.out
  obtain ⟨n106, hn⟩ : ∃ n, (pM s16 0).1 = n := ⟨_, rfl⟩
  obtain ⟨sq106, hsq⟩ : ∃ q, (pM s16 0).2 = q := ⟨_, rfl⟩
  rw [hn] at n1060 HR ⊢
  rw [hsq] at HR hc
  clear hn hsq cl
  have HL106 : Hid (RL cAct (0, (0, 0, 0, 0, 0, 0, 0, 0, 0, 0)) mAct 138 base p d 65 (fun v => #[.string y0, .string y1, .string y4, .int .i64 y5, .slice A105_0 (y6).length c105_0, .slice A105_1 (y7).length c105_1, .slice A105_2 (y8).length c105_2, .slice A105_3 (y9).length c105_3, .bool y10, .bool y11, .int .i64 y12, .int .i64 y13, .int .i64 y14, .int .i64 y15, v, .slice none 0 0, .string y2, .int .i64 y3]) w w106 n106 (y16, s17) [] sq106 (.slice none 0 0) w106) := RL.start hc hd2 HR.out
  have CM106 := Lib.hid hc
  have DM106 := Lib.hid hd2
  clear hc hd2 hch HR
  go_wp2
  go_loopw [4] (fun ix wl => ∃ k : Nat, ix = .int .i64 k ∧ k ≤ n106 ∧ Hid (∃ acc s v, acc.length = k ∧ RL cAct (0, (0, 0, 0, 0, 0, 0, 0, 0, 0, 0)) mAct 138 base p d 65 (fun v => #[.string y0, .string y1, .string y4, .int .i64 y5, .slice A105_0 (y6).length c105_0, .slice A105_1 (y7).length c105_1, .slice A105_2 (y8).length c105_2, .slice A105_3 (y9).length c105_3, .bool y10, .bool y11, .int .i64 y12, .int .i64 y13, .int .i64 y14, .int .i64 y15, v, .slice none 0 0, .string y2, .int .i64 y3]) w w106 n106 (y16, s17) acc s v wl)) (fun ix _ => n106 - (intOf ix).toNat)
  case atStart => exact ⟨0, rfl, by omega, ⟨_, _, _, rfl, HL106.out⟩⟩
  case round =>
    obtain ⟨kk, rfl, hk106, HW⟩ := hrel
    obtain ⟨acc106, sx106, vx, hka, hL⟩ := HW.out
    subst hka
    obtain ⟨wz106, hwr⟩ : ∃ z, z = wr := ⟨_, rfl⟩
    subst hwr
    obtain ⟨Av106, cv106, rfl⟩ := hL.len
    have tb := hL.pr.cell3
    have tr := hL.pr.cell2
    have HX106 := Lib.hid hL
    clear HW hL HL106
    obtain ⟨gg, hg⟩ : ∃ g : Bool, (decide (acc106.length < n106) && !sx106.bad) = g := ⟨_, rfl⟩
    have HG106 := Lib.hid hg
    clear hg
    go_upto_region 6 with fail
    go_cut [55] (fun sl wx => sl = .bool gg ∧ wz106 = wx)
    case first =>
      by_cases h1 : acc106.length < n106
      · cases hb : sx106.bad with
        | true =>
          have hgg : gg = false := by rw [← HG106.out]; simp [h1, hb]
          have HGG := Lib.hid hgg
          rw [hb] at tb
          clear hb hgg
          go_wp2
          go_meet
          exact ⟨by rw [HGG.out], rfl⟩
        | false =>
          have hgg : gg = true := by rw [← HG106.out]; simp [h1, hb]
          have HGG := Lib.hid hgg
          rw [hb] at tb
          clear hb hgg
          go_wp2
          go_meet
          exact ⟨by rw [HGG.out], rfl⟩
      · have hgg : gg = false := by rw [← HG106.out]; simp [h1]
        have HGG := Lib.hid hgg
        clear hgg
        go_wp2
        go_meet
        exact ⟨by rw [HGG.out], rfl⟩
    case rest =>
      obtain ⟨rfl, hwx⟩ := hcut
      subst hwx
      cases gg with
      | true =>
        obtain ⟨h1, h2⟩ : acc106.length < n106 ∧ sx106.bad = false := by simpa using HG106.out
        rw [h2] at tb
        have H2106 := Lib.hid h2
        clear HG106 h2
        have hbw : base ≤ (wz106.alloc (.cells #[.int .i64 0, .int .i64 0, .int .i64 0, .int .u8 0, .int .i64 0, .int .i64 0, .int .i64 0, .int .i64 0, .int .i64 0, .int .i64 0, .int .i64 0] 138)).heap.size := by have := HX106.out.pr.lt; have := HX106.out.pr.hr; simp; omega
        have cl := blk_cell HX106.out.blk 14
        simp at cl
        have HOW : Hid (LOwn 138 mAct base (wz106.alloc (.cells #[.int .i64 0, .int .i64 0, .int .i64 0, .int .u8 0, .int .i64 0, .int .i64 0, .int .i64 0, .int .i64 0, .int .i64 0, .int .i64 0, .int .i64 0] 138)) _ acc106) := HX106.out.own.keep mAct_law (Stay.below ((Below.refl _ _).alloc (Nat.le_refl _) _))
        have HAL : Hid ((wz106.alloc (.cells #[.int .i64 0, .int .i64 0, .int .i64 0, .int .u8 0, .int .i64 0, .int .i64 0, .int .i64 0, .int .i64 0, .int .i64 0, .int .i64 0, .int .i64 0] 138)).heap[wz106.heap.size]? = some (.cells ([.int .i64 0, .int .i64 0, .int .i64 0, .int .u8 0, .int .i64 0, .int .i64 0, .int .i64 0, .int .i64 0, .int .i64 0, .int .i64 0, .int .i64 0] : List Value).toArray 138)) := alloc_at _ _
        have hal : acc106.length + 1 ≤ 100000000000 := by omega
        have hzo : ∀ u ∈ ([.int .i64 0, .int .i64 0, .int .i64 0, .int .u8 0, .int .i64 0, .int .i64 0, .int .i64 0, .int .i64 0, .int .i64 0, .int .i64 0, .int .i64 0] : List Value), u.oneCell' = true := fun u hu => (List.all_eq_true.1 (rfl : ([.int .i64 0, .int .i64 0, .int .i64 0, .int .u8 0, .int .i64 0, .int .i64 0, .int .i64 0, .int .i64 0, .int .i64 0, .int .i64 0, .int .i64 0] : List Value).all (·.oneCell') = true)) u hu
        have HZO := Lib.hid hzo
        clear hzo
        have HUL : Hid (([.int .i64 0, .int .i64 0, .int .i64 0, .int .u8 0, .int .i64 0, .int .i64 0, .int .i64 0, .int .i64 0, .int .i64 0, .int .i64 0, .int .i64 0] : List Value).length = mAct.n) := by show _ = _; rfl
        go_upto_region 10 with (first
          | (with_reducible refine wpList_buildOne rfl (.tmp 68) rfl (.agg #[.int .i64 0, .int .i64 0, .int .i64 0, .int .u8 0, .int .i64 0, .int .i64 0, .int .i64 0, .int .i64 0, .int .i64 0, .int .i64 0, .int .i64 0]) #[.int .i64 0, .int .i64 0, .int .i64 0, .int .u8 0, .int .i64 0, .int .i64 0, .int .i64 0, .int .i64 0, .int .i64 0, .int .i64 0, .int .i64 0] elemAct rfl rfl rfl (by decide) (by decide) ?_)
          | ((with_reducible refine wpList_pushZ rfl (.tmp 67) (.tmp 69) rfl elemAct mAct_law (by decide) base _ acc106 [.int .i64 0, .int .i64 0, .int .i64 0, .int .u8 0, .int .i64 0, .int .i64 0, .int .i64 0, .int .i64 0, .int .i64 0, .int .i64 0, .int .i64 0] wz106.heap.size rfl HOW.out rfl HAL.out HUL.out HZO.out hal (by decide) hbw ?_); intro g106 cp106 w106a hZ hG hat; have hk1 := (HX106.out.pushed hG).2.1; have cl3 := blk_cell hk1 14; have fl3 := blk_free hk1 14; simp at cl3; have HZ106 := Lib.hid (HX106.out.stored mAct_law (off := 14) hG hZ hat (by decide) rfl hne hbd); clear hZ hG hat hk1 cl))
        clear cl3 fl3 HOW HAL HUL hal HZO hbw
        generalize (w106a.setCell ⟨d, 14, none⟩ (.slice (some ⟨g106, 0, none⟩) (acc106.length + 1) cp106)) = wy106 at HZ106 ⊢
        have cl := blk_cell HZ106.out.blk 14
        simp at cl
        have tr := HZ106.out.pr.cell2
        have HRG : Hid (wy106.rangeAt g106 (acc106.length * 11) [.int .i64 0, .int .i64 0, .int .i64 0, .int .u8 0, .int .i64 0, .int .i64 0, .int .i64 0, .int .i64 0, .int .i64 0, .int .i64 0, .int .i64 0]) := HZ106.out.own.range
        have hi1 : Hid ((Tryz.prog.info? 138).map (·.size) = some ([.int .i64 0, .int .i64 0, .int .i64 0, .int .u8 0, .int .i64 0, .int .i64 0, .int .i64 0, .int .i64 0, .int .i64 0, .int .i64 0, .int .i64 0] : List Value).length) := by show _ = _; kernel_rfl
        have hi2 : Hid ((Tryz.prog.info? 138).map (·.size) = some (#[.int .i64 0, .int .i64 0, .int .i64 0, .int .u8 0, .int .i64 0, .int .i64 0, .int .i64 0, .int .i64 0, .int .i64 0, .int .i64 0, .int .i64 0] : Array Value).size) := by show _ = _; kernel_rfl
        have hone : Hid ((#[.int .i64 0, .int .i64 0, .int .i64 0, .int .u8 0, .int .i64 0, .int .i64 0, .int .i64 0, .int .i64 0, .int .i64 0, .int .i64 0, .int .i64 0] : Array Value).all (·.oneCell') = true) := all_oneCell_toArray (cs := [.int .i64 0, .int .i64 0, .int .i64 0, .int .u8 0, .int .i64 0, .int .i64 0, .int .i64 0, .int .i64 0, .int .i64 0, .int .i64 0, .int .i64 0]) (fun u hu => List.all_eq_true.1 (rfl : ([.int .i64 0, .int .i64 0, .int .i64 0, .int .u8 0, .int .i64 0, .int .i64 0, .int .i64 0, .int .i64 0, .int .i64 0, .int .i64 0, .int .i64 0] : List Value).all (·.oneCell') = true) u hu)
        have HTH : Hid ((wy106.alloc (.cells #[.int .i64 0, .int .i64 0, .int .i64 0, .int .u8 0, .int .i64 0, .int .i64 0, .int .i64 0, .int .i64 0, .int .i64 0, .int .i64 0, .int .i64 0] 138)).there wy106.heap.size 0 (#[.int .i64 0, .int .i64 0, .int .i64 0, .int .u8 0, .int .i64 0, .int .i64 0, .int .i64 0, .int .i64 0, .int .i64 0, .int .i64 0, .int .i64 0] : Array Value).size) := there_new _ _ _ _ rfl
        have HB106 : Hid (Below wy106.heap.size wy106 ((wy106.alloc (.cells #[.int .i64 0, .int .i64 0, .int .i64 0, .int .u8 0, .int .i64 0, .int .i64 0, .int .i64 0, .int .i64 0, .int .i64 0, .int .i64 0, .int .i64 0] 138)).setCells wy106.heap.size 0 [.int .i64 0, .int .i64 0, .int .i64 0, .int .u8 0, .int .i64 0, .int .i64 0, .int .i64 0, .int .i64 0, .int .i64 0, .int .i64 0, .int .i64 0])) := below_cells (Nat.le_refl _) _ _ _ ((Below.refl _ _).alloc (Nat.le_refl _) _)
        have HD106 : Hid (((wy106.alloc (.cells #[.int .i64 0, .int .i64 0, .int .i64 0, .int .u8 0, .int .i64 0, .int .i64 0, .int .i64 0, .int .i64 0, .int .i64 0, .int .i64 0, .int .i64 0] 138)).setCells wy106.heap.size 0 [.int .i64 0, .int .i64 0, .int .i64 0, .int .u8 0, .int .i64 0, .int .i64 0, .int .i64 0, .int .i64 0, .int .i64 0, .int .i64 0, .int .i64 0]).heap[wy106.heap.size]? = some (.cells #[.int .i64 0, .int .i64 0, .int .i64 0, .int .u8 0, .int .i64 0, .int .i64 0, .int .i64 0, .int .i64 0, .int .i64 0, .int .i64 0, .int .i64 0] 138)) := fresh_cells wy106 #[.int .i64 0, .int .i64 0, .int .i64 0, .int .u8 0, .int .i64 0, .int .i64 0, .int .i64 0, .int .i64 0, .int .i64 0, .int .i64 0, .int .i64 0] #[.int .i64 0, .int .i64 0, .int .i64 0, .int .u8 0, .int .i64 0, .int .i64 0, .int .i64 0, .int .i64 0, .int .i64 0, .int .i64 0, .int .i64 0] 138 rfl
        go_wp2_with (first
          | (with_reducible refine wpList_load_mid rfl 138 (.tmp 80) rfl g106 (acc106.length * 11) rfl [.int .i64 0, .int .i64 0, .int .i64 0, .int .u8 0, .int .i64 0, .int .i64 0, .int .i64 0, .int .i64 0, .int .i64 0, .int .i64 0, .int .i64 0] _ HRG.out Tryz.underlying138 rfl hi1.out ?_)
          | (with_reducible refine wpList_store_mid rfl 138 (.tmp 6) (.tmp 81) rfl wy106.heap.size 0 #[.int .i64 0, .int .i64 0, .int .i64 0, .int .u8 0, .int .i64 0, .int .i64 0, .int .i64 0, .int .i64 0, .int .i64 0, .int .i64 0, .int .i64 0] rfl rfl HTH.out hi2.out hone.out ?_))
        clear HRG HTH hi2 hone
        clear cl
        have hgn106 : wy106.heap.size ≠ p := by have := HZ106.out.pr.lt; omega
        have hgb106 : base ≤ wy106.heap.size := by have := HZ106.out.pr.lt; have := HZ106.out.pr.hr; omega
        have CL106 : Hid (RS base p wy106.heap.size ((wy106.alloc (.cells #[.int .i64 0, .int .i64 0, .int .i64 0, .int .u8 0, .int .i64 0, .int .i64 0, .int .i64 0, .int .i64 0, .int .i64 0, .int .i64 0, .int .i64 0] 138)).setCells wy106.heap.size 0 [.int .i64 0, .int .i64 0, .int .i64 0, .int .u8 0, .int .i64 0, .int .i64 0, .int .i64 0, .int .i64 0, .int .i64 0, .int .i64 0, .int .i64 0]) sx106 ((wy106.alloc (.cells #[.int .i64 0, .int .i64 0, .int .i64 0, .int .u8 0, .int .i64 0, .int .i64 0, .int .i64 0, .int .i64 0, .int .i64 0, .int .i64 0, .int .i64 0] 138)).setCells wy106.heap.size 0 [.int .i64 0, .int .i64 0, .int .i64 0, .int .u8 0, .int .i64 0, .int .i64 0, .int .i64 0, .int .i64 0, .int .i64 0, .int .i64 0, .int .i64 0])) := HZ106.out.newb HB106.out
        generalize ((wy106.alloc (.cells #[.int .i64 0, .int .i64 0, .int .i64 0, .int .u8 0, .int .i64 0, .int .i64 0, .int .i64 0, .int .i64 0, .int .i64 0, .int .i64 0, .int .i64 0] 138)).setCells wy106.heap.size 0 [.int .i64 0, .int .i64 0, .int .i64 0, .int .u8 0, .int .i64 0, .int .i64 0, .int .i64 0, .int .i64 0, .int .i64 0, .int .i64 0, .int .i64 0]) = wl106 at HB106 HD106 CL106 ⊢
        obtain ⟨e106_0, t106_1, q106_0⟩ : ∃ u t, pC cI sx106 0 = (u, t) := ⟨_, _, rfl⟩
        obtain ⟨e106_1, t106_2, q106_1⟩ : ∃ u t, pC cTask t106_1 (0, 0, 0, 0, 0, 0, 0, 0, 0, 0) = (u, t) := ⟨_, _, rfl⟩
        obtain ⟨h106_0, h106_1, h106_2, h106_3, h106_4, h106_5, h106_6, h106_7, h106_8, h106_9⟩ := e106_1
        have HE106 : Hid (pC cAct sx106 (0, (0, 0, 0, 0, 0, 0, 0, 0, 0, 0)) = ((e106_0, (h106_0, h106_1, h106_2, h106_3, h106_4, h106_5, h106_6, h106_7, h106_8, h106_9)), t106_2)) := by show _ = _; unfold cAct; simp only [pC_seq, q106_0, q106_1]
        have Q106_0 := Lib.hid q106_0
        clear q106_0
        have Q106_1 := Lib.hid q106_1
        clear q106_1
        clear tr tb
        go_wp2_with fail
        refine (rdWhole (o := 0) (cs' := #[.int .i64 e106_0, .int .i64 0, .int .i64 0, .int .u8 0, .int .i64 0, .int .i64 0, .int .i64 0, .int .i64 0, .int .i64 0, .int .i64 0, .int .i64 0]) CL106.out HD106.out Q106_0.out rfl rfl (.inl rfl) hgn106 hgb106).mono ?_
        rintro e w107 ⟨rfl, hc, hd2, hch⟩
        have C107 := Lib.hid hc
        have D107 := Lib.hid hd2
        clear hc hd2 hch
        go_wp2_with fail
        refine (rdTask C107.out D107.out Q106_1.out (.inl rfl) hgn106 hgb106).mono ?_
        rintro e w108 ⟨rfl, hc, hd2, hch⟩
        have C108 := Lib.hid hc
        have D108 := Lib.hid hd2
        clear hc hd2 hch
        have HY106 : Hid (mAct.own base w108 [.int .i64 e106_0, .int .i64 h106_0, .int .i64 h106_1, .int .u8 h106_2, .int .i64 h106_3, .int .i64 h106_4, .int .i64 h106_5, .int .i64 h106_6, .int .i64 h106_7, .int .i64 h106_8, .int .i64 h106_9] (e106_0, (h106_0, h106_1, h106_2, h106_3, h106_4, h106_5, h106_6, h106_7, h106_8, h106_9))) := mAct_mk mTask_mk
        have HN106 := Lib.hid (HZ106.out.next (q := 1) mAct_law HB106.out C108.out (by decide) (by decide) hne HY106.out HE106.out h1 H2106.out)
        obtain ⟨hb1, hb2, _⟩ := HZ106.out.back mAct_law HB106.out C108.out (by decide) hne
        have cl := blk_cell hb1 14
        simp at cl
        have tr := C108.out.pr.cell2
        have HT2 : Hid ((World.drewN w108 1).there g106 (acc106.length * 11) (#[.int .i64 e106_0, .int .i64 h106_0, .int .i64 h106_1, .int .u8 h106_2, .int .i64 h106_3, .int .i64 h106_4, .int .i64 h106_5, .int .i64 h106_6, .int .i64 h106_7, .int .i64 h106_8, .int .i64 h106_9] : Array Value).size) := hb2.there (n := 11) rfl
        have hlna : ((acc106.length : Nat) : Int) < (acc106.length : Int) + 1 := by omega
        clear hb1
        have HLG := Lib.hid (range_of D108.out)
        have hi3 : Hid ((Tryz.prog.info? 138).map (·.size) = some ([.int .i64 e106_0, .int .i64 h106_0, .int .i64 h106_1, .int .u8 h106_2, .int .i64 h106_3, .int .i64 h106_4, .int .i64 h106_5, .int .i64 h106_6, .int .i64 h106_7, .int .i64 h106_8, .int .i64 h106_9] : List Value).length) := by show _ = _; kernel_rfl
        have hi4 : Hid ((Tryz.prog.info? 138).map (·.size) = some (#[.int .i64 e106_0, .int .i64 h106_0, .int .i64 h106_1, .int .u8 h106_2, .int .i64 h106_3, .int .i64 h106_4, .int .i64 h106_5, .int .i64 h106_6, .int .i64 h106_7, .int .i64 h106_8, .int .i64 h106_9] : Array Value).size) := by show _ = _; kernel_rfl
        have hon2 : Hid ((#[.int .i64 e106_0, .int .i64 h106_0, .int .i64 h106_1, .int .u8 h106_2, .int .i64 h106_3, .int .i64 h106_4, .int .i64 h106_5, .int .i64 h106_6, .int .i64 h106_7, .int .i64 h106_8, .int .i64 h106_9] : Array Value).all (·.oneCell') = true) := all_oneCell_toArray (cs := [.int .i64 e106_0, .int .i64 h106_0, .int .i64 h106_1, .int .u8 h106_2, .int .i64 h106_3, .int .i64 h106_4, .int .i64 h106_5, .int .i64 h106_6, .int .i64 h106_7, .int .i64 h106_8, .int .i64 h106_9]) (fun u hu => List.all_eq_true.1 (rfl : ([.int .i64 e106_0, .int .i64 h106_0, .int .i64 h106_1, .int .u8 h106_2, .int .i64 h106_3, .int .i64 h106_4, .int .i64 h106_5, .int .i64 h106_6, .int .i64 h106_7, .int .i64 h106_8, .int .i64 h106_9] : List Value).all (·.oneCell') = true) u hu)
        clear hb2
        go_wp2
        refine wp_region_still_tail 8 (by kernel_rfl) (by kernel_rfl) ?_
        simp only [List.take_succ_cons, List.take_zero, List.drop_succ_cons, List.drop_zero]
        repeat (first | (refine wpStill_load_mid rfl 138 (.tmp 6) rfl wy106.heap.size 0 rfl [.int .i64 e106_0, .int .i64 h106_0, .int .i64 h106_1, .int .u8 h106_2, .int .i64 h106_3, .int .i64 h106_4, .int .i64 h106_5, .int .i64 h106_6, .int .i64 h106_7, .int .i64 h106_8, .int .i64 h106_9] _ HLG.out Tryz.underlying138 rfl hi3.out ?_) | still_step)
        try refine wpStill_nil ?_
        change wpList _ _ _ _ _ (World.drewN _ 1)
        go_wp2_with (with_reducible refine wpList_store_mid rfl 138 (.tmp 99) (.tmp 98) rfl g106 (acc106.length * 11) #[.int .i64 e106_0, .int .i64 h106_0, .int .i64 h106_1, .int .u8 h106_2, .int .i64 h106_3, .int .i64 h106_4, .int .i64 h106_5, .int .i64 h106_6, .int .i64 h106_7, .int .i64 h106_8, .int .i64 h106_9] rfl rfl HT2.out hi4.out hon2.out ?_)
        go_roundw
        case rel => exact ⟨acc106.length + 1, by go_num, by omega, ⟨acc106 ++ [_], _, _, by simp, HN106.out⟩⟩
        case measure => simp [intOf]; omega
      | false =>
        have hend := HX106.out.end (by have := HG106.out; simpa using this)
        injection hend with h8 h9
        subst h8
        subst h9
        have C106 : Hid (RS base p d w s17 wz106) := HX106.out.rs
        have D106 : Hid (wz106.heap[d]? = some (.cells #[.string y0, .string y1, .string y4, .int .i64 y5, .slice A105_0 (y6).length c105_0, .slice A105_1 (y7).length c105_1, .slice A105_2 (y8).length c105_2, .slice A105_3 (y9).length c105_3, .bool y10, .bool y11, .int .i64 y12, .int .i64 y13, .int .i64 y14, .int .i64 y15, .slice Av106 (y16).length cv106, .slice none 0 0, .string y2, .int .i64 y3] 65)) := HX106.out.blk
        have O106 : Hid (LOwn 138 mAct base wz106 (.slice Av106 (y16).length cv106) y16) := HX106.out.own
        have hO105_0 := O105_0.out.go mCmd_law CM106.out.pr DM106.out HX106.out.chg (by decide) (by decide)
        clear O105_0
        have O105_0 := Lib.hid hO105_0
        clear hO105_0
        have hO105_1 := O105_1.out.go mI_law CM106.out.pr DM106.out HX106.out.chg (by decide) (by decide)
        clear O105_1
        have O105_1 := Lib.hid hO105_1
        clear hO105_1
        have hO105_2 := O105_2.out.go mKnown_law CM106.out.pr DM106.out HX106.out.chg (by decide) (by decide)
        clear O105_2
        have O105_2 := Lib.hid hO105_2
        clear hO105_2
        have hO105_3 := O105_3.out.go mI_law CM106.out.pr DM106.out HX106.out.chg (by decide) (by decide)
        clear O105_3
        have O105_3 := Lib.hid hO105_3
        clear hO105_3
        clear HX106 HG106 CM106 DM106 tb tr
        have cl := blk_cell D106.out 15
        simp at cl
        go_wp2_with fail
        refine (rdMany C106.out D106.out (.inl rfl) hne hbd).mono ?_
        rintro e w109 ⟨rfl, hc, hd2, hch⟩
        have hO105_0 := O105_0.out.go mCmd_law C106.out.pr D106.out hch (by decide) (by decide)
        clear O105_0
        have O105_0 := Lib.hid hO105_0
        clear hO105_0
        have hO105_1 := O105_1.out.go mI_law C106.out.pr D106.out hch (by decide) (by decide)
        clear O105_1
        have O105_1 := Lib.hid hO105_1
        clear hO105_1
        have hO105_2 := O105_2.out.go mKnown_law C106.out.pr D106.out hch (by decide) (by decide)
        clear O105_2
        have O105_2 := Lib.hid hO105_2
        clear hO105_2
        have hO105_3 := O105_3.out.go mI_law C106.out.pr D106.out hch (by decide) (by decide)
        clear O105_3
        have O105_3 := Lib.hid hO105_3
        clear hO105_3
        have hO106 := O106.out.go mAct_law C106.out.pr D106.out hch (by decide) (by decide)
        clear O106
        have O106 := Lib.hid hO106
        clear hO106
        have n1090 : (pM s17 0).1 ≤ 1000000000 := Nat.le_trans (pM_le C106.out.pr.rd) C106.out.pr.sm
        have HR : Hid (pIt cSleep (0, 0) (pM s17 0).1 (pM s17 0).2 [] = (y17, s18)) := by show _ = _; rw [← pL_read cSleep (0, 0) C106.out.pr.rd]; exact Q17.out
        obtain ⟨n109, hn⟩ : ∃ n, (pM s17 0).1 = n := ⟨_, rfl⟩
        obtain ⟨sq109, hsq⟩ : ∃ q, (pM s17 0).2 = q := ⟨_, rfl⟩
        rw [hn] at n1090 HR ⊢
        rw [hsq] at HR hc
        clear hn hsq cl
        have HL109 : Hid (RL cSleep (0, 0) mSleep 143 base p d 65 (fun v => #[.string y0, .string y1, .string y4, .int .i64 y5, .slice A105_0 (y6).length c105_0, .slice A105_1 (y7).length c105_1, .slice A105_2 (y8).length c105_2, .slice A105_3 (y9).length c105_3, .bool y10, .bool y11, .int .i64 y12, .int .i64 y13, .int .i64 y14, .int .i64 y15, .slice Av106 (y16).length cv106, v, .string y2, .int .i64 y3]) w w109 n109 (y17, s18) [] sq109 (.slice none 0 0) w109) := RL.start hc hd2 HR.out
        have CM109 := Lib.hid hc
        have DM109 := Lib.hid hd2
        clear hc hd2 hch HR
        go_wp2
        go_loopw [7] (fun ix wl => ∃ k : Nat, ix = .int .i64 k ∧ k ≤ n109 ∧ Hid (∃ acc s v, acc.length = k ∧ RL cSleep (0, 0) mSleep 143 base p d 65 (fun v => #[.string y0, .string y1, .string y4, .int .i64 y5, .slice A105_0 (y6).length c105_0, .slice A105_1 (y7).length c105_1, .slice A105_2 (y8).length c105_2, .slice A105_3 (y9).length c105_3, .bool y10, .bool y11, .int .i64 y12, .int .i64 y13, .int .i64 y14, .int .i64 y15, .slice Av106 (y16).length cv106, v, .string y2, .int .i64 y3]) w w109 n109 (y17, s18) acc s v wl)) (fun ix _ => n109 - (intOf ix).toNat)
        case atStart => exact ⟨0, rfl, by omega, ⟨_, _, _, rfl, HL109.out⟩⟩
        case round =>
          obtain ⟨kk, rfl, hk109, HW⟩ := hrel
          obtain ⟨acc109, sx109, vx, hka, hL⟩ := HW.out
          subst hka
          obtain ⟨wz109, hwr⟩ : ∃ z, z = wr := ⟨_, rfl⟩
          subst hwr
          obtain ⟨Av109, cv109, rfl⟩ := hL.len
          have tb := hL.pr.cell3
          have tr := hL.pr.cell2
          have HX109 := Lib.hid hL
          clear HW hL HL109
          obtain ⟨gg, hg⟩ : ∃ g : Bool, (decide (acc109.length < n109) && !sx109.bad) = g := ⟨_, rfl⟩
          have HG109 := Lib.hid hg
          clear hg
          go_upto_region 16 with fail
          go_cut [117] (fun sl wx => sl = .bool gg ∧ wz109 = wx)
          case first =>
            by_cases h1 : acc109.length < n109
            · cases hb : sx109.bad with
              | true =>
                have hgg : gg = false := by rw [← HG109.out]; simp [h1, hb]
                have HGG := Lib.hid hgg
                rw [hb] at tb
                clear hb hgg
                go_wp2
                go_meet
                exact ⟨by rw [HGG.out], rfl⟩
              | false =>
                have hgg : gg = true := by rw [← HG109.out]; simp [h1, hb]
                have HGG := Lib.hid hgg
                rw [hb] at tb
                clear hb hgg
                go_wp2
                go_meet
                exact ⟨by rw [HGG.out], rfl⟩
            · have hgg : gg = false := by rw [← HG109.out]; simp [h1]
              have HGG := Lib.hid hgg
              clear hgg
              go_wp2
              go_meet
              exact ⟨by rw [HGG.out], rfl⟩
          case rest =>
            obtain ⟨rfl, hwx⟩ := hcut
            subst hwx
            cases gg with
            | true =>
              obtain ⟨h1, h2⟩ : acc109.length < n109 ∧ sx109.bad = false := by simpa using HG109.out
              rw [h2] at tb
              have H2109 := Lib.hid h2
              clear HG109 h2
              have hbw : base ≤ (wz109.alloc (.cells #[.int .i64 0, .int .i64 0] 143)).heap.size := by have := HX109.out.pr.lt; have := HX109.out.pr.hr; simp; omega
              have cl := blk_cell HX109.out.blk 15
              simp at cl
              have HOW : Hid (LOwn 143 mSleep base (wz109.alloc (.cells #[.int .i64 0, .int .i64 0] 143)) _ acc109) := HX109.out.own.keep mSleep_law (Stay.below ((Below.refl _ _).alloc (Nat.le_refl _) _))
              have HAL : Hid ((wz109.alloc (.cells #[.int .i64 0, .int .i64 0] 143)).heap[wz109.heap.size]? = some (.cells ([.int .i64 0, .int .i64 0] : List Value).toArray 143)) := alloc_at _ _
              have hal : acc109.length + 1 ≤ 100000000000 := by omega
              have hzo : ∀ u ∈ ([.int .i64 0, .int .i64 0] : List Value), u.oneCell' = true := fun u hu => (List.all_eq_true.1 (rfl : ([.int .i64 0, .int .i64 0] : List Value).all (·.oneCell') = true)) u hu
              have HZO := Lib.hid hzo
              clear hzo
              have HUL : Hid (([.int .i64 0, .int .i64 0] : List Value).length = mSleep.n) := by show _ = _; rfl
              go_upto_region 20 with (first
                | (with_reducible refine wpList_buildOne rfl (.tmp 130) rfl (.agg #[.int .i64 0, .int .i64 0]) #[.int .i64 0, .int .i64 0] elemSleep rfl rfl rfl (by decide) (by decide) ?_)
                | ((with_reducible refine wpList_pushZ rfl (.tmp 129) (.tmp 131) rfl elemSleep mSleep_law (by decide) base _ acc109 [.int .i64 0, .int .i64 0] wz109.heap.size rfl HOW.out rfl HAL.out HUL.out HZO.out hal (by decide) hbw ?_); intro g109 cp109 w109a hZ hG hat; have hk1 := (HX109.out.pushed hG).2.1; have cl3 := blk_cell hk1 15; have fl3 := blk_free hk1 15; simp at cl3; have HZ109 := Lib.hid (HX109.out.stored mSleep_law (off := 15) hG hZ hat (by decide) rfl hne hbd); clear hZ hG hat hk1 cl))
              clear cl3 fl3 HOW HAL HUL hal HZO hbw
              generalize (w109a.setCell ⟨d, 15, none⟩ (.slice (some ⟨g109, 0, none⟩) (acc109.length + 1) cp109)) = wy109 at HZ109 ⊢
              have cl := blk_cell HZ109.out.blk 15
              simp at cl
              have tr := HZ109.out.pr.cell2
              have HRG : Hid (wy109.rangeAt g109 (acc109.length * 2) [.int .i64 0, .int .i64 0]) := HZ109.out.own.range
              have hi1 : Hid ((Tryz.prog.info? 143).map (·.size) = some ([.int .i64 0, .int .i64 0] : List Value).length) := by show _ = _; kernel_rfl
              have hi2 : Hid ((Tryz.prog.info? 143).map (·.size) = some (#[.int .i64 0, .int .i64 0] : Array Value).size) := by show _ = _; kernel_rfl
              have hone : Hid ((#[.int .i64 0, .int .i64 0] : Array Value).all (·.oneCell') = true) := all_oneCell_toArray (cs := [.int .i64 0, .int .i64 0]) (fun u hu => List.all_eq_true.1 (rfl : ([.int .i64 0, .int .i64 0] : List Value).all (·.oneCell') = true) u hu)
              have HTH : Hid ((wy109.alloc (.cells #[.int .i64 0, .int .i64 0] 143)).there wy109.heap.size 0 (#[.int .i64 0, .int .i64 0] : Array Value).size) := there_new _ _ _ _ rfl
              have HB109 : Hid (Below wy109.heap.size wy109 ((wy109.alloc (.cells #[.int .i64 0, .int .i64 0] 143)).setCells wy109.heap.size 0 [.int .i64 0, .int .i64 0])) := below_cells (Nat.le_refl _) _ _ _ ((Below.refl _ _).alloc (Nat.le_refl _) _)
              have HD109 : Hid (((wy109.alloc (.cells #[.int .i64 0, .int .i64 0] 143)).setCells wy109.heap.size 0 [.int .i64 0, .int .i64 0]).heap[wy109.heap.size]? = some (.cells #[.int .i64 0, .int .i64 0] 143)) := fresh_cells wy109 #[.int .i64 0, .int .i64 0] #[.int .i64 0, .int .i64 0] 143 rfl
              go_wp2_with (first
                | (with_reducible refine wpList_load_mid rfl 143 (.tmp 142) rfl g109 (acc109.length * 2) rfl [.int .i64 0, .int .i64 0] _ HRG.out Tryz.underlying143 rfl hi1.out ?_)
                | (with_reducible refine wpList_store_mid rfl 143 (.tmp 9) (.tmp 143) rfl wy109.heap.size 0 #[.int .i64 0, .int .i64 0] rfl rfl HTH.out hi2.out hone.out ?_))
              clear HRG HTH hi2 hone
              clear cl
              have hgn109 : wy109.heap.size ≠ p := by have := HZ109.out.pr.lt; omega
              have hgb109 : base ≤ wy109.heap.size := by have := HZ109.out.pr.lt; have := HZ109.out.pr.hr; omega
              have CL109 : Hid (RS base p wy109.heap.size ((wy109.alloc (.cells #[.int .i64 0, .int .i64 0] 143)).setCells wy109.heap.size 0 [.int .i64 0, .int .i64 0]) sx109 ((wy109.alloc (.cells #[.int .i64 0, .int .i64 0] 143)).setCells wy109.heap.size 0 [.int .i64 0, .int .i64 0])) := HZ109.out.newb HB109.out
              generalize ((wy109.alloc (.cells #[.int .i64 0, .int .i64 0] 143)).setCells wy109.heap.size 0 [.int .i64 0, .int .i64 0]) = wl109 at HB109 HD109 CL109 ⊢
              obtain ⟨e109_0, t109_1, q109_0⟩ : ∃ u t, pC cI sx109 0 = (u, t) := ⟨_, _, rfl⟩
              obtain ⟨e109_1, t109_2, q109_1⟩ : ∃ u t, pC cI t109_1 0 = (u, t) := ⟨_, _, rfl⟩
              have HE109 : Hid (pC cSleep sx109 (0, 0) = ((e109_0, e109_1), t109_2)) := by show _ = _; unfold cSleep; simp only [pC_seq, q109_0, q109_1]
              have Q109_0 := Lib.hid q109_0
              clear q109_0
              have Q109_1 := Lib.hid q109_1
              clear q109_1
              clear tr tb
              go_wp2_with fail
              refine (rdWhole (o := 0) (cs' := #[.int .i64 e109_0, .int .i64 0]) CL109.out HD109.out Q109_0.out rfl rfl (.inl rfl) hgn109 hgb109).mono ?_
              rintro e w110 ⟨rfl, hc, hd2, hch⟩
              have C110 := Lib.hid hc
              have D110 := Lib.hid hd2
              clear hc hd2 hch
              go_wp2_with fail
              refine (rdNum (o := 1) (cs' := #[.int .i64 e109_0, .int .i64 e109_1]) C110.out D110.out Q109_1.out rfl rfl (.inl rfl) hgn109 hgb109).mono ?_
              rintro e w111 ⟨rfl, hc, hd2, hch⟩
              have C111 := Lib.hid hc
              have D111 := Lib.hid hd2
              clear hc hd2 hch
              have HY109 : Hid (mSleep.own base w111 [.int .i64 e109_0, .int .i64 e109_1] (e109_0, e109_1)) := mSleep_mk
              have HN109 := Lib.hid (HZ109.out.next (q := 1) mSleep_law HB109.out C111.out (by decide) (by decide) hne HY109.out HE109.out h1 H2109.out)
              obtain ⟨hb1, hb2, _⟩ := HZ109.out.back mSleep_law HB109.out C111.out (by decide) hne
              have cl := blk_cell hb1 15
              simp at cl
              have tr := C111.out.pr.cell2
              have HT2 : Hid ((World.drewN w111 1).there g109 (acc109.length * 2) (#[.int .i64 e109_0, .int .i64 e109_1] : Array Value).size) := hb2.there (n := 2) rfl
              have hlna : ((acc109.length : Nat) : Int) < (acc109.length : Int) + 1 := by omega
              clear hb1
              have HLG := Lib.hid (range_of D111.out)
              have hi3 : Hid ((Tryz.prog.info? 143).map (·.size) = some ([.int .i64 e109_0, .int .i64 e109_1] : List Value).length) := by show _ = _; kernel_rfl
              have hi4 : Hid ((Tryz.prog.info? 143).map (·.size) = some (#[.int .i64 e109_0, .int .i64 e109_1] : Array Value).size) := by show _ = _; kernel_rfl
              have hon2 : Hid ((#[.int .i64 e109_0, .int .i64 e109_1] : Array Value).all (·.oneCell') = true) := all_oneCell_toArray (cs := [.int .i64 e109_0, .int .i64 e109_1]) (fun u hu => List.all_eq_true.1 (rfl : ([.int .i64 e109_0, .int .i64 e109_1] : List Value).all (·.oneCell') = true) u hu)
              clear hb2
              go_wp2
              refine wp_region_still_tail 8 (by kernel_rfl) (by kernel_rfl) ?_
              simp only [List.take_succ_cons, List.take_zero, List.drop_succ_cons, List.drop_zero]
              repeat (first | (refine wpStill_load_mid rfl 143 (.tmp 9) rfl wy109.heap.size 0 rfl [.int .i64 e109_0, .int .i64 e109_1] _ HLG.out Tryz.underlying143 rfl hi3.out ?_) | still_step)
              try refine wpStill_nil ?_
              change wpList _ _ _ _ _ (World.drewN _ 1)
              go_wp2_with (with_reducible refine wpList_store_mid rfl 143 (.tmp 161) (.tmp 160) rfl g109 (acc109.length * 2) #[.int .i64 e109_0, .int .i64 e109_1] rfl rfl HT2.out hi4.out hon2.out ?_)
              go_roundw
              case rel => exact ⟨acc109.length + 1, by go_num, by omega, ⟨acc109 ++ [_], _, _, by simp, HN109.out⟩⟩
              case measure => simp [intOf]; omega
            | false =>
              have hend := HX109.out.end (by have := HG109.out; simpa using this)
              injection hend with h8 h9
              subst h8
              subst h9
              have C109 : Hid (RS base p d w s18 wz109) := HX109.out.rs
              have D109 : Hid (wz109.heap[d]? = some (.cells #[.string y0, .string y1, .string y4, .int .i64 y5, .slice A105_0 (y6).length c105_0, .slice A105_1 (y7).length c105_1, .slice A105_2 (y8).length c105_2, .slice A105_3 (y9).length c105_3, .bool y10, .bool y11, .int .i64 y12, .int .i64 y13, .int .i64 y14, .int .i64 y15, .slice Av106 (y16).length cv106, .slice Av109 (y17).length cv109, .string y2, .int .i64 y3] 65)) := HX109.out.blk
              have O109 : Hid (LOwn 143 mSleep base wz109 (.slice Av109 (y17).length cv109) y17) := HX109.out.own
              have hO105_0 := O105_0.out.go mCmd_law CM109.out.pr DM109.out HX109.out.chg (by decide) (by decide)
              clear O105_0
              have O105_0 := Lib.hid hO105_0
              clear hO105_0
              have hO105_1 := O105_1.out.go mI_law CM109.out.pr DM109.out HX109.out.chg (by decide) (by decide)
              clear O105_1
              have O105_1 := Lib.hid hO105_1
              clear hO105_1
              have hO105_2 := O105_2.out.go mKnown_law CM109.out.pr DM109.out HX109.out.chg (by decide) (by decide)
              clear O105_2
              have O105_2 := Lib.hid hO105_2
              clear hO105_2
              have hO105_3 := O105_3.out.go mI_law CM109.out.pr DM109.out HX109.out.chg (by decide) (by decide)
              clear O105_3
              have O105_3 := Lib.hid hO105_3
              clear hO105_3
              have hO106 := O106.out.go mAct_law CM109.out.pr DM109.out HX109.out.chg (by decide) (by decide)
              clear O106
              have O106 := Lib.hid hO106
              clear hO106
              clear HX109 HG109 CM109 DM109 tb tr
              go_wp2
              exact bodyPost_ret (v := .tuple #[]) (by simp [results]) rfl ⟨rfl, _, _, _, _, _, _, C109.out.pr, C109.out.chg, D109.out, O105_0.out, O105_1.out, O105_2.out, O105_3.out, O106.out, O109.out⟩
end Go.Proofs.YtckooioikcenmaaGreat

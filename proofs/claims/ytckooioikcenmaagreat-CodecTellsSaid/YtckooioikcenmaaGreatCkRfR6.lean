/- The pen that reads: desk. Conditions: sizes a machine can have. -/
import Derived.Test.YtckooioikcenmaaGreatCkM12
namespace Go.Proofs.YtckooioikcenmaaGreat
open Go.RowKit
def DeskRd (base p d : Nat) (s' : Pn) (y0 : Int) (y1 : List DTurn) (y2 : Int) (y3 : Bool) (y4 : List DLine) (nA nB nC nD nE nF : Value) (w : World) (e : Ending) (w' : World) : Prop :=
  e = .returned (.tuple #[]) ∧ ∃ v1 v4 : Value, PR base p w' s' ∧ Chg p d w w' ∧ w'.heap[d]? = some (.cells #[nA, nB, .int .i64 y0, v1, .int .i64 y2, .bool y3, v4, nC, nD, nE, nF] 35) ∧ LOwn 147 mTurn base w' v1 y1 ∧ LOwn 120 mLine base w' v4 y4
set_option maxRecDepth 20000 in
set_option maxHeartbeats 16000000 in
theorem penDesk_rd {base p d : Nat} {st s1 s2 s3 s4 s5 : Pn} {y0 : Int} {y1 : List DTurn} {y2 : Int} {y3 : Bool} {y4 : List DLine} {nA nB nC nD nE nF : Value} {w : World} (hs : PR base p w st) (hd : w.heap[d]? = some (.cells #[nA, nB, .int .i64 0, .slice none 0 0, .int .i64 0, .bool false, .slice none 0 0, nC, nD, nE, nF] 35))
    (q0 : pC cI st 0 = (y0, s1)) (q1 : pC (cL cTurn) s1 [] = (y1, s2)) (q2 : pC cI s2 0 = (y2, s3)) (q3 : pC cF s3 false = (y3, s4)) (q4 : pC (cL cLine) s4 [] = (y4, s5)) (hne : d ≠ p) (hbd : base ≤ d) :
    Calls Tryz.prog 70 #[.pointer (some ⟨p, 0, none⟩), .pointer (some ⟨d, 2, none⟩)] w (DeskRd base p d s5 y0 y1 y2 y3 y4 nA nB nC nD nE nF w) := by
  have C0 : Hid (RS base p d w st w) := ⟨hs, Chg.refl _ _ _⟩
  have D0 := Lib.hid hd
  have Q0 := Lib.hid q0
  have Q1 := Lib.hid q1
  have Q2 := Lib.hid q2
  have Q3 := Lib.hid q3
  have Q4 := Lib.hid q4
  clear hs hd q0 q1 q2 q3 q4
  go_enter Tryz.func70, Tryz.ntmps70
  go_wp2_with fail
  refine (rdWhole (o := 2) (cs' := #[nA, nB, .int .i64 y0, .slice none 0 0, .int .i64 0, .bool false, .slice none 0 0, nC, nD, nE, nF]) C0.out D0.out Q0.out rfl rfl (.inl rfl) hne hbd).mono ?_
  rintro e w101 ⟨rfl, hc, hd2, hch⟩
  have C101 := Lib.hid hc
  have D101 := Lib.hid hd2
  clear hc hd2 hch
  have cl := blk_cell D101.out 3
  simp at cl
  go_wp2_with fail
  refine (rdMany C101.out D101.out (.inl rfl) hne hbd).mono ?_
  rintro e w102 ⟨rfl, hc, hd2, hch⟩
  have n1020 : (pM s1 0).1 ≤ 1000000000 := Nat.le_trans (pM_le C101.out.pr.rd) C101.out.pr.sm
  have HR : Hid (pIt cTurn (⟨#[]⟩, 0, 0) (pM s1 0).1 (pM s1 0).2 [] = (y1, s2)) := by show _ = _; rw [← pL_read cTurn (⟨#[]⟩, 0, 0) C101.out.pr.rd]; exact Q1.out
  obtain ⟨n102, hn⟩ : ∃ n, (pM s1 0).1 = n := ⟨_, rfl⟩
  obtain ⟨sq102, hsq⟩ : ∃ q, (pM s1 0).2 = q := ⟨_, rfl⟩
  rw [hn] at n1020 HR ⊢
  rw [hsq] at HR hc
  clear hn hsq cl
  have HL102 : Hid (RL cTurn (⟨#[]⟩, 0, 0) mTurn 147 base p d 35 (fun v => #[nA, nB, .int .i64 y0, v, .int .i64 0, .bool false, .slice none 0 0, nC, nD, nE, nF]) w w102 n102 (y1, s2) [] sq102 (.slice none 0 0) w102) := RL.start hc hd2 HR.out
  have CM102 := Lib.hid hc
  have DM102 := Lib.hid hd2
  clear hc hd2 hch HR
  go_wp2
  go_loopw [4] (fun ix wl => ∃ k : Nat, ix = .int .i64 k ∧ k ≤ n102 ∧ Hid (∃ acc s v, acc.length = k ∧ RL cTurn (⟨#[]⟩, 0, 0) mTurn 147 base p d 35 (fun v => #[nA, nB, .int .i64 y0, v, .int .i64 0, .bool false, .slice none 0 0, nC, nD, nE, nF]) w w102 n102 (y1, s2) acc s v wl)) (fun ix _ => n102 - (intOf ix).toNat)
  case atStart => exact ⟨0, rfl, by omega, ⟨_, _, _, rfl, HL102.out⟩⟩
  case round =>
    obtain ⟨kk, rfl, hk102, HW⟩ := hrel
    obtain ⟨acc102, sx102, vx, hka, hL⟩ := HW.out
    subst hka
    obtain ⟨wz102, hwr⟩ : ∃ z, z = wr := ⟨_, rfl⟩
    subst hwr
    obtain ⟨Av102, cv102, rfl⟩ := hL.len
    have tb := hL.pr.cell3
    have tr := hL.pr.cell2
    have HX102 := Lib.hid hL
    clear HW hL HL102
    obtain ⟨gg, hg⟩ : ∃ g : Bool, (decide (acc102.length < n102) && !sx102.bad) = g := ⟨_, rfl⟩
    have HG102 := Lib.hid hg
    clear hg
    go_upto_region 2 with fail
    go_cut [36] (fun sl wx => sl = .bool gg ∧ wz102 = wx)
    case first =>
      by_cases h1 : acc102.length < n102
      · cases hb : sx102.bad with
        | true =>
          have hgg : gg = false := by rw [← HG102.out]; simp [h1, hb]
          have HGG := Lib.hid hgg
          rw [hb] at tb
          clear hb hgg
          go_wp2
          go_meet
          exact ⟨by rw [HGG.out], rfl⟩
        | false =>
          have hgg : gg = true := by rw [← HG102.out]; simp [h1, hb]
          have HGG := Lib.hid hgg
          rw [hb] at tb
          clear hb hgg
          go_wp2
          go_meet
          exact ⟨by rw [HGG.out], rfl⟩
      · have hgg : gg = false := by rw [← HG102.out]; simp [h1]
        have HGG := Lib.hid hgg
        clear hgg
        go_wp2
        go_meet
        exact ⟨by rw [HGG.out], rfl⟩
    case rest =>
      obtain ⟨rfl, hwx⟩ := hcut
      subst hwx
      cases gg with
      | true =>
        obtain ⟨h1, h2⟩ : acc102.length < n102 ∧ sx102.bad = false := by simpa using HG102.out
        rw [h2] at tb
        have H2102 := Lib.hid h2
        clear HG102 h2
        have hbw : base ≤ (wz102.alloc (.cells #[.string ⟨#[]⟩, .int .i64 0, .int .i64 0] 147)).heap.size := by have := HX102.out.pr.lt; have := HX102.out.pr.hr; simp; omega
        have cl := blk_cell HX102.out.blk 3
        simp at cl
        have HOW : Hid (LOwn 147 mTurn base (wz102.alloc (.cells #[.string ⟨#[]⟩, .int .i64 0, .int .i64 0] 147)) _ acc102) := HX102.out.own.keep mTurn_law (Stay.below ((Below.refl _ _).alloc (Nat.le_refl _) _))
        have HAL : Hid ((wz102.alloc (.cells #[.string ⟨#[]⟩, .int .i64 0, .int .i64 0] 147)).heap[wz102.heap.size]? = some (.cells ([.string ⟨#[]⟩, .int .i64 0, .int .i64 0] : List Value).toArray 147)) := alloc_at _ _
        have hal : acc102.length + 1 ≤ 100000000000 := by omega
        have hzo : ∀ u ∈ ([.string ⟨#[]⟩, .int .i64 0, .int .i64 0] : List Value), u.oneCell' = true := fun u hu => (List.all_eq_true.1 (rfl : ([.string ⟨#[]⟩, .int .i64 0, .int .i64 0] : List Value).all (·.oneCell') = true)) u hu
        have HZO := Lib.hid hzo
        clear hzo
        have HUL : Hid (([.string ⟨#[]⟩, .int .i64 0, .int .i64 0] : List Value).length = mTurn.n) := by show _ = _; rfl
        go_upto_region 6 with (first
          | (with_reducible refine wpList_buildOne rfl (.tmp 49) rfl (.agg #[.string ⟨#[]⟩, .int .i64 0, .int .i64 0]) #[.string ⟨#[]⟩, .int .i64 0, .int .i64 0] elemTurn rfl rfl rfl (by decide) (by decide) ?_)
          | ((with_reducible refine wpList_pushZ rfl (.tmp 48) (.tmp 50) rfl elemTurn mTurn_law (by decide) base _ acc102 [.string ⟨#[]⟩, .int .i64 0, .int .i64 0] wz102.heap.size rfl HOW.out rfl HAL.out HUL.out HZO.out hal (by decide) hbw ?_); intro g102 cp102 w102a hZ hG hat; have hk1 := (HX102.out.pushed hG).2.1; have cl3 := blk_cell hk1 3; have fl3 := blk_free hk1 3; simp at cl3; have HZ102 := Lib.hid (HX102.out.stored mTurn_law (off := 3) hG hZ hat (by decide) rfl hne hbd); clear hZ hG hat hk1 cl))
        clear cl3 fl3 HOW HAL HUL hal HZO hbw
        generalize (w102a.setCell ⟨d, 3, none⟩ (.slice (some ⟨g102, 0, none⟩) (acc102.length + 1) cp102)) = wy102 at HZ102 ⊢
        have cl := blk_cell HZ102.out.blk 3
        simp at cl
        have tr := HZ102.out.pr.cell2
        have HRG : Hid (wy102.rangeAt g102 (acc102.length * 3) [.string ⟨#[]⟩, .int .i64 0, .int .i64 0]) := HZ102.out.own.range
        have hi1 : Hid ((Tryz.prog.info? 147).map (·.size) = some ([.string ⟨#[]⟩, .int .i64 0, .int .i64 0] : List Value).length) := by show _ = _; kernel_rfl
        have hi2 : Hid ((Tryz.prog.info? 147).map (·.size) = some (#[.string ⟨#[]⟩, .int .i64 0, .int .i64 0] : Array Value).size) := by show _ = _; kernel_rfl
        have hone : Hid ((#[.string ⟨#[]⟩, .int .i64 0, .int .i64 0] : Array Value).all (·.oneCell') = true) := all_oneCell_toArray (cs := [.string ⟨#[]⟩, .int .i64 0, .int .i64 0]) (fun u hu => List.all_eq_true.1 (rfl : ([.string ⟨#[]⟩, .int .i64 0, .int .i64 0] : List Value).all (·.oneCell') = true) u hu)
        have HTH : Hid ((wy102.alloc (.cells #[.string ⟨#[]⟩, .int .i64 0, .int .i64 0] 147)).there wy102.heap.size 0 (#[.string ⟨#[]⟩, .int .i64 0, .int .i64 0] : Array Value).size) := there_new _ _ _ _ rfl
        have HB102 : Hid (Below wy102.heap.size wy102 ((wy102.alloc (.cells #[.string ⟨#[]⟩, .int .i64 0, .int .i64 0] 147)).setCells wy102.heap.size 0 [.string ⟨#[]⟩, .int .i64 0, .int .i64 0])) := below_cells (Nat.le_refl _) _ _ _ ((Below.refl _ _).alloc (Nat.le_refl _) _)
        have HD102 : Hid (((wy102.alloc (.cells #[.string ⟨#[]⟩, .int .i64 0, .int .i64 0] 147)).setCells wy102.heap.size 0 [.string ⟨#[]⟩, .int .i64 0, .int .i64 0]).heap[wy102.heap.size]? = some (.cells #[.string ⟨#[]⟩, .int .i64 0, .int .i64 0] 147)) := fresh_cells wy102 #[.string ⟨#[]⟩, .int .i64 0, .int .i64 0] #[.string ⟨#[]⟩, .int .i64 0, .int .i64 0] 147 rfl
        go_wp2_with (first
          | (with_reducible refine wpList_load_mid rfl 147 (.tmp 61) rfl g102 (acc102.length * 3) rfl [.string ⟨#[]⟩, .int .i64 0, .int .i64 0] _ HRG.out Tryz.underlying147 rfl hi1.out ?_)
          | (with_reducible refine wpList_store_mid rfl 147 (.tmp 6) (.tmp 62) rfl wy102.heap.size 0 #[.string ⟨#[]⟩, .int .i64 0, .int .i64 0] rfl rfl HTH.out hi2.out hone.out ?_))
        clear HRG HTH hi2 hone
        clear cl
        have hgn102 : wy102.heap.size ≠ p := by have := HZ102.out.pr.lt; omega
        have hgb102 : base ≤ wy102.heap.size := by have := HZ102.out.pr.lt; have := HZ102.out.pr.hr; omega
        have CL102 : Hid (RS base p wy102.heap.size ((wy102.alloc (.cells #[.string ⟨#[]⟩, .int .i64 0, .int .i64 0] 147)).setCells wy102.heap.size 0 [.string ⟨#[]⟩, .int .i64 0, .int .i64 0]) sx102 ((wy102.alloc (.cells #[.string ⟨#[]⟩, .int .i64 0, .int .i64 0] 147)).setCells wy102.heap.size 0 [.string ⟨#[]⟩, .int .i64 0, .int .i64 0])) := HZ102.out.newb HB102.out
        generalize ((wy102.alloc (.cells #[.string ⟨#[]⟩, .int .i64 0, .int .i64 0] 147)).setCells wy102.heap.size 0 [.string ⟨#[]⟩, .int .i64 0, .int .i64 0]) = wl102 at HB102 HD102 CL102 ⊢
        obtain ⟨e102_0, t102_1, q102_0⟩ : ∃ u t, pC cS sx102 ⟨#[]⟩ = (u, t) := ⟨_, _, rfl⟩
        obtain ⟨e102_1, t102_2, q102_1⟩ : ∃ u t, pC cI t102_1 0 = (u, t) := ⟨_, _, rfl⟩
        obtain ⟨e102_2, t102_3, q102_2⟩ : ∃ u t, pC cI t102_2 0 = (u, t) := ⟨_, _, rfl⟩
        have HE102 : Hid (pC cTurn sx102 (⟨#[]⟩, 0, 0) = ((e102_0, e102_1, e102_2), t102_3)) := by show _ = _; unfold cTurn; simp only [pC_seq, q102_0, q102_1, q102_2]
        have Q102_0 := Lib.hid q102_0
        clear q102_0
        have Q102_1 := Lib.hid q102_1
        clear q102_1
        have Q102_2 := Lib.hid q102_2
        clear q102_2
        clear tr tb
        go_wp2_with fail
        refine (rdText (o := 0) (cs' := #[.string e102_0, .int .i64 0, .int .i64 0]) CL102.out HD102.out Q102_0.out rfl rfl (.inl rfl) hgn102 hgb102).mono ?_
        rintro e w103 ⟨rfl, hc, hd2, hch⟩
        have C103 := Lib.hid hc
        have D103 := Lib.hid hd2
        clear hc hd2 hch
        go_wp2_with fail
        refine (rdWhole (o := 1) (cs' := #[.string e102_0, .int .i64 e102_1, .int .i64 0]) C103.out D103.out Q102_1.out rfl rfl (.inl rfl) hgn102 hgb102).mono ?_
        rintro e w104 ⟨rfl, hc, hd2, hch⟩
        have C104 := Lib.hid hc
        have D104 := Lib.hid hd2
        clear hc hd2 hch
        go_wp2_with fail
        refine (rdNum (o := 2) (cs' := #[.string e102_0, .int .i64 e102_1, .int .i64 e102_2]) C104.out D104.out Q102_2.out rfl rfl (.inl rfl) hgn102 hgb102).mono ?_
        rintro e w105 ⟨rfl, hc, hd2, hch⟩
        have C105 := Lib.hid hc
        have D105 := Lib.hid hd2
        clear hc hd2 hch
        have HY102 : Hid (mTurn.own base w105 [.string e102_0, .int .i64 e102_1, .int .i64 e102_2] (e102_0, e102_1, e102_2)) := mTurn_mk
        have HN102 := Lib.hid (HZ102.out.next (q := 1) mTurn_law HB102.out C105.out (by decide) (by decide) hne HY102.out HE102.out h1 H2102.out)
        obtain ⟨hb1, hb2, _⟩ := HZ102.out.back mTurn_law HB102.out C105.out (by decide) hne
        have cl := blk_cell hb1 3
        simp at cl
        have tr := C105.out.pr.cell2
        have HT2 : Hid ((World.drewN w105 1).there g102 (acc102.length * 3) (#[.string e102_0, .int .i64 e102_1, .int .i64 e102_2] : Array Value).size) := hb2.there (n := 3) rfl
        have hlna : ((acc102.length : Nat) : Int) < (acc102.length : Int) + 1 := by omega
        clear hb1
        have HLG := Lib.hid (range_of D105.out)
        have hi3 : Hid ((Tryz.prog.info? 147).map (·.size) = some ([.string e102_0, .int .i64 e102_1, .int .i64 e102_2] : List Value).length) := by show _ = _; kernel_rfl
        have hi4 : Hid ((Tryz.prog.info? 147).map (·.size) = some (#[.string e102_0, .int .i64 e102_1, .int .i64 e102_2] : Array Value).size) := by show _ = _; kernel_rfl
        have hon2 : Hid ((#[.string e102_0, .int .i64 e102_1, .int .i64 e102_2] : Array Value).all (·.oneCell') = true) := all_oneCell_toArray (cs := [.string e102_0, .int .i64 e102_1, .int .i64 e102_2]) (fun u hu => List.all_eq_true.1 (rfl : ([.string e102_0, .int .i64 e102_1, .int .i64 e102_2] : List Value).all (·.oneCell') = true) u hu)
        clear hb2
        go_wp2
        refine wp_region_still_tail 8 (by kernel_rfl) (by kernel_rfl) ?_
        simp only [List.take_succ_cons, List.take_zero, List.drop_succ_cons, List.drop_zero]
        repeat (first | (refine wpStill_load_mid rfl 147 (.tmp 6) rfl wy102.heap.size 0 rfl [.string e102_0, .int .i64 e102_1, .int .i64 e102_2] _ HLG.out Tryz.underlying147 rfl hi3.out ?_) | still_step)
        try refine wpStill_nil ?_
        change wpList _ _ _ _ _ (World.drewN _ 1)
        go_wp2_with (with_reducible refine wpList_store_mid rfl 147 (.tmp 83) (.tmp 82) rfl g102 (acc102.length * 3) #[.string e102_0, .int .i64 e102_1, .int .i64 e102_2] rfl rfl HT2.out hi4.out hon2.out ?_)
        go_roundw
        case rel => exact ⟨acc102.length + 1, by go_num, by omega, ⟨acc102 ++ [_], _, _, by simp, HN102.out⟩⟩
        case measure => simp [intOf]; omega
      | false =>
        have hend := HX102.out.end (by have := HG102.out; simpa using this)
        injection hend with h8 h9
        subst h8
        subst h9
        have C102 : Hid (RS base p d w s2 wz102) := HX102.out.rs
        have D102 : Hid (wz102.heap[d]? = some (.cells #[nA, nB, .int .i64 y0, .slice Av102 (y1).length cv102, .int .i64 0, .bool false, .slice none 0 0, nC, nD, nE, nF] 35)) := HX102.out.blk
        have O102 : Hid (LOwn 147 mTurn base wz102 (.slice Av102 (y1).length cv102) y1) := HX102.out.own
        clear HX102 HG102 CM102 DM102 tb tr
        go_wp2_with fail
        refine (rdWhole (o := 4) (cs' := #[nA, nB, .int .i64 y0, .slice Av102 (y1).length cv102, .int .i64 y2, .bool false, .slice none 0 0, nC, nD, nE, nF]) C102.out D102.out Q2.out rfl rfl (.inl rfl) hne hbd).mono ?_
        rintro e w106 ⟨rfl, hc, hd2, hch⟩
        have hO102 := O102.out.go mTurn_law C102.out.pr D102.out hch (by decide) (by decide)
        clear O102
        have O102 := Lib.hid hO102
        clear hO102
        have C106 := Lib.hid hc
        have D106 := Lib.hid hd2
        clear hc hd2 hch
        go_wp2_with fail
        refine (rdFlag (o := 5) (cs' := #[nA, nB, .int .i64 y0, .slice Av102 (y1).length cv102, .int .i64 y2, .bool y3, .slice none 0 0, nC, nD, nE, nF]) C106.out D106.out Q3.out rfl rfl (.inl rfl) hne hbd).mono ?_
        rintro e w107 ⟨rfl, hc, hd2, hch⟩
        have hO102 := O102.out.go mTurn_law C106.out.pr D106.out hch (by decide) (by decide)
        clear O102
        have O102 := Lib.hid hO102
        clear hO102
        have C107 := Lib.hid hc
        have D107 := Lib.hid hd2
        clear hc hd2 hch
        have cl := blk_cell D107.out 6
        simp at cl
        go_wp2_with fail
        refine (rdMany C107.out D107.out (.inl rfl) hne hbd).mono ?_
        rintro e w108 ⟨rfl, hc, hd2, hch⟩
        have hO102 := O102.out.go mTurn_law C107.out.pr D107.out hch (by decide) (by decide)
        clear O102
        have O102 := Lib.hid hO102
        clear hO102
        have n1080 : (pM s4 0).1 ≤ 1000000000 := Nat.le_trans (pM_le C107.out.pr.rd) C107.out.pr.sm
        have HR : Hid (pIt cLine (⟨#[]⟩, 0, []) (pM s4 0).1 (pM s4 0).2 [] = (y4, s5)) := by show _ = _; rw [← pL_read cLine (⟨#[]⟩, 0, []) C107.out.pr.rd]; exact Q4.out
        obtain ⟨n108, hn⟩ : ∃ n, (pM s4 0).1 = n := ⟨_, rfl⟩
        obtain ⟨sq108, hsq⟩ : ∃ q, (pM s4 0).2 = q := ⟨_, rfl⟩
        rw [hn] at n1080 HR ⊢
        rw [hsq] at HR hc
        clear hn hsq cl
        have HL108 : Hid (RL cLine (⟨#[]⟩, 0, []) mLine 120 base p d 35 (fun v => #[nA, nB, .int .i64 y0, .slice Av102 (y1).length cv102, .int .i64 y2, .bool y3, v, nC, nD, nE, nF]) w w108 n108 (y4, s5) [] sq108 (.slice none 0 0) w108) := RL.start hc hd2 HR.out
        have CM108 := Lib.hid hc
        have DM108 := Lib.hid hd2
        clear hc hd2 hch HR
        go_wp2
        go_loopw [7] (fun ix wl => ∃ k : Nat, ix = .int .i64 k ∧ k ≤ n108 ∧ Hid (∃ acc s v, acc.length = k ∧ RL cLine (⟨#[]⟩, 0, []) mLine 120 base p d 35 (fun v => #[nA, nB, .int .i64 y0, .slice Av102 (y1).length cv102, .int .i64 y2, .bool y3, v, nC, nD, nE, nF]) w w108 n108 (y4, s5) acc s v wl)) (fun ix _ => n108 - (intOf ix).toNat)
        case atStart => exact ⟨0, rfl, by omega, ⟨_, _, _, rfl, HL108.out⟩⟩
        case round =>
          obtain ⟨kk, rfl, hk108, HW⟩ := hrel
          obtain ⟨acc108, sx108, vx, hka, hL⟩ := HW.out
          subst hka
          obtain ⟨wz108, hwr⟩ : ∃ z, z = wr := ⟨_, rfl⟩
          subst hwr
          obtain ⟨Av108, cv108, rfl⟩ := hL.len
          have tb := hL.pr.cell3
          have tr := hL.pr.cell2
          have HX108 := Lib.hid hL
          clear HW hL HL108
          obtain ⟨gg, hg⟩ : ∃ g : Bool, (decide (acc108.length < n108) && !sx108.bad) = g := ⟨_, rfl⟩
          have HG108 := Lib.hid hg
          clear hg
          go_upto_region 15 with fail
          go_cut [112] (fun sl wx => sl = .bool gg ∧ wz108 = wx)
          case first =>
            by_cases h1 : acc108.length < n108
            · cases hb : sx108.bad with
              | true =>
                have hgg : gg = false := by rw [← HG108.out]; simp [h1, hb]
                have HGG := Lib.hid hgg
                rw [hb] at tb
                clear hb hgg
                go_wp2
                go_meet
                exact ⟨by rw [HGG.out], rfl⟩
              | false =>
                have hgg : gg = true := by rw [← HG108.out]; simp [h1, hb]
                have HGG := Lib.hid hgg
                rw [hb] at tb
                clear hb hgg
                go_wp2
                go_meet
                exact ⟨by rw [HGG.out], rfl⟩
            · have hgg : gg = false := by rw [← HG108.out]; simp [h1]
              have HGG := Lib.hid hgg
              clear hgg
              go_wp2
              go_meet
              exact ⟨by rw [HGG.out], rfl⟩
          case rest =>
            obtain ⟨rfl, hwx⟩ := hcut
            subst hwx
            cases gg with
            | true =>
              obtain ⟨h1, h2⟩ : acc108.length < n108 ∧ sx108.bad = false := by simpa using HG108.out
              rw [h2] at tb
              have H2108 := Lib.hid h2
              clear HG108 h2
              have hbw : base ≤ (wz108.alloc (.cells #[.string ⟨#[]⟩, .int .i64 0, .slice none 0 0] 120)).heap.size := by have := HX108.out.pr.lt; have := HX108.out.pr.hr; simp; omega
              have cl := blk_cell HX108.out.blk 6
              simp at cl
              have HOW : Hid (LOwn 120 mLine base (wz108.alloc (.cells #[.string ⟨#[]⟩, .int .i64 0, .slice none 0 0] 120)) _ acc108) := HX108.out.own.keep mLine_law (Stay.below ((Below.refl _ _).alloc (Nat.le_refl _) _))
              have HAL : Hid ((wz108.alloc (.cells #[.string ⟨#[]⟩, .int .i64 0, .slice none 0 0] 120)).heap[wz108.heap.size]? = some (.cells ([.string ⟨#[]⟩, .int .i64 0, .slice none 0 0] : List Value).toArray 120)) := alloc_at _ _
              have hal : acc108.length + 1 ≤ 100000000000 := by omega
              have hzo : ∀ u ∈ ([.string ⟨#[]⟩, .int .i64 0, .slice none 0 0] : List Value), u.oneCell' = true := fun u hu => (List.all_eq_true.1 (rfl : ([.string ⟨#[]⟩, .int .i64 0, .slice none 0 0] : List Value).all (·.oneCell') = true)) u hu
              have HZO := Lib.hid hzo
              clear hzo
              have HUL : Hid (([.string ⟨#[]⟩, .int .i64 0, .slice none 0 0] : List Value).length = mLine.n) := by show _ = _; rfl
              go_upto_region 19 with (first
                | (with_reducible refine wpList_buildOne rfl (.tmp 124) rfl (.agg #[.string ⟨#[]⟩, .int .i64 0, .slice none 0 0]) #[.string ⟨#[]⟩, .int .i64 0, .slice none 0 0] elemLine rfl rfl rfl (by decide) (by decide) ?_)
                | ((with_reducible refine wpList_pushZ rfl (.tmp 123) (.tmp 125) rfl elemLine mLine_law (by decide) base _ acc108 [.string ⟨#[]⟩, .int .i64 0, .slice none 0 0] wz108.heap.size rfl HOW.out rfl HAL.out HUL.out HZO.out hal (by decide) hbw ?_); intro g108 cp108 w108a hZ hG hat; have hk1 := (HX108.out.pushed hG).2.1; have cl3 := blk_cell hk1 6; have fl3 := blk_free hk1 6; simp at cl3; have HZ108 := Lib.hid (HX108.out.stored mLine_law (off := 6) hG hZ hat (by decide) rfl hne hbd); clear hZ hG hat hk1 cl))
              clear cl3 fl3 HOW HAL HUL hal HZO hbw
              generalize (w108a.setCell ⟨d, 6, none⟩ (.slice (some ⟨g108, 0, none⟩) (acc108.length + 1) cp108)) = wy108 at HZ108 ⊢
              have cl := blk_cell HZ108.out.blk 6
              simp at cl
              have tr := HZ108.out.pr.cell2
              have HRG : Hid (wy108.rangeAt g108 (acc108.length * 3) [.string ⟨#[]⟩, .int .i64 0, .slice none 0 0]) := HZ108.out.own.range
              have hi1 : Hid ((Tryz.prog.info? 120).map (·.size) = some ([.string ⟨#[]⟩, .int .i64 0, .slice none 0 0] : List Value).length) := by show _ = _; kernel_rfl
              have hi2 : Hid ((Tryz.prog.info? 120).map (·.size) = some (#[.string ⟨#[]⟩, .int .i64 0, .slice none 0 0] : Array Value).size) := by show _ = _; kernel_rfl
              have hone : Hid ((#[.string ⟨#[]⟩, .int .i64 0, .slice none 0 0] : Array Value).all (·.oneCell') = true) := all_oneCell_toArray (cs := [.string ⟨#[]⟩, .int .i64 0, .slice none 0 0]) (fun u hu => List.all_eq_true.1 (rfl : ([.string ⟨#[]⟩, .int .i64 0, .slice none 0 0] : List Value).all (·.oneCell') = true) u hu)
              have HTH : Hid ((wy108.alloc (.cells #[.string ⟨#[]⟩, .int .i64 0, .slice none 0 0] 120)).there wy108.heap.size 0 (#[.string ⟨#[]⟩, .int .i64 0, .slice none 0 0] : Array Value).size) := there_new _ _ _ _ rfl
              have HB108 : Hid (Below wy108.heap.size wy108 ((wy108.alloc (.cells #[.string ⟨#[]⟩, .int .i64 0, .slice none 0 0] 120)).setCells wy108.heap.size 0 [.string ⟨#[]⟩, .int .i64 0, .slice none 0 0])) := below_cells (Nat.le_refl _) _ _ _ ((Below.refl _ _).alloc (Nat.le_refl _) _)
              have HD108 : Hid (((wy108.alloc (.cells #[.string ⟨#[]⟩, .int .i64 0, .slice none 0 0] 120)).setCells wy108.heap.size 0 [.string ⟨#[]⟩, .int .i64 0, .slice none 0 0]).heap[wy108.heap.size]? = some (.cells #[.string ⟨#[]⟩, .int .i64 0, .slice none 0 0] 120)) := fresh_cells wy108 #[.string ⟨#[]⟩, .int .i64 0, .slice none 0 0] #[.string ⟨#[]⟩, .int .i64 0, .slice none 0 0] 120 rfl
              go_wp2_with (first
                | (with_reducible refine wpList_load_mid rfl 120 (.tmp 134) rfl g108 (acc108.length * 3) rfl [.string ⟨#[]⟩, .int .i64 0, .slice none 0 0] _ HRG.out Tryz.underlying120 rfl hi1.out ?_)
                | (with_reducible refine wpList_store_mid rfl 120 (.tmp 9) (.tmp 135) rfl wy108.heap.size 0 #[.string ⟨#[]⟩, .int .i64 0, .slice none 0 0] rfl rfl HTH.out hi2.out hone.out ?_))
              clear HRG HTH hi2 hone
              clear cl
              have hgn108 : wy108.heap.size ≠ p := by have := HZ108.out.pr.lt; omega
              have hgb108 : base ≤ wy108.heap.size := by have := HZ108.out.pr.lt; have := HZ108.out.pr.hr; omega
              have CL108 : Hid (RS base p wy108.heap.size ((wy108.alloc (.cells #[.string ⟨#[]⟩, .int .i64 0, .slice none 0 0] 120)).setCells wy108.heap.size 0 [.string ⟨#[]⟩, .int .i64 0, .slice none 0 0]) sx108 ((wy108.alloc (.cells #[.string ⟨#[]⟩, .int .i64 0, .slice none 0 0] 120)).setCells wy108.heap.size 0 [.string ⟨#[]⟩, .int .i64 0, .slice none 0 0])) := HZ108.out.newb HB108.out
              generalize ((wy108.alloc (.cells #[.string ⟨#[]⟩, .int .i64 0, .slice none 0 0] 120)).setCells wy108.heap.size 0 [.string ⟨#[]⟩, .int .i64 0, .slice none 0 0]) = wl108 at HB108 HD108 CL108 ⊢
              obtain ⟨e108_0, t108_1, q108_0⟩ : ∃ u t, pC cS sx108 ⟨#[]⟩ = (u, t) := ⟨_, _, rfl⟩
              obtain ⟨e108_1, t108_2, q108_1⟩ : ∃ u t, pC cI t108_1 0 = (u, t) := ⟨_, _, rfl⟩
              obtain ⟨e108_2, t108_3, q108_2⟩ : ∃ u t, pC (cL cItem) t108_2 [] = (u, t) := ⟨_, _, rfl⟩
              have HE108 : Hid (pC cLine sx108 (⟨#[]⟩, 0, []) = ((e108_0, e108_1, e108_2), t108_3)) := by show _ = _; unfold cLine; simp only [pC_seq, q108_0, q108_1, q108_2]
              have Q108_0 := Lib.hid q108_0
              clear q108_0
              have Q108_1 := Lib.hid q108_1
              clear q108_1
              have Q108_2 := Lib.hid q108_2
              clear q108_2
              clear tr tb
              go_wp2_with fail
              refine (rdText (o := 0) (cs' := #[.string e108_0, .int .i64 0, .slice none 0 0]) CL108.out HD108.out Q108_0.out rfl rfl (.inl rfl) hgn108 hgb108).mono ?_
              rintro e w109 ⟨rfl, hc, hd2, hch⟩
              have C109 := Lib.hid hc
              have D109 := Lib.hid hd2
              clear hc hd2 hch
              go_wp2_with fail
              refine (rdWhole (o := 1) (cs' := #[.string e108_0, .int .i64 e108_1, .slice none 0 0]) C109.out D109.out Q108_1.out rfl rfl (.inl rfl) hgn108 hgb108).mono ?_
              rintro e w110 ⟨rfl, hc, hd2, hch⟩
              have C110 := Lib.hid hc
              have D110 := Lib.hid hd2
              clear hc hd2 hch
              have cl := blk_cell D110.out 2
              simp at cl
              go_wp2_with fail
              refine (rdMany C110.out D110.out (.inl rfl) hgn108 hgb108).mono ?_
              rintro e w111 ⟨rfl, hc, hd2, hch⟩
              have n1110 : (pM t108_2 0).1 ≤ 1000000000 := Nat.le_trans (pM_le C110.out.pr.rd) C110.out.pr.sm
              have HR : Hid (pIt cItem (0, 0) (pM t108_2 0).1 (pM t108_2 0).2 [] = (e108_2, t108_3)) := by show _ = _; rw [← pL_read cItem (0, 0) C110.out.pr.rd]; exact Q108_2.out
              obtain ⟨n111, hn⟩ : ∃ n, (pM t108_2 0).1 = n := ⟨_, rfl⟩
              obtain ⟨sq111, hsq⟩ : ∃ q, (pM t108_2 0).2 = q := ⟨_, rfl⟩
              rw [hn] at n1110 HR ⊢
              rw [hsq] at HR hc
              clear hn hsq cl
              have HL111 : Hid (RL cItem (0, 0) mItem 152 base p wy108.heap.size 120 (fun v => #[.string e108_0, .int .i64 e108_1, v]) wl108 w111 n111 (e108_2, t108_3) [] sq111 (.slice none 0 0) w111) := RL.start hc hd2 HR.out
              have CM111 := Lib.hid hc
              have DM111 := Lib.hid hd2
              clear hc hd2 hch HR
              go_wp2
              go_loopw [10] (fun ix wl => ∃ k : Nat, ix = .int .i64 k ∧ k ≤ n111 ∧ Hid (∃ acc s v, acc.length = k ∧ RL cItem (0, 0) mItem 152 base p wy108.heap.size 120 (fun v => #[.string e108_0, .int .i64 e108_1, v]) wl108 w111 n111 (e108_2, t108_3) acc s v wl)) (fun ix _ => n111 - (intOf ix).toNat)
              case atStart => exact ⟨0, rfl, by omega, ⟨_, _, _, rfl, HL111.out⟩⟩
              case round =>
                obtain ⟨kk, rfl, hk111, HW⟩ := hrel
                obtain ⟨acc111, sx111, vx, hka, hL⟩ := HW.out
                subst hka
                obtain ⟨wz111, hwr⟩ : ∃ z, z = wr := ⟨_, rfl⟩
                subst hwr
                obtain ⟨Av111, cv111, rfl⟩ := hL.len
                have tb := hL.pr.cell3
                have tr := hL.pr.cell2
                have HX111 := Lib.hid hL
                clear HW hL HL111
                obtain ⟨gg, hg⟩ : ∃ g : Bool, (decide (acc111.length < n111) && !sx111.bad) = g := ⟨_, rfl⟩
                have HG111 := Lib.hid hg
                clear hg
                go_upto_region 23 with fail
                go_cut [156] (fun sl wx => sl = .bool gg ∧ wz111 = wx)
                case first =>
                  by_cases h1 : acc111.length < n111
                  · cases hb : sx111.bad with
                    | true =>
                      have hgg : gg = false := by rw [← HG111.out]; simp [h1, hb]
                      have HGG := Lib.hid hgg
                      rw [hb] at tb
                      clear hb hgg
                      go_wp2
                      go_meet
                      exact ⟨by rw [HGG.out], rfl⟩
                    | false =>
                      have hgg : gg = true := by rw [← HG111.out]; simp [h1, hb]
                      have HGG := Lib.hid hgg
                      rw [hb] at tb
                      clear hb hgg
                      go_wp2
                      go_meet
                      exact ⟨by rw [HGG.out], rfl⟩
                  · have hgg : gg = false := by rw [← HG111.out]; simp [h1]
                    have HGG := Lib.hid hgg
                    clear hgg
                    go_wp2
                    go_meet
                    exact ⟨by rw [HGG.out], rfl⟩
                case rest =>
                  obtain ⟨rfl, hwx⟩ := hcut
                  subst hwx
                  cases gg with
                  | true =>
                    obtain ⟨h1, h2⟩ : acc111.length < n111 ∧ sx111.bad = false := by simpa using HG111.out
                    rw [h2] at tb
                    have H2111 := Lib.hid h2
                    clear HG111 h2
                    have hbw : base ≤ (wz111.alloc (.cells #[.int .i64 0, .int .i64 0] 152)).heap.size := by have := HX111.out.pr.lt; have := HX111.out.pr.hr; simp; omega
                    have cl := blk_cell HX111.out.blk 2
                    simp at cl
                    have HOW : Hid (LOwn 152 mItem base (wz111.alloc (.cells #[.int .i64 0, .int .i64 0] 152)) _ acc111) := HX111.out.own.keep mItem_law (Stay.below ((Below.refl _ _).alloc (Nat.le_refl _) _))
                    have HAL : Hid ((wz111.alloc (.cells #[.int .i64 0, .int .i64 0] 152)).heap[wz111.heap.size]? = some (.cells ([.int .i64 0, .int .i64 0] : List Value).toArray 152)) := alloc_at _ _
                    have hal : acc111.length + 1 ≤ 100000000000 := by omega
                    have hzo : ∀ u ∈ ([.int .i64 0, .int .i64 0] : List Value), u.oneCell' = true := fun u hu => (List.all_eq_true.1 (rfl : ([.int .i64 0, .int .i64 0] : List Value).all (·.oneCell') = true)) u hu
                    have HZO := Lib.hid hzo
                    clear hzo
                    have HUL : Hid (([.int .i64 0, .int .i64 0] : List Value).length = mItem.n) := by show _ = _; rfl
                    go_upto_region 27 with (first
                      | (with_reducible refine wpList_buildOne rfl (.tmp 165) rfl (.agg #[.int .i64 0, .int .i64 0]) #[.int .i64 0, .int .i64 0] elemItem rfl rfl rfl (by decide) (by decide) ?_)
                      | ((with_reducible refine wpList_pushZ rfl (.tmp 164) (.tmp 166) rfl elemItem mItem_law (by decide) base _ acc111 [.int .i64 0, .int .i64 0] wz111.heap.size rfl HOW.out rfl HAL.out HUL.out HZO.out hal (by decide) hbw ?_); intro g111 cp111 w111a hZ hG hat; have hk1 := (HX111.out.pushed hG).2.1; have cl3 := blk_cell hk1 2; have fl3 := blk_free hk1 2; simp at cl3; have HZ111 := Lib.hid (HX111.out.stored mItem_law (off := 2) hG hZ hat (by decide) rfl hgn108 hgb108); clear hZ hG hat hk1 cl))
                    clear cl3 fl3 HOW HAL HUL hal HZO hbw
                    generalize (w111a.setCell ⟨wy108.heap.size, 2, none⟩ (.slice (some ⟨g111, 0, none⟩) (acc111.length + 1) cp111)) = wy111 at HZ111 ⊢
                    have cl := blk_cell HZ111.out.blk 2
                    simp at cl
                    have tr := HZ111.out.pr.cell2
                    have HRG : Hid (wy111.rangeAt g111 (acc111.length * 2) [.int .i64 0, .int .i64 0]) := HZ111.out.own.range
                    have hi1 : Hid ((Tryz.prog.info? 152).map (·.size) = some ([.int .i64 0, .int .i64 0] : List Value).length) := by show _ = _; kernel_rfl
                    have hi2 : Hid ((Tryz.prog.info? 152).map (·.size) = some (#[.int .i64 0, .int .i64 0] : Array Value).size) := by show _ = _; kernel_rfl
                    have hone : Hid ((#[.int .i64 0, .int .i64 0] : Array Value).all (·.oneCell') = true) := all_oneCell_toArray (cs := [.int .i64 0, .int .i64 0]) (fun u hu => List.all_eq_true.1 (rfl : ([.int .i64 0, .int .i64 0] : List Value).all (·.oneCell') = true) u hu)
                    have HTH : Hid ((wy111.alloc (.cells #[.int .i64 0, .int .i64 0] 152)).there wy111.heap.size 0 (#[.int .i64 0, .int .i64 0] : Array Value).size) := there_new _ _ _ _ rfl
                    have HB111 : Hid (Below wy111.heap.size wy111 ((wy111.alloc (.cells #[.int .i64 0, .int .i64 0] 152)).setCells wy111.heap.size 0 [.int .i64 0, .int .i64 0])) := below_cells (Nat.le_refl _) _ _ _ ((Below.refl _ _).alloc (Nat.le_refl _) _)
                    have HD111 : Hid (((wy111.alloc (.cells #[.int .i64 0, .int .i64 0] 152)).setCells wy111.heap.size 0 [.int .i64 0, .int .i64 0]).heap[wy111.heap.size]? = some (.cells #[.int .i64 0, .int .i64 0] 152)) := fresh_cells wy111 #[.int .i64 0, .int .i64 0] #[.int .i64 0, .int .i64 0] 152 rfl
                    go_wp2_with (first
                      | (with_reducible refine wpList_load_mid rfl 152 (.tmp 172) rfl g111 (acc111.length * 2) rfl [.int .i64 0, .int .i64 0] _ HRG.out Tryz.underlying152 rfl hi1.out ?_)
                      | (with_reducible refine wpList_store_mid rfl 152 (.tmp 12) (.tmp 173) rfl wy111.heap.size 0 #[.int .i64 0, .int .i64 0] rfl rfl HTH.out hi2.out hone.out ?_))
                    clear HRG HTH hi2 hone
                    clear cl
                    have hgn111 : wy111.heap.size ≠ p := by have := HZ111.out.pr.lt; omega
                    have hgb111 : base ≤ wy111.heap.size := by have := HZ111.out.pr.lt; have := HZ111.out.pr.hr; omega
                    have CL111 : Hid (RS base p wy111.heap.size ((wy111.alloc (.cells #[.int .i64 0, .int .i64 0] 152)).setCells wy111.heap.size 0 [.int .i64 0, .int .i64 0]) sx111 ((wy111.alloc (.cells #[.int .i64 0, .int .i64 0] 152)).setCells wy111.heap.size 0 [.int .i64 0, .int .i64 0])) := HZ111.out.newb HB111.out
                    generalize ((wy111.alloc (.cells #[.int .i64 0, .int .i64 0] 152)).setCells wy111.heap.size 0 [.int .i64 0, .int .i64 0]) = wl111 at HB111 HD111 CL111 ⊢
                    obtain ⟨e111_0, t111_1, q111_0⟩ : ∃ u t, pC cI sx111 0 = (u, t) := ⟨_, _, rfl⟩
                    obtain ⟨e111_1, t111_2, q111_1⟩ : ∃ u t, pC cI t111_1 0 = (u, t) := ⟨_, _, rfl⟩
                    have HE111 : Hid (pC cItem sx111 (0, 0) = ((e111_0, e111_1), t111_2)) := by show _ = _; unfold cItem; simp only [pC_seq, q111_0, q111_1]
                    have Q111_0 := Lib.hid q111_0
                    clear q111_0
                    have Q111_1 := Lib.hid q111_1
                    clear q111_1
                    clear tr tb
                    go_wp2_with fail
                    refine (rdWhole (o := 0) (cs' := #[.int .i64 e111_0, .int .i64 0]) CL111.out HD111.out Q111_0.out rfl rfl (.inl rfl) hgn111 hgb111).mono ?_
                    rintro e w112 ⟨rfl, hc, hd2, hch⟩
                    have C112 := Lib.hid hc
                    have D112 := Lib.hid hd2
                    clear hc hd2 hch
                    go_wp2_with fail
                    refine (rdWhole (o := 1) (cs' := #[.int .i64 e111_0, .int .i64 e111_1]) C112.out D112.out Q111_1.out rfl rfl (.inl rfl) hgn111 hgb111).mono ?_
                    rintro e w113 ⟨rfl, hc, hd2, hch⟩
                    have C113 := Lib.hid hc
                    have D113 := Lib.hid hd2
                    clear hc hd2 hch
                    have HY111 : Hid (mItem.own base w113 [.int .i64 e111_0, .int .i64 e111_1] (e111_0, e111_1)) := mItem_mk
                    have HN111 := Lib.hid (HZ111.out.next (q := 0) mItem_law HB111.out C113.out (by decide) (by decide) hgn108 HY111.out HE111.out h1 H2111.out)
                    obtain ⟨hb1, hb2, _⟩ := HZ111.out.back mItem_law HB111.out C113.out (by decide) hgn108
                    have cl := blk_cell hb1 2
                    simp at cl
                    have tr := C113.out.pr.cell2
                    have HT2 : Hid ((w113).there g111 (acc111.length * 2) (#[.int .i64 e111_0, .int .i64 e111_1] : Array Value).size) := hb2.there (n := 2) rfl
                    have hlna : ((acc111.length : Nat) : Int) < (acc111.length : Int) + 1 := by omega
                    clear hb1
                    have HLG : Hid (World.rangeAt w113 wy111.heap.size 0 [.int .i64 e111_0, .int .i64 e111_1]) := range_of D113.out
                    have hi3 : Hid ((Tryz.prog.info? 152).map (·.size) = some ([.int .i64 e111_0, .int .i64 e111_1] : List Value).length) := by show _ = _; kernel_rfl
                    have hi4 : Hid ((Tryz.prog.info? 152).map (·.size) = some (#[.int .i64 e111_0, .int .i64 e111_1] : Array Value).size) := by show _ = _; kernel_rfl
                    have hon2 : Hid ((#[.int .i64 e111_0, .int .i64 e111_1] : Array Value).all (·.oneCell') = true) := all_oneCell_toArray (cs := [.int .i64 e111_0, .int .i64 e111_1]) (fun u hu => List.all_eq_true.1 (rfl : ([.int .i64 e111_0, .int .i64 e111_1] : List Value).all (·.oneCell') = true) u hu)
                    clear hb2
                    go_wp2_with (first | (with_reducible refine wpList_load_mid rfl 152 (.tmp 12) rfl wy111.heap.size 0 rfl [.int .i64 e111_0, .int .i64 e111_1] _ HLG.out Tryz.underlying152 rfl hi3.out ?_) | (with_reducible refine wpList_store_mid rfl 152 (.tmp 188) (.tmp 187) rfl g111 (acc111.length * 2) #[.int .i64 e111_0, .int .i64 e111_1] rfl rfl HT2.out hi4.out hon2.out ?_))
                    go_roundw
                    case rel => exact ⟨acc111.length + 1, by go_num, by omega, ⟨acc111 ++ [_], _, _, by simp, HN111.out⟩⟩
                    case measure => simp [intOf]; omega
                  | false =>
                    have hend := HX111.out.end (by have := HG111.out; simpa using this)
                    injection hend with h8 h9
                    subst h8
                    subst h9
                    have C111 : Hid (RS base p wy108.heap.size wl108 t108_3 wz111) := HX111.out.rs
                    have D111 : Hid (wz111.heap[wy108.heap.size]? = some (.cells #[.string e108_0, .int .i64 e108_1, .slice Av111 (e108_2).length cv111] 120)) := HX111.out.blk
                    have O111 : Hid (LOwn 152 mItem base wz111 (.slice Av111 (e108_2).length cv111) e108_2) := HX111.out.own
                    clear HX111 HG111 CM111 DM111 tb tr
                    have HY108 : Hid (mLine.own base wz111 [.string e108_0, .int .i64 e108_1, .slice Av111 (e108_2).length cv111] (e108_0, e108_1, e108_2)) := mLine_mk O111.out
                    have HN108 := Lib.hid (HZ108.out.next (q := 1) mLine_law HB108.out C111.out (by decide) (by decide) hne HY108.out HE108.out h1 H2108.out)
                    obtain ⟨hb1, hb2, _⟩ := HZ108.out.back mLine_law HB108.out C111.out (by decide) hne
                    have cl := blk_cell hb1 6
                    simp at cl
                    have tr := C111.out.pr.cell2
                    have HT2 : Hid ((World.drewN wz111 1).there g108 (acc108.length * 3) (#[.string e108_0, .int .i64 e108_1, .slice Av111 (e108_2).length cv111] : Array Value).size) := hb2.there (n := 3) rfl
                    have hlna : ((acc108.length : Nat) : Int) < (acc108.length : Int) + 1 := by omega
                    clear hb1
                    have HLG := Lib.hid (range_of D111.out)
                    have hi3 : Hid ((Tryz.prog.info? 120).map (·.size) = some ([.string e108_0, .int .i64 e108_1, .slice Av111 (e108_2).length cv111] : List Value).length) := by show _ = _; kernel_rfl
                    have hi4 : Hid ((Tryz.prog.info? 120).map (·.size) = some (#[.string e108_0, .int .i64 e108_1, .slice Av111 (e108_2).length cv111] : Array Value).size) := by show _ = _; kernel_rfl
                    have hon2 : Hid ((#[.string e108_0, .int .i64 e108_1, .slice Av111 (e108_2).length cv111] : Array Value).all (·.oneCell') = true) := all_oneCell_toArray (cs := [.string e108_0, .int .i64 e108_1, .slice Av111 (e108_2).length cv111]) (fun u hu => List.all_eq_true.1 (rfl : ([.string e108_0, .int .i64 e108_1, .slice Av111 (e108_2).length cv111] : List Value).all (·.oneCell') = true) u hu)
                    clear hb2
                    go_wp2
                    refine wp_region_still_tail 7 (by kernel_rfl) (by kernel_rfl) ?_
                    simp only [List.take_succ_cons, List.take_zero, List.drop_succ_cons, List.drop_zero]
                    repeat (first | (refine wpStill_load_mid rfl 120 (.tmp 9) rfl wy108.heap.size 0 rfl [.string e108_0, .int .i64 e108_1, .slice Av111 (e108_2).length cv111] _ HLG.out Tryz.underlying120 rfl hi3.out ?_) | still_step)
                    try refine wpStill_nil ?_
                    change wpList _ _ _ _ _ (World.drewN _ 1)
                    go_wp2_with (with_reducible refine wpList_store_mid rfl 120 (.tmp 199) (.tmp 198) rfl g108 (acc108.length * 3) #[.string e108_0, .int .i64 e108_1, .slice Av111 (e108_2).length cv111] rfl rfl HT2.out hi4.out hon2.out ?_)
                    go_roundw
                    case rel => exact ⟨acc108.length + 1, by go_num, by omega, ⟨acc108 ++ [_], _, _, by simp, HN108.out⟩⟩
                    case measure => simp [intOf]; omega
            | false =>
              have hend := HX108.out.end (by have := HG108.out; simpa using this)
              injection hend with h8 h9
              subst h8
              subst h9
              have C108 : Hid (RS base p d w s5 wz108) := HX108.out.rs
              have D108 : Hid (wz108.heap[d]? = some (.cells #[nA, nB, .int .i64 y0, .slice Av102 (y1).length cv102, .int .i64 y2, .bool y3, .slice Av108 (y4).length cv108, nC, nD, nE, nF] 35)) := HX108.out.blk
              have O108 : Hid (LOwn 120 mLine base wz108 (.slice Av108 (y4).length cv108) y4) := HX108.out.own
              have hO102 := O102.out.go mTurn_law CM108.out.pr DM108.out HX108.out.chg (by decide) (by decide)
              clear O102
              have O102 := Lib.hid hO102
              clear hO102
              clear HX108 HG108 CM108 DM108 tb tr
              go_wp2
              exact bodyPost_ret (v := .tuple #[]) (by simp [results]) rfl ⟨rfl, _, _, C108.out.pr, C108.out.chg, D108.out, O102.out, O108.out⟩
end Go.Proofs.YtckooioikcenmaaGreat

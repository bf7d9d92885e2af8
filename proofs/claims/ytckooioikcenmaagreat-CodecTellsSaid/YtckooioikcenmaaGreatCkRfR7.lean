/- The pen that reads: shop. Conditions: sizes a machine can have. -/
import Derived.Test.YtckooioikcenmaaGreatCkRfR5
import Derived.Test.YtckooioikcenmaaGreatCkRfR6
namespace Go.Proofs.YtckooioikcenmaaGreat
open Go.RowKit
def ShopRd (base p d : Nat) (s' : Pn) (y0 : Int) (y1 : List DRec) (y2 : Int) (y3 : List DTurn) (y4 : Int) (y5 : Bool) (y6 : List DLine) (y7 : List DJob) (y8 : Int) (y9 : List DWorker) (y10 : Bool)  (w : World) (e : Ending) (w' : World) : Prop :=
  e = .returned (.tuple #[]) ∧ ∃ v1 v3 v6 v7 v9 : Value, PR base p w' s' ∧ Chg p d w w' ∧ w'.heap[d]? = some (.cells #[.int .i64 y0, v1, .int .i64 y2, v3, .int .i64 y4, .bool y5, v6, v7, .int .i64 y8, v9, .bool y10] 35) ∧ LOwn 65 mRec base w' v1 y1 ∧ LOwn 147 mTurn base w' v3 y3 ∧ LOwn 120 mLine base w' v6 y6 ∧ LOwn 67 mJob base w' v7 y7 ∧ LOwn 87 mWorker base w' v9 y9
set_option maxRecDepth 20000 in
set_option maxHeartbeats 16000000 in
theorem penShop_rd {base p d : Nat} {st s1 s2 s3 s4 s5 s6 s7 s8 s9 s10 s11 : Pn} {y0 : Int} {y1 : List DRec} {y2 : Int} {y3 : List DTurn} {y4 : Int} {y5 : Bool} {y6 : List DLine} {y7 : List DJob} {y8 : Int} {y9 : List DWorker} {y10 : Bool}  {w : World} (hs : PR base p w st) (hd : w.heap[d]? = some (.cells #[.int .i64 0, .slice none 0 0, .int .i64 0, .slice none 0 0, .int .i64 0, .bool false, .slice none 0 0, .slice none 0 0, .int .i64 0, .slice none 0 0, .bool false] 35))
    (q0 : pC cI st 0 = (y0, s1)) (q1 : pC (cL cRec) s1 [] = (y1, s2)) (q2 : pC cI s2 0 = (y2, s3)) (q3 : pC (cL cTurn) s3 [] = (y3, s4)) (q4 : pC cI s4 0 = (y4, s5)) (q5 : pC cF s5 false = (y5, s6)) (q6 : pC (cL cLine) s6 [] = (y6, s7)) (q7 : pC (cL cJob) s7 [] = (y7, s8)) (q8 : pC cI s8 0 = (y8, s9)) (q9 : pC (cL cWorker) s9 [] = (y9, s10)) (q10 : pC cF s10 false = (y10, s11)) (hne : d ≠ p) (hbd : base ≤ d) :
    Calls Tryz.prog 31 #[.pointer (some ⟨p, 0, none⟩), .pointer (some ⟨d, 0, none⟩)] w (ShopRd base p d s11 y0 y1 y2 y3 y4 y5 y6 y7 y8 y9 y10  w) := by
  have C0 : Hid (RS base p d w st w) := ⟨hs, Chg.refl _ _ _⟩
  have D0 := Lib.hid hd
  have Q0 := Lib.hid q0
  have Q1 := Lib.hid q1
  have Q2 := Lib.hid q2
  have Q3 := Lib.hid q3
  have Q4 := Lib.hid q4
  have Q5 := Lib.hid q5
  have Q6 := Lib.hid q6
  have Q7 := Lib.hid q7
  have Q8 := Lib.hid q8
  have Q9 := Lib.hid q9
  have Q10 := Lib.hid q10
  clear hs hd q0 q1 q2 q3 q4 q5 q6 q7 q8 q9 q10
  go_enter Tryz.func31, Tryz.ntmps31
  go_wp2_with fail
  refine (rdNum (o := 0) (cs' := #[.int .i64 y0, .slice none 0 0, .int .i64 0, .slice none 0 0, .int .i64 0, .bool false, .slice none 0 0, .slice none 0 0, .int .i64 0, .slice none 0 0, .bool false]) C0.out D0.out Q0.out rfl rfl (.inl rfl) hne hbd).mono ?_
  rintro e w101 ⟨rfl, hc, hd2, hch⟩
  have C101 := Lib.hid hc
  have D101 := Lib.hid hd2
  clear hc hd2 hch
  have cl := blk_cell D101.out 1
  simp at cl
  go_wp2_with fail
  refine (rdMany C101.out D101.out (.inl rfl) hne hbd).mono ?_
  rintro e w102 ⟨rfl, hc, hd2, hch⟩
  have n1020 : (pM s1 0).1 ≤ 1000000000 := Nat.le_trans (pM_le C101.out.pr.rd) C101.out.pr.sm
  have HR : Hid (pIt cRec (⟨#[]⟩, ⟨#[]⟩, ⟨#[]⟩, 0, (⟨#[]⟩, 0, [], [], [], [], false, false, 0, 0, 0, 0), [], []) (pM s1 0).1 (pM s1 0).2 [] = (y1, s2)) := by show _ = _; rw [← pL_read cRec (⟨#[]⟩, ⟨#[]⟩, ⟨#[]⟩, 0, (⟨#[]⟩, 0, [], [], [], [], false, false, 0, 0, 0, 0), [], []) C101.out.pr.rd]; exact Q1.out
  obtain ⟨n102, hn⟩ : ∃ n, (pM s1 0).1 = n := ⟨_, rfl⟩
  obtain ⟨sq102, hsq⟩ : ∃ q, (pM s1 0).2 = q := ⟨_, rfl⟩
  rw [hn] at n1020 HR ⊢
  rw [hsq] at HR hc
  clear hn hsq cl
  have HL102 : Hid (RL cRec (⟨#[]⟩, ⟨#[]⟩, ⟨#[]⟩, 0, (⟨#[]⟩, 0, [], [], [], [], false, false, 0, 0, 0, 0), [], []) mRec 65 base p d 35 (fun v => #[.int .i64 y0, v, .int .i64 0, .slice none 0 0, .int .i64 0, .bool false, .slice none 0 0, .slice none 0 0, .int .i64 0, .slice none 0 0, .bool false]) w w102 n102 (y1, s2) [] sq102 (.slice none 0 0) w102) := RL.start hc hd2 HR.out
  have CM102 := Lib.hid hc
  have DM102 := Lib.hid hd2
  clear hc hd2 hch HR
  go_wp2
  go_loopw [4] (fun ix wl => ∃ k : Nat, ix = .int .i64 k ∧ k ≤ n102 ∧ Hid (∃ acc s v, acc.length = k ∧ RL cRec (⟨#[]⟩, ⟨#[]⟩, ⟨#[]⟩, 0, (⟨#[]⟩, 0, [], [], [], [], false, false, 0, 0, 0, 0), [], []) mRec 65 base p d 35 (fun v => #[.int .i64 y0, v, .int .i64 0, .slice none 0 0, .int .i64 0, .bool false, .slice none 0 0, .slice none 0 0, .int .i64 0, .slice none 0 0, .bool false]) w w102 n102 (y1, s2) acc s v wl)) (fun ix _ => n102 - (intOf ix).toNat)
  case atStart => exact ⟨0, rfl, by omega, ⟨_, _, _, rfl, HL102.out⟩⟩
  case round =>
    obtain ⟨kk, rfl, hk102, HW⟩ := hrel
    obtain ⟨acc102, sx102, vx, hka, hL⟩ := HW.out
    subst hka
    obtain ⟨wz102, hwr⟩ : ∃ z, z = wr := ⟨_, rfl⟩
    subst hwr
    obtain ⟨Av102, cv102, rfl⟩ := hL.len
    have tb := hL.pr.cell3
    have tr := hL.pr.cell2
    have HX102 := Lib.hid hL
    clear HW hL HL102
    obtain ⟨gg, hg⟩ : ∃ g : Bool, (decide (acc102.length < n102) && !sx102.bad) = g := ⟨_, rfl⟩
    have HG102 := Lib.hid hg
    clear hg
    go_upto_region 2 with fail
    go_cut [34] (fun sl wx => sl = .bool gg ∧ wz102 = wx)
    case first =>
      by_cases h1 : acc102.length < n102
      · cases hb : sx102.bad with
        | true =>
          have hgg : gg = false := by rw [← HG102.out]; simp [h1, hb]
          have HGG := Lib.hid hgg
          rw [hb] at tb
          clear hb hgg
          go_wp2
          go_meet
          exact ⟨by rw [HGG.out], rfl⟩
        | false =>
          have hgg : gg = true := by rw [← HG102.out]; simp [h1, hb]
          have HGG := Lib.hid hgg
          rw [hb] at tb
          clear hb hgg
          go_wp2
          go_meet
          exact ⟨by rw [HGG.out], rfl⟩
      · have hgg : gg = false := by rw [← HG102.out]; simp [h1]
        have HGG := Lib.hid hgg
        clear hgg
        go_wp2
        go_meet
        exact ⟨by rw [HGG.out], rfl⟩
    case rest =>
      obtain ⟨rfl, hwx⟩ := hcut
      subst hwx
      cases gg with
      | true =>
        obtain ⟨h1, h2⟩ : acc102.length < n102 ∧ sx102.bad = false := by simpa using HG102.out
        rw [h2] at tb
        have H2102 := Lib.hid h2
        clear HG102 h2
        have hbw : base ≤ (wz102.alloc (.cells #[.string ⟨#[]⟩, .string ⟨#[]⟩, .string ⟨#[]⟩, .int .i64 0, .slice none 0 0, .slice none 0 0, .slice none 0 0, .slice none 0 0, .bool false, .bool false, .int .i64 0, .int .i64 0, .int .i64 0, .int .i64 0, .slice none 0 0, .slice none 0 0, .string ⟨#[]⟩, .int .i64 0] 65)).heap.size := by have := HX102.out.pr.lt; have := HX102.out.pr.hr; simp; omega
        have cl := blk_cell HX102.out.blk 1
        simp at cl
        have HOW : Hid (LOwn 65 mRec base (wz102.alloc (.cells #[.string ⟨#[]⟩, .string ⟨#[]⟩, .string ⟨#[]⟩, .int .i64 0, .slice none 0 0, .slice none 0 0, .slice none 0 0, .slice none 0 0, .bool false, .bool false, .int .i64 0, .int .i64 0, .int .i64 0, .int .i64 0, .slice none 0 0, .slice none 0 0, .string ⟨#[]⟩, .int .i64 0] 65)) _ acc102) := HX102.out.own.keep mRec_law (Stay.below ((Below.refl _ _).alloc (Nat.le_refl _) _))
        have HAL : Hid ((wz102.alloc (.cells #[.string ⟨#[]⟩, .string ⟨#[]⟩, .string ⟨#[]⟩, .int .i64 0, .slice none 0 0, .slice none 0 0, .slice none 0 0, .slice none 0 0, .bool false, .bool false, .int .i64 0, .int .i64 0, .int .i64 0, .int .i64 0, .slice none 0 0, .slice none 0 0, .string ⟨#[]⟩, .int .i64 0] 65)).heap[wz102.heap.size]? = some (.cells ([.string ⟨#[]⟩, .string ⟨#[]⟩, .string ⟨#[]⟩, .int .i64 0, .slice none 0 0, .slice none 0 0, .slice none 0 0, .slice none 0 0, .bool false, .bool false, .int .i64 0, .int .i64 0, .int .i64 0, .int .i64 0, .slice none 0 0, .slice none 0 0, .string ⟨#[]⟩, .int .i64 0] : List Value).toArray 65)) := alloc_at _ _
        have hal : acc102.length + 1 ≤ 100000000000 := by omega
        have hzo : ∀ u ∈ ([.string ⟨#[]⟩, .string ⟨#[]⟩, .string ⟨#[]⟩, .int .i64 0, .slice none 0 0, .slice none 0 0, .slice none 0 0, .slice none 0 0, .bool false, .bool false, .int .i64 0, .int .i64 0, .int .i64 0, .int .i64 0, .slice none 0 0, .slice none 0 0, .string ⟨#[]⟩, .int .i64 0] : List Value), u.oneCell' = true := fun u hu => (List.all_eq_true.1 (rfl : ([.string ⟨#[]⟩, .string ⟨#[]⟩, .string ⟨#[]⟩, .int .i64 0, .slice none 0 0, .slice none 0 0, .slice none 0 0, .slice none 0 0, .bool false, .bool false, .int .i64 0, .int .i64 0, .int .i64 0, .int .i64 0, .slice none 0 0, .slice none 0 0, .string ⟨#[]⟩, .int .i64 0] : List Value).all (·.oneCell') = true)) u hu
        have HZO := Lib.hid hzo
        clear hzo
        have HUL : Hid (([.string ⟨#[]⟩, .string ⟨#[]⟩, .string ⟨#[]⟩, .int .i64 0, .slice none 0 0, .slice none 0 0, .slice none 0 0, .slice none 0 0, .bool false, .bool false, .int .i64 0, .int .i64 0, .int .i64 0, .int .i64 0, .slice none 0 0, .slice none 0 0, .string ⟨#[]⟩, .int .i64 0] : List Value).length = mRec.n) := by show _ = _; rfl
        go_upto_region 6 with (first
          | (with_reducible refine wpList_buildOne rfl (.tmp 46) rfl (.agg #[.string ⟨#[]⟩, .string ⟨#[]⟩, .string ⟨#[]⟩, .int .i64 0, .slice none 0 0, .slice none 0 0, .slice none 0 0, .slice none 0 0, .bool false, .bool false, .int .i64 0, .int .i64 0, .int .i64 0, .int .i64 0, .slice none 0 0, .slice none 0 0, .string ⟨#[]⟩, .int .i64 0]) #[.string ⟨#[]⟩, .string ⟨#[]⟩, .string ⟨#[]⟩, .int .i64 0, .slice none 0 0, .slice none 0 0, .slice none 0 0, .slice none 0 0, .bool false, .bool false, .int .i64 0, .int .i64 0, .int .i64 0, .int .i64 0, .slice none 0 0, .slice none 0 0, .string ⟨#[]⟩, .int .i64 0] elemRec rfl rfl rfl (by decide) (by decide) ?_)
          | ((with_reducible refine wpList_pushZ rfl (.tmp 45) (.tmp 47) rfl elemRec mRec_law (by decide) base _ acc102 [.string ⟨#[]⟩, .string ⟨#[]⟩, .string ⟨#[]⟩, .int .i64 0, .slice none 0 0, .slice none 0 0, .slice none 0 0, .slice none 0 0, .bool false, .bool false, .int .i64 0, .int .i64 0, .int .i64 0, .int .i64 0, .slice none 0 0, .slice none 0 0, .string ⟨#[]⟩, .int .i64 0] wz102.heap.size rfl HOW.out rfl HAL.out HUL.out HZO.out hal (by decide) hbw ?_); intro g102 cp102 w102a hZ hG hat; have hk1 := (HX102.out.pushed hG).2.1; have cl3 := blk_cell hk1 1; have fl3 := blk_free hk1 1; simp at cl3; have HZ102 := Lib.hid (HX102.out.stored mRec_law (off := 1) hG hZ hat (by decide) rfl hne hbd); clear hZ hG hat hk1 cl))
        clear cl3 fl3 HOW HAL HUL hal HZO hbw
        generalize (w102a.setCell ⟨d, 1, none⟩ (.slice (some ⟨g102, 0, none⟩) (acc102.length + 1) cp102)) = wy102 at HZ102 ⊢
        have cl := blk_cell HZ102.out.blk 1
        simp at cl
        have tr := HZ102.out.pr.cell2
        have HRG : Hid (wy102.rangeAt g102 (acc102.length * 18) [.string ⟨#[]⟩, .string ⟨#[]⟩, .string ⟨#[]⟩, .int .i64 0, .slice none 0 0, .slice none 0 0, .slice none 0 0, .slice none 0 0, .bool false, .bool false, .int .i64 0, .int .i64 0, .int .i64 0, .int .i64 0, .slice none 0 0, .slice none 0 0, .string ⟨#[]⟩, .int .i64 0]) := HZ102.out.own.range
        have hi1 : Hid ((Tryz.prog.info? 65).map (·.size) = some ([.string ⟨#[]⟩, .string ⟨#[]⟩, .string ⟨#[]⟩, .int .i64 0, .slice none 0 0, .slice none 0 0, .slice none 0 0, .slice none 0 0, .bool false, .bool false, .int .i64 0, .int .i64 0, .int .i64 0, .int .i64 0, .slice none 0 0, .slice none 0 0, .string ⟨#[]⟩, .int .i64 0] : List Value).length) := by show _ = _; kernel_rfl
        have hi2 : Hid ((Tryz.prog.info? 65).map (·.size) = some (#[.string ⟨#[]⟩, .string ⟨#[]⟩, .string ⟨#[]⟩, .int .i64 0, .slice none 0 0, .slice none 0 0, .slice none 0 0, .slice none 0 0, .bool false, .bool false, .int .i64 0, .int .i64 0, .int .i64 0, .int .i64 0, .slice none 0 0, .slice none 0 0, .string ⟨#[]⟩, .int .i64 0] : Array Value).size) := by show _ = _; kernel_rfl
        have hone : Hid ((#[.string ⟨#[]⟩, .string ⟨#[]⟩, .string ⟨#[]⟩, .int .i64 0, .slice none 0 0, .slice none 0 0, .slice none 0 0, .slice none 0 0, .bool false, .bool false, .int .i64 0, .int .i64 0, .int .i64 0, .int .i64 0, .slice none 0 0, .slice none 0 0, .string ⟨#[]⟩, .int .i64 0] : Array Value).all (·.oneCell') = true) := all_oneCell_toArray (cs := [.string ⟨#[]⟩, .string ⟨#[]⟩, .string ⟨#[]⟩, .int .i64 0, .slice none 0 0, .slice none 0 0, .slice none 0 0, .slice none 0 0, .bool false, .bool false, .int .i64 0, .int .i64 0, .int .i64 0, .int .i64 0, .slice none 0 0, .slice none 0 0, .string ⟨#[]⟩, .int .i64 0]) (fun u hu => List.all_eq_true.1 (rfl : ([.string ⟨#[]⟩, .string ⟨#[]⟩, .string ⟨#[]⟩, .int .i64 0, .slice none 0 0, .slice none 0 0, .slice none 0 0, .slice none 0 0, .bool false, .bool false, .int .i64 0, .int .i64 0, .int .i64 0, .int .i64 0, .slice none 0 0, .slice none 0 0, .string ⟨#[]⟩, .int .i64 0] : List Value).all (·.oneCell') = true) u hu)
        have HTH : Hid ((wy102.alloc (.cells #[.string ⟨#[]⟩, .string ⟨#[]⟩, .string ⟨#[]⟩, .int .i64 0, .slice none 0 0, .slice none 0 0, .slice none 0 0, .slice none 0 0, .bool false, .bool false, .int .i64 0, .int .i64 0, .int .i64 0, .int .i64 0, .slice none 0 0, .slice none 0 0, .string ⟨#[]⟩, .int .i64 0] 65)).there wy102.heap.size 0 (#[.string ⟨#[]⟩, .string ⟨#[]⟩, .string ⟨#[]⟩, .int .i64 0, .slice none 0 0, .slice none 0 0, .slice none 0 0, .slice none 0 0, .bool false, .bool false, .int .i64 0, .int .i64 0, .int .i64 0, .int .i64 0, .slice none 0 0, .slice none 0 0, .string ⟨#[]⟩, .int .i64 0] : Array Value).size) := there_new _ _ _ _ rfl
        have HB102 : Hid (Below wy102.heap.size wy102 ((wy102.alloc (.cells #[.string ⟨#[]⟩, .string ⟨#[]⟩, .string ⟨#[]⟩, .int .i64 0, .slice none 0 0, .slice none 0 0, .slice none 0 0, .slice none 0 0, .bool false, .bool false, .int .i64 0, .int .i64 0, .int .i64 0, .int .i64 0, .slice none 0 0, .slice none 0 0, .string ⟨#[]⟩, .int .i64 0] 65)).setCells wy102.heap.size 0 [.string ⟨#[]⟩, .string ⟨#[]⟩, .string ⟨#[]⟩, .int .i64 0, .slice none 0 0, .slice none 0 0, .slice none 0 0, .slice none 0 0, .bool false, .bool false, .int .i64 0, .int .i64 0, .int .i64 0, .int .i64 0, .slice none 0 0, .slice none 0 0, .string ⟨#[]⟩, .int .i64 0])) := below_cells (Nat.le_refl _) _ _ _ ((Below.refl _ _).alloc (Nat.le_refl _) _)
        have HD102 : Hid (((wy102.alloc (.cells #[.string ⟨#[]⟩, .string ⟨#[]⟩, .string ⟨#[]⟩, .int .i64 0, .slice none 0 0, .slice none 0 0, .slice none 0 0, .slice none 0 0, .bool false, .bool false, .int .i64 0, .int .i64 0, .int .i64 0, .int .i64 0, .slice none 0 0, .slice none 0 0, .string ⟨#[]⟩, .int .i64 0] 65)).setCells wy102.heap.size 0 [.string ⟨#[]⟩, .string ⟨#[]⟩, .string ⟨#[]⟩, .int .i64 0, .slice none 0 0, .slice none 0 0, .slice none 0 0, .slice none 0 0, .bool false, .bool false, .int .i64 0, .int .i64 0, .int .i64 0, .int .i64 0, .slice none 0 0, .slice none 0 0, .string ⟨#[]⟩, .int .i64 0]).heap[wy102.heap.size]? = some (.cells #[.string ⟨#[]⟩, .string ⟨#[]⟩, .string ⟨#[]⟩, .int .i64 0, .slice none 0 0, .slice none 0 0, .slice none 0 0, .slice none 0 0, .bool false, .bool false, .int .i64 0, .int .i64 0, .int .i64 0, .int .i64 0, .slice none 0 0, .slice none 0 0, .string ⟨#[]⟩, .int .i64 0] 65)) := fresh_cells wy102 #[.string ⟨#[]⟩, .string ⟨#[]⟩, .string ⟨#[]⟩, .int .i64 0, .slice none 0 0, .slice none 0 0, .slice none 0 0, .slice none 0 0, .bool false, .bool false, .int .i64 0, .int .i64 0, .int .i64 0, .int .i64 0, .slice none 0 0, .slice none 0 0, .string ⟨#[]⟩, .int .i64 0] #[.string ⟨#[]⟩, .string ⟨#[]⟩, .string ⟨#[]⟩, .int .i64 0, .slice none 0 0, .slice none 0 0, .slice none 0 0, .slice none 0 0, .bool false, .bool false, .int .i64 0, .int .i64 0, .int .i64 0, .int .i64 0, .slice none 0 0, .slice none 0 0, .string ⟨#[]⟩, .int .i64 0] 65 rfl
        go_wp2_with (first
          | (with_reducible refine wpList_load_mid rfl 65 (.tmp 56) rfl g102 (acc102.length * 18) rfl [.string ⟨#[]⟩, .string ⟨#[]⟩, .string ⟨#[]⟩, .int .i64 0, .slice none 0 0, .slice none 0 0, .slice none 0 0, .slice none 0 0, .bool false, .bool false, .int .i64 0, .int .i64 0, .int .i64 0, .int .i64 0, .slice none 0 0, .slice none 0 0, .string ⟨#[]⟩, .int .i64 0] _ HRG.out Tryz.underlying65 rfl hi1.out ?_)
          | (with_reducible refine wpList_store_mid rfl 65 (.tmp 6) (.tmp 57) rfl wy102.heap.size 0 #[.string ⟨#[]⟩, .string ⟨#[]⟩, .string ⟨#[]⟩, .int .i64 0, .slice none 0 0, .slice none 0 0, .slice none 0 0, .slice none 0 0, .bool false, .bool false, .int .i64 0, .int .i64 0, .int .i64 0, .int .i64 0, .slice none 0 0, .slice none 0 0, .string ⟨#[]⟩, .int .i64 0] rfl rfl HTH.out hi2.out hone.out ?_))
        clear HRG HTH hi2 hone
        clear cl
        have hgn102 : wy102.heap.size ≠ p := by have := HZ102.out.pr.lt; omega
        have hgb102 : base ≤ wy102.heap.size := by have := HZ102.out.pr.lt; have := HZ102.out.pr.hr; omega
        have CL102 : Hid (RS base p wy102.heap.size ((wy102.alloc (.cells #[.string ⟨#[]⟩, .string ⟨#[]⟩, .string ⟨#[]⟩, .int .i64 0, .slice none 0 0, .slice none 0 0, .slice none 0 0, .slice none 0 0, .bool false, .bool false, .int .i64 0, .int .i64 0, .int .i64 0, .int .i64 0, .slice none 0 0, .slice none 0 0, .string ⟨#[]⟩, .int .i64 0] 65)).setCells wy102.heap.size 0 [.string ⟨#[]⟩, .string ⟨#[]⟩, .string ⟨#[]⟩, .int .i64 0, .slice none 0 0, .slice none 0 0, .slice none 0 0, .slice none 0 0, .bool false, .bool false, .int .i64 0, .int .i64 0, .int .i64 0, .int .i64 0, .slice none 0 0, .slice none 0 0, .string ⟨#[]⟩, .int .i64 0]) sx102 ((wy102.alloc (.cells #[.string ⟨#[]⟩, .string ⟨#[]⟩, .string ⟨#[]⟩, .int .i64 0, .slice none 0 0, .slice none 0 0, .slice none 0 0, .slice none 0 0, .bool false, .bool false, .int .i64 0, .int .i64 0, .int .i64 0, .int .i64 0, .slice none 0 0, .slice none 0 0, .string ⟨#[]⟩, .int .i64 0] 65)).setCells wy102.heap.size 0 [.string ⟨#[]⟩, .string ⟨#[]⟩, .string ⟨#[]⟩, .int .i64 0, .slice none 0 0, .slice none 0 0, .slice none 0 0, .slice none 0 0, .bool false, .bool false, .int .i64 0, .int .i64 0, .int .i64 0, .int .i64 0, .slice none 0 0, .slice none 0 0, .string ⟨#[]⟩, .int .i64 0])) := HZ102.out.newb HB102.out
        generalize ((wy102.alloc (.cells #[.string ⟨#[]⟩, .string ⟨#[]⟩, .string ⟨#[]⟩, .int .i64 0, .slice none 0 0, .slice none 0 0, .slice none 0 0, .slice none 0 0, .bool false, .bool false, .int .i64 0, .int .i64 0, .int .i64 0, .int .i64 0, .slice none 0 0, .slice none 0 0, .string ⟨#[]⟩, .int .i64 0] 65)).setCells wy102.heap.size 0 [.string ⟨#[]⟩, .string ⟨#[]⟩, .string ⟨#[]⟩, .int .i64 0, .slice none 0 0, .slice none 0 0, .slice none 0 0, .slice none 0 0, .bool false, .bool false, .int .i64 0, .int .i64 0, .int .i64 0, .int .i64 0, .slice none 0 0, .slice none 0 0, .string ⟨#[]⟩, .int .i64 0]) = wl102 at HB102 HD102 CL102 ⊢
        obtain ⟨e102_0, t102_1, q102_0⟩ : ∃ u t, pC cS sx102 ⟨#[]⟩ = (u, t) := ⟨_, _, rfl⟩
        obtain ⟨e102_1, t102_2, q102_1⟩ : ∃ u t, pC cS t102_1 ⟨#[]⟩ = (u, t) := ⟨_, _, rfl⟩
        obtain ⟨e102_2, t102_3, q102_2⟩ : ∃ u t, pC cS t102_2 ⟨#[]⟩ = (u, t) := ⟨_, _, rfl⟩
        obtain ⟨e102_3, t102_4, q102_3⟩ : ∃ u t, pC cI t102_3 0 = (u, t) := ⟨_, _, rfl⟩
        obtain ⟨e102_4, t102_5, q102_4⟩ : ∃ u t, pC cS t102_4 ⟨#[]⟩ = (u, t) := ⟨_, _, rfl⟩
        obtain ⟨e102_5, t102_6, q102_5⟩ : ∃ u t, pC cI t102_5 0 = (u, t) := ⟨_, _, rfl⟩
        obtain ⟨e102_6, t102_7, q102_6⟩ : ∃ u t, pC (cL cCmd) t102_6 [] = (u, t) := ⟨_, _, rfl⟩
        obtain ⟨e102_7, t102_8, q102_7⟩ : ∃ u t, pC (cL cI) t102_7 [] = (u, t) := ⟨_, _, rfl⟩
        obtain ⟨e102_8, t102_9, q102_8⟩ : ∃ u t, pC (cL cKnown) t102_8 [] = (u, t) := ⟨_, _, rfl⟩
        obtain ⟨e102_9, t102_10, q102_9⟩ : ∃ u t, pC (cL cI) t102_9 [] = (u, t) := ⟨_, _, rfl⟩
        obtain ⟨e102_10, t102_11, q102_10⟩ : ∃ u t, pC cF t102_10 false = (u, t) := ⟨_, _, rfl⟩
        obtain ⟨e102_11, t102_12, q102_11⟩ : ∃ u t, pC cF t102_11 false = (u, t) := ⟨_, _, rfl⟩
        obtain ⟨e102_12, t102_13, q102_12⟩ : ∃ u t, pC cI t102_12 0 = (u, t) := ⟨_, _, rfl⟩
        obtain ⟨e102_13, t102_14, q102_13⟩ : ∃ u t, pC cI t102_13 0 = (u, t) := ⟨_, _, rfl⟩
        obtain ⟨e102_14, t102_15, q102_14⟩ : ∃ u t, pC cI t102_14 0 = (u, t) := ⟨_, _, rfl⟩
        obtain ⟨e102_15, t102_16, q102_15⟩ : ∃ u t, pC cI t102_15 0 = (u, t) := ⟨_, _, rfl⟩
        obtain ⟨e102_16, t102_17, q102_16⟩ : ∃ u t, pC (cL cAct) t102_16 [] = (u, t) := ⟨_, _, rfl⟩
        obtain ⟨e102_17, t102_18, q102_17⟩ : ∃ u t, pC (cL cSleep) t102_17 [] = (u, t) := ⟨_, _, rfl⟩
        have hHq : pC cHist t102_4 (⟨#[]⟩, 0, [], [], [], [], false, false, 0, 0, 0, 0) = ((e102_4, e102_5, e102_6, e102_7, e102_8, e102_9, e102_10, e102_11, e102_12, e102_13, e102_14, e102_15), t102_16) := by unfold cHist; simp only [pC_seq, q102_4, q102_5, q102_6, q102_7, q102_8, q102_9, q102_10, q102_11, q102_12, q102_13, q102_14, q102_15]
        have HE102 : Hid (pC cRec sx102 (⟨#[]⟩, ⟨#[]⟩, ⟨#[]⟩, 0, (⟨#[]⟩, 0, [], [], [], [], false, false, 0, 0, 0, 0), [], []) = ((e102_0, e102_1, e102_2, e102_3, (e102_4, e102_5, e102_6, e102_7, e102_8, e102_9, e102_10, e102_11, e102_12, e102_13, e102_14, e102_15), e102_16, e102_17), t102_18)) := by show _ = _; unfold cRec; simp only [pC_seq, hHq, q102_0, q102_1, q102_2, q102_3, q102_16, q102_17]
        have Q102_0 := Lib.hid q102_0
        clear q102_0
        have Q102_1 := Lib.hid q102_1
        clear q102_1
        have Q102_2 := Lib.hid q102_2
        clear q102_2
        have Q102_3 := Lib.hid q102_3
        clear q102_3
        have Q102_4 := Lib.hid q102_4
        clear q102_4
        have Q102_5 := Lib.hid q102_5
        clear q102_5
        have Q102_6 := Lib.hid q102_6
        clear q102_6
        have Q102_7 := Lib.hid q102_7
        clear q102_7
        have Q102_8 := Lib.hid q102_8
        clear q102_8
        have Q102_9 := Lib.hid q102_9
        clear q102_9
        have Q102_10 := Lib.hid q102_10
        clear q102_10
        have Q102_11 := Lib.hid q102_11
        clear q102_11
        have Q102_12 := Lib.hid q102_12
        clear q102_12
        have Q102_13 := Lib.hid q102_13
        clear q102_13
        have Q102_14 := Lib.hid q102_14
        clear q102_14
        have Q102_15 := Lib.hid q102_15
        clear q102_15
        have Q102_16 := Lib.hid q102_16
        clear q102_16
        have Q102_17 := Lib.hid q102_17
        clear q102_17
        clear tr tb hHq
        go_wp2_with fail
        refine (penRec_rd CL102.out.pr HD102.out Q102_0.out Q102_1.out Q102_2.out Q102_3.out Q102_4.out Q102_5.out Q102_6.out Q102_7.out Q102_8.out Q102_9.out Q102_10.out Q102_11.out Q102_12.out Q102_13.out Q102_14.out Q102_15.out Q102_16.out Q102_17.out hgn102 hgb102).mono ?_
        rintro e w103 ⟨rfl, v103_0, v103_1, v103_2, v103_3, v103_4, v103_5, hpr, hch, hd2, ho0, ho1, ho2, ho3, ho4, ho5⟩
        have O103_0 := Lib.hid ho0
        obtain ⟨A103_0, c103_0, rfl⟩ := O103_0.out.form
        have O103_1 := Lib.hid ho1
        obtain ⟨A103_1, c103_1, rfl⟩ := O103_1.out.form
        have O103_2 := Lib.hid ho2
        obtain ⟨A103_2, c103_2, rfl⟩ := O103_2.out.form
        have O103_3 := Lib.hid ho3
        obtain ⟨A103_3, c103_3, rfl⟩ := O103_3.out.form
        have O103_4 := Lib.hid ho4
        obtain ⟨A103_4, c103_4, rfl⟩ := O103_4.out.form
        have O103_5 := Lib.hid ho5
        obtain ⟨A103_5, c103_5, rfl⟩ := O103_5.out.form
        have C103 : Hid (RS base p wy102.heap.size wl102 t102_18 w103) := ⟨hpr, CL102.out.chg.trans hch⟩
        have D103 := Lib.hid hd2
        clear hpr hch hd2 ho0 ho1 ho2 ho3 ho4 ho5
        have HY102 : Hid (mRec.own base w103 [.string e102_0, .string e102_1, .string e102_4, .int .i64 e102_5, .slice A103_0 (e102_6).length c103_0, .slice A103_1 (e102_7).length c103_1, .slice A103_2 (e102_8).length c103_2, .slice A103_3 (e102_9).length c103_3, .bool e102_10, .bool e102_11, .int .i64 e102_12, .int .i64 e102_13, .int .i64 e102_14, .int .i64 e102_15, .slice A103_4 (e102_16).length c103_4, .slice A103_5 (e102_17).length c103_5, .string e102_2, .int .i64 e102_3] (e102_0, e102_1, e102_2, e102_3, (e102_4, e102_5, e102_6, e102_7, e102_8, e102_9, e102_10, e102_11, e102_12, e102_13, e102_14, e102_15), e102_16, e102_17)) := mRec_mk (mHist_mk O103_0.out O103_1.out O103_2.out O103_3.out) O103_4.out O103_5.out
        have HN102 := Lib.hid (HZ102.out.next (q := 1) mRec_law HB102.out C103.out (by decide) (by decide) hne HY102.out HE102.out h1 H2102.out)
        obtain ⟨hb1, hb2, _⟩ := HZ102.out.back mRec_law HB102.out C103.out (by decide) hne
        have cl := blk_cell hb1 1
        simp at cl
        have tr := C103.out.pr.cell2
        have HT2 : Hid ((World.drewN w103 1).there g102 (acc102.length * 18) (#[.string e102_0, .string e102_1, .string e102_4, .int .i64 e102_5, .slice A103_0 (e102_6).length c103_0, .slice A103_1 (e102_7).length c103_1, .slice A103_2 (e102_8).length c103_2, .slice A103_3 (e102_9).length c103_3, .bool e102_10, .bool e102_11, .int .i64 e102_12, .int .i64 e102_13, .int .i64 e102_14, .int .i64 e102_15, .slice A103_4 (e102_16).length c103_4, .slice A103_5 (e102_17).length c103_5, .string e102_2, .int .i64 e102_3] : Array Value).size) := hb2.there (n := 18) rfl
        have hlna : ((acc102.length : Nat) : Int) < (acc102.length : Int) + 1 := by omega
        clear hb1
        have HLG := Lib.hid (range_of D103.out)
        have hi3 : Hid ((Tryz.prog.info? 65).map (·.size) = some ([.string e102_0, .string e102_1, .string e102_4, .int .i64 e102_5, .slice A103_0 (e102_6).length c103_0, .slice A103_1 (e102_7).length c103_1, .slice A103_2 (e102_8).length c103_2, .slice A103_3 (e102_9).length c103_3, .bool e102_10, .bool e102_11, .int .i64 e102_12, .int .i64 e102_13, .int .i64 e102_14, .int .i64 e102_15, .slice A103_4 (e102_16).length c103_4, .slice A103_5 (e102_17).length c103_5, .string e102_2, .int .i64 e102_3] : List Value).length) := by show _ = _; kernel_rfl
        have hi4 : Hid ((Tryz.prog.info? 65).map (·.size) = some (#[.string e102_0, .string e102_1, .string e102_4, .int .i64 e102_5, .slice A103_0 (e102_6).length c103_0, .slice A103_1 (e102_7).length c103_1, .slice A103_2 (e102_8).length c103_2, .slice A103_3 (e102_9).length c103_3, .bool e102_10, .bool e102_11, .int .i64 e102_12, .int .i64 e102_13, .int .i64 e102_14, .int .i64 e102_15, .slice A103_4 (e102_16).length c103_4, .slice A103_5 (e102_17).length c103_5, .string e102_2, .int .i64 e102_3] : Array Value).size) := by show _ = _; kernel_rfl
        have hon2 : Hid ((#[.string e102_0, .string e102_1, .string e102_4, .int .i64 e102_5, .slice A103_0 (e102_6).length c103_0, .slice A103_1 (e102_7).length c103_1, .slice A103_2 (e102_8).length c103_2, .slice A103_3 (e102_9).length c103_3, .bool e102_10, .bool e102_11, .int .i64 e102_12, .int .i64 e102_13, .int .i64 e102_14, .int .i64 e102_15, .slice A103_4 (e102_16).length c103_4, .slice A103_5 (e102_17).length c103_5, .string e102_2, .int .i64 e102_3] : Array Value).all (·.oneCell') = true) := all_oneCell_toArray (cs := [.string e102_0, .string e102_1, .string e102_4, .int .i64 e102_5, .slice A103_0 (e102_6).length c103_0, .slice A103_1 (e102_7).length c103_1, .slice A103_2 (e102_8).length c103_2, .slice A103_3 (e102_9).length c103_3, .bool e102_10, .bool e102_11, .int .i64 e102_12, .int .i64 e102_13, .int .i64 e102_14, .int .i64 e102_15, .slice A103_4 (e102_16).length c103_4, .slice A103_5 (e102_17).length c103_5, .string e102_2, .int .i64 e102_3]) (fun u hu => List.all_eq_true.1 (rfl : ([.string e102_0, .string e102_1, .string e102_4, .int .i64 e102_5, .slice A103_0 (e102_6).length c103_0, .slice A103_1 (e102_7).length c103_1, .slice A103_2 (e102_8).length c103_2, .slice A103_3 (e102_9).length c103_3, .bool e102_10, .bool e102_11, .int .i64 e102_12, .int .i64 e102_13, .int .i64 e102_14, .int .i64 e102_15, .slice A103_4 (e102_16).length c103_4, .slice A103_5 (e102_17).length c103_5, .string e102_2, .int .i64 e102_3] : List Value).all (·.oneCell') = true) u hu)
        clear hb2
        go_wp2
        refine wp_region_still_tail 7 (by kernel_rfl) (by kernel_rfl) ?_
        simp only [List.take_succ_cons, List.take_zero, List.drop_succ_cons, List.drop_zero]
        repeat (first | (refine wpStill_load_mid rfl 65 (.tmp 6) rfl wy102.heap.size 0 rfl [.string e102_0, .string e102_1, .string e102_4, .int .i64 e102_5, .slice A103_0 (e102_6).length c103_0, .slice A103_1 (e102_7).length c103_1, .slice A103_2 (e102_8).length c103_2, .slice A103_3 (e102_9).length c103_3, .bool e102_10, .bool e102_11, .int .i64 e102_12, .int .i64 e102_13, .int .i64 e102_14, .int .i64 e102_15, .slice A103_4 (e102_16).length c103_4, .slice A103_5 (e102_17).length c103_5, .string e102_2, .int .i64 e102_3] _ HLG.out Tryz.underlying65 rfl hi3.out ?_) | still_step)
        try refine wpStill_nil ?_
        change wpList _ _ _ _ _ (World.drewN _ 1)
        go_wp2_with (with_reducible refine wpList_store_mid rfl 65 (.tmp 70) (.tmp 69) rfl g102 (acc102.length * 18) #[.string e102_0, .string e102_1, .string e102_4, .int .i64 e102_5, .slice A103_0 (e102_6).length c103_0, .slice A103_1 (e102_7).length c103_1, .slice A103_2 (e102_8).length c103_2, .slice A103_3 (e102_9).length c103_3, .bool e102_10, .bool e102_11, .int .i64 e102_12, .int .i64 e102_13, .int .i64 e102_14, .int .i64 e102_15, .slice A103_4 (e102_16).length c103_4, .slice A103_5 (e102_17).length c103_5, .string e102_2, .int .i64 e102_3] rfl rfl HT2.out hi4.out hon2.out ?_)
        go_roundw
        case rel => exact ⟨acc102.length + 1, by go_num, by omega, ⟨acc102 ++ [_], _, _, by simp, HN102.out⟩⟩
        case measure => simp [intOf]; omega
      | false =>
        have hend := HX102.out.end (by have := HG102.out; simpa using this)
        injection hend with h8 h9
        subst h8
        subst h9
        have C102 : Hid (RS base p d w s2 wz102) := HX102.out.rs
        have D102 : Hid (wz102.heap[d]? = some (.cells #[.int .i64 y0, .slice Av102 (y1).length cv102, .int .i64 0, .slice none 0 0, .int .i64 0, .bool false, .slice none 0 0, .slice none 0 0, .int .i64 0, .slice none 0 0, .bool false] 35)) := HX102.out.blk
        have O102 : Hid (LOwn 65 mRec base wz102 (.slice Av102 (y1).length cv102) y1) := HX102.out.own
        clear HX102 HG102 CM102 DM102 tb tr
        go_wp2_with fail
        refine (penDesk_rd C102.out.pr D102.out Q2.out Q3.out Q4.out Q5.out Q6.out hne hbd).mono ?_
        rintro e w104 ⟨rfl, v104_0, v104_1, hpr, hch, hd2, ho0, ho1⟩
        have hO102 := O102.out.go mRec_law C102.out.pr D102.out hch (by decide) (by decide)
        clear O102
        have O102 := Lib.hid hO102
        clear hO102
        have O104_0 := Lib.hid ho0
        obtain ⟨A104_0, c104_0, rfl⟩ := O104_0.out.form
        have O104_1 := Lib.hid ho1
        obtain ⟨A104_1, c104_1, rfl⟩ := O104_1.out.form
        have C104 : Hid (RS base p d w s7 w104) := ⟨hpr, C102.out.chg.trans hch⟩
        have D104 := Lib.hid hd2
        clear hpr hch hd2 ho0 ho1
        have cl := blk_cell D104.out 7
        simp at cl
        go_wp2_with fail
        refine (rdMany C104.out D104.out (.inl rfl) hne hbd).mono ?_
        rintro e w105 ⟨rfl, hc, hd2, hch⟩
        have hO102 := O102.out.go mRec_law C104.out.pr D104.out hch (by decide) (by decide)
        clear O102
        have O102 := Lib.hid hO102
        clear hO102
        have hO104_0 := O104_0.out.go mTurn_law C104.out.pr D104.out hch (by decide) (by decide)
        clear O104_0
        have O104_0 := Lib.hid hO104_0
        clear hO104_0
        have hO104_1 := O104_1.out.go mLine_law C104.out.pr D104.out hch (by decide) (by decide)
        clear O104_1
        have O104_1 := Lib.hid hO104_1
        clear hO104_1
        have n1050 : (pM s7 0).1 ≤ 1000000000 := Nat.le_trans (pM_le C104.out.pr.rd) C104.out.pr.sm
        have HR : Hid (pIt cJob (0, ⟨#[]⟩, 0) (pM s7 0).1 (pM s7 0).2 [] = (y7, s8)) := by show _ = _; rw [← pL_read cJob (0, ⟨#[]⟩, 0) C104.out.pr.rd]; exact Q7.out
        obtain ⟨n105, hn⟩ : ∃ n, (pM s7 0).1 = n := ⟨_, rfl⟩
        obtain ⟨sq105, hsq⟩ : ∃ q, (pM s7 0).2 = q := ⟨_, rfl⟩
        rw [hn] at n1050 HR ⊢
        rw [hsq] at HR hc
        clear hn hsq cl
        have HL105 : Hid (RL cJob (0, ⟨#[]⟩, 0) mJob 67 base p d 35 (fun v => #[.int .i64 y0, .slice Av102 (y1).length cv102, .int .i64 y2, .slice A104_0 (y3).length c104_0, .int .i64 y4, .bool y5, .slice A104_1 (y6).length c104_1, v, .int .i64 0, .slice none 0 0, .bool false]) w w105 n105 (y7, s8) [] sq105 (.slice none 0 0) w105) := RL.start hc hd2 HR.out
        have CM105 := Lib.hid hc
        have DM105 := Lib.hid hd2
        clear hc hd2 hch HR
        go_wp2
        go_loopw [7] (fun ix wl => ∃ k : Nat, ix = .int .i64 k ∧ k ≤ n105 ∧ Hid (∃ acc s v, acc.length = k ∧ RL cJob (0, ⟨#[]⟩, 0) mJob 67 base p d 35 (fun v => #[.int .i64 y0, .slice Av102 (y1).length cv102, .int .i64 y2, .slice A104_0 (y3).length c104_0, .int .i64 y4, .bool y5, .slice A104_1 (y6).length c104_1, v, .int .i64 0, .slice none 0 0, .bool false]) w w105 n105 (y7, s8) acc s v wl)) (fun ix _ => n105 - (intOf ix).toNat)
        case atStart => exact ⟨0, rfl, by omega, ⟨_, _, _, rfl, HL105.out⟩⟩
        case round =>
          obtain ⟨kk, rfl, hk105, HW⟩ := hrel
          obtain ⟨acc105, sx105, vx, hka, hL⟩ := HW.out
          subst hka
          obtain ⟨wz105, hwr⟩ : ∃ z, z = wr := ⟨_, rfl⟩
          subst hwr
          obtain ⟨Av105, cv105, rfl⟩ := hL.len
          have tb := hL.pr.cell3
          have tr := hL.pr.cell2
          have HX105 := Lib.hid hL
          clear HW hL HL105
          obtain ⟨gg, hg⟩ : ∃ g : Bool, (decide (acc105.length < n105) && !sx105.bad) = g := ⟨_, rfl⟩
          have HG105 := Lib.hid hg
          clear hg
          go_upto_region 12 with fail
          go_cut [92] (fun sl wx => sl = .bool gg ∧ wz105 = wx)
          case first =>
            by_cases h1 : acc105.length < n105
            · cases hb : sx105.bad with
              | true =>
                have hgg : gg = false := by rw [← HG105.out]; simp [h1, hb]
                have HGG := Lib.hid hgg
                rw [hb] at tb
                clear hb hgg
                go_wp2
                go_meet
                exact ⟨by rw [HGG.out], rfl⟩
              | false =>
                have hgg : gg = true := by rw [← HG105.out]; simp [h1, hb]
                have HGG := Lib.hid hgg
                rw [hb] at tb
                clear hb hgg
                go_wp2
                go_meet
                exact ⟨by rw [HGG.out], rfl⟩
            · have hgg : gg = false := by rw [← HG105.out]; simp [h1]
              have HGG := Lib.hid hgg
              clear hgg
              go_wp2
              go_meet
              exact ⟨by rw [HGG.out], rfl⟩
          case rest =>
            obtain ⟨rfl, hwx⟩ := hcut
            subst hwx
            cases gg with
            | true =>
              obtain ⟨h1, h2⟩ : acc105.length < n105 ∧ sx105.bad = false := by simpa using HG105.out
              rw [h2] at tb
              have H2105 := Lib.hid h2
              clear HG105 h2
              have hbw : base ≤ (wz105.alloc (.cells #[.int .i64 0, .string ⟨#[]⟩, .int .i64 0] 67)).heap.size := by have := HX105.out.pr.lt; have := HX105.out.pr.hr; simp; omega
              have cl := blk_cell HX105.out.blk 7
              simp at cl
              have HOW : Hid (LOwn 67 mJob base (wz105.alloc (.cells #[.int .i64 0, .string ⟨#[]⟩, .int .i64 0] 67)) _ acc105) := HX105.out.own.keep mJob_law (Stay.below ((Below.refl _ _).alloc (Nat.le_refl _) _))
              have HAL : Hid ((wz105.alloc (.cells #[.int .i64 0, .string ⟨#[]⟩, .int .i64 0] 67)).heap[wz105.heap.size]? = some (.cells ([.int .i64 0, .string ⟨#[]⟩, .int .i64 0] : List Value).toArray 67)) := alloc_at _ _
              have hal : acc105.length + 1 ≤ 100000000000 := by omega
              have hzo : ∀ u ∈ ([.int .i64 0, .string ⟨#[]⟩, .int .i64 0] : List Value), u.oneCell' = true := fun u hu => (List.all_eq_true.1 (rfl : ([.int .i64 0, .string ⟨#[]⟩, .int .i64 0] : List Value).all (·.oneCell') = true)) u hu
              have HZO := Lib.hid hzo
              clear hzo
              have HUL : Hid (([.int .i64 0, .string ⟨#[]⟩, .int .i64 0] : List Value).length = mJob.n) := by show _ = _; rfl
              go_upto_region 16 with (first
                | (with_reducible refine wpList_buildOne rfl (.tmp 104) rfl (.agg #[.int .i64 0, .string ⟨#[]⟩, .int .i64 0]) #[.int .i64 0, .string ⟨#[]⟩, .int .i64 0] elemJob rfl rfl rfl (by decide) (by decide) ?_)
                | ((with_reducible refine wpList_pushZ rfl (.tmp 103) (.tmp 105) rfl elemJob mJob_law (by decide) base _ acc105 [.int .i64 0, .string ⟨#[]⟩, .int .i64 0] wz105.heap.size rfl HOW.out rfl HAL.out HUL.out HZO.out hal (by decide) hbw ?_); intro g105 cp105 w105a hZ hG hat; have hk1 := (HX105.out.pushed hG).2.1; have cl3 := blk_cell hk1 7; have fl3 := blk_free hk1 7; simp at cl3; have HZ105 := Lib.hid (HX105.out.stored mJob_law (off := 7) hG hZ hat (by decide) rfl hne hbd); clear hZ hG hat hk1 cl))
              clear cl3 fl3 HOW HAL HUL hal HZO hbw
              generalize (w105a.setCell ⟨d, 7, none⟩ (.slice (some ⟨g105, 0, none⟩) (acc105.length + 1) cp105)) = wy105 at HZ105 ⊢
              have cl := blk_cell HZ105.out.blk 7
              simp at cl
              have tr := HZ105.out.pr.cell2
              have HRG : Hid (wy105.rangeAt g105 (acc105.length * 3) [.int .i64 0, .string ⟨#[]⟩, .int .i64 0]) := HZ105.out.own.range
              have hi1 : Hid ((Tryz.prog.info? 67).map (·.size) = some ([.int .i64 0, .string ⟨#[]⟩, .int .i64 0] : List Value).length) := by show _ = _; kernel_rfl
              have hi2 : Hid ((Tryz.prog.info? 67).map (·.size) = some (#[.int .i64 0, .string ⟨#[]⟩, .int .i64 0] : Array Value).size) := by show _ = _; kernel_rfl
              have hone : Hid ((#[.int .i64 0, .string ⟨#[]⟩, .int .i64 0] : Array Value).all (·.oneCell') = true) := all_oneCell_toArray (cs := [.int .i64 0, .string ⟨#[]⟩, .int .i64 0]) (fun u hu => List.all_eq_true.1 (rfl : ([.int .i64 0, .string ⟨#[]⟩, .int .i64 0] : List Value).all (·.oneCell') = true) u hu)
              have HTH : Hid ((wy105.alloc (.cells #[.int .i64 0, .string ⟨#[]⟩, .int .i64 0] 67)).there wy105.heap.size 0 (#[.int .i64 0, .string ⟨#[]⟩, .int .i64 0] : Array Value).size) := there_new _ _ _ _ rfl
              have HB105 : Hid (Below wy105.heap.size wy105 ((wy105.alloc (.cells #[.int .i64 0, .string ⟨#[]⟩, .int .i64 0] 67)).setCells wy105.heap.size 0 [.int .i64 0, .string ⟨#[]⟩, .int .i64 0])) := below_cells (Nat.le_refl _) _ _ _ ((Below.refl _ _).alloc (Nat.le_refl _) _)
              have HD105 : Hid (((wy105.alloc (.cells #[.int .i64 0, .string ⟨#[]⟩, .int .i64 0] 67)).setCells wy105.heap.size 0 [.int .i64 0, .string ⟨#[]⟩, .int .i64 0]).heap[wy105.heap.size]? = some (.cells #[.int .i64 0, .string ⟨#[]⟩, .int .i64 0] 67)) := fresh_cells wy105 #[.int .i64 0, .string ⟨#[]⟩, .int .i64 0] #[.int .i64 0, .string ⟨#[]⟩, .int .i64 0] 67 rfl
              go_wp2_with (first
                | (with_reducible refine wpList_load_mid rfl 67 (.tmp 114) rfl g105 (acc105.length * 3) rfl [.int .i64 0, .string ⟨#[]⟩, .int .i64 0] _ HRG.out Tryz.underlying67 rfl hi1.out ?_)
                | (with_reducible refine wpList_store_mid rfl 67 (.tmp 9) (.tmp 115) rfl wy105.heap.size 0 #[.int .i64 0, .string ⟨#[]⟩, .int .i64 0] rfl rfl HTH.out hi2.out hone.out ?_))
              clear HRG HTH hi2 hone
              clear cl
              have hgn105 : wy105.heap.size ≠ p := by have := HZ105.out.pr.lt; omega
              have hgb105 : base ≤ wy105.heap.size := by have := HZ105.out.pr.lt; have := HZ105.out.pr.hr; omega
              have CL105 : Hid (RS base p wy105.heap.size ((wy105.alloc (.cells #[.int .i64 0, .string ⟨#[]⟩, .int .i64 0] 67)).setCells wy105.heap.size 0 [.int .i64 0, .string ⟨#[]⟩, .int .i64 0]) sx105 ((wy105.alloc (.cells #[.int .i64 0, .string ⟨#[]⟩, .int .i64 0] 67)).setCells wy105.heap.size 0 [.int .i64 0, .string ⟨#[]⟩, .int .i64 0])) := HZ105.out.newb HB105.out
              generalize ((wy105.alloc (.cells #[.int .i64 0, .string ⟨#[]⟩, .int .i64 0] 67)).setCells wy105.heap.size 0 [.int .i64 0, .string ⟨#[]⟩, .int .i64 0]) = wl105 at HB105 HD105 CL105 ⊢
              obtain ⟨e105_0, t105_1, q105_0⟩ : ∃ u t, pC cI sx105 0 = (u, t) := ⟨_, _, rfl⟩
              obtain ⟨e105_1, t105_2, q105_1⟩ : ∃ u t, pC cS t105_1 ⟨#[]⟩ = (u, t) := ⟨_, _, rfl⟩
              obtain ⟨e105_2, t105_3, q105_2⟩ : ∃ u t, pC cI t105_2 0 = (u, t) := ⟨_, _, rfl⟩
              have HE105 : Hid (pC cJob sx105 (0, ⟨#[]⟩, 0) = ((e105_0, e105_1, e105_2), t105_3)) := by show _ = _; unfold cJob; simp only [pC_seq, q105_0, q105_1, q105_2]
              have Q105_0 := Lib.hid q105_0
              clear q105_0
              have Q105_1 := Lib.hid q105_1
              clear q105_1
              have Q105_2 := Lib.hid q105_2
              clear q105_2
              clear tr tb
              go_wp2_with fail
              refine (rdWhole (o := 0) (cs' := #[.int .i64 e105_0, .string ⟨#[]⟩, .int .i64 0]) CL105.out HD105.out Q105_0.out rfl rfl (.inl rfl) hgn105 hgb105).mono ?_
              rintro e w106 ⟨rfl, hc, hd2, hch⟩
              have C106 := Lib.hid hc
              have D106 := Lib.hid hd2
              clear hc hd2 hch
              go_wp2_with fail
              refine (rdText (o := 1) (cs' := #[.int .i64 e105_0, .string e105_1, .int .i64 0]) C106.out D106.out Q105_1.out rfl rfl (.inl rfl) hgn105 hgb105).mono ?_
              rintro e w107 ⟨rfl, hc, hd2, hch⟩
              have C107 := Lib.hid hc
              have D107 := Lib.hid hd2
              clear hc hd2 hch
              go_wp2_with fail
              refine (rdWhole (o := 2) (cs' := #[.int .i64 e105_0, .string e105_1, .int .i64 e105_2]) C107.out D107.out Q105_2.out rfl rfl (.inl rfl) hgn105 hgb105).mono ?_
              rintro e w108 ⟨rfl, hc, hd2, hch⟩
              have C108 := Lib.hid hc
              have D108 := Lib.hid hd2
              clear hc hd2 hch
              have HY105 : Hid (mJob.own base w108 [.int .i64 e105_0, .string e105_1, .int .i64 e105_2] (e105_0, e105_1, e105_2)) := mJob_mk
              have HN105 := Lib.hid (HZ105.out.next (q := 1) mJob_law HB105.out C108.out (by decide) (by decide) hne HY105.out HE105.out h1 H2105.out)
              obtain ⟨hb1, hb2, _⟩ := HZ105.out.back mJob_law HB105.out C108.out (by decide) hne
              have cl := blk_cell hb1 7
              simp at cl
              have tr := C108.out.pr.cell2
              have HT2 : Hid ((World.drewN w108 1).there g105 (acc105.length * 3) (#[.int .i64 e105_0, .string e105_1, .int .i64 e105_2] : Array Value).size) := hb2.there (n := 3) rfl
              have hlna : ((acc105.length : Nat) : Int) < (acc105.length : Int) + 1 := by omega
              clear hb1
              have HLG := Lib.hid (range_of D108.out)
              have hi3 : Hid ((Tryz.prog.info? 67).map (·.size) = some ([.int .i64 e105_0, .string e105_1, .int .i64 e105_2] : List Value).length) := by show _ = _; kernel_rfl
              have hi4 : Hid ((Tryz.prog.info? 67).map (·.size) = some (#[.int .i64 e105_0, .string e105_1, .int .i64 e105_2] : Array Value).size) := by show _ = _; kernel_rfl
              have hon2 : Hid ((#[.int .i64 e105_0, .string e105_1, .int .i64 e105_2] : Array Value).all (·.oneCell') = true) := all_oneCell_toArray (cs := [.int .i64 e105_0, .string e105_1, .int .i64 e105_2]) (fun u hu => List.all_eq_true.1 (rfl : ([.int .i64 e105_0, .string e105_1, .int .i64 e105_2] : List Value).all (·.oneCell') = true) u hu)
              clear hb2
              go_wp2
              refine wp_region_still_tail 7 (by kernel_rfl) (by kernel_rfl) ?_
              simp only [List.take_succ_cons, List.take_zero, List.drop_succ_cons, List.drop_zero]
              repeat (first | (refine wpStill_load_mid rfl 67 (.tmp 9) rfl wy105.heap.size 0 rfl [.int .i64 e105_0, .string e105_1, .int .i64 e105_2] _ HLG.out Tryz.underlying67 rfl hi3.out ?_) | still_step)
              try refine wpStill_nil ?_
              change wpList _ _ _ _ _ (World.drewN _ 1)
              go_wp2_with (with_reducible refine wpList_store_mid rfl 67 (.tmp 135) (.tmp 134) rfl g105 (acc105.length * 3) #[.int .i64 e105_0, .string e105_1, .int .i64 e105_2] rfl rfl HT2.out hi4.out hon2.out ?_)
              go_roundw
              case rel => exact ⟨acc105.length + 1, by go_num, by omega, ⟨acc105 ++ [_], _, _, by simp, HN105.out⟩⟩
              case measure => simp [intOf]; omega
            | false =>
              have hend := HX105.out.end (by have := HG105.out; simpa using this)
              injection hend with h8 h9
              subst h8
              subst h9
              have C105 : Hid (RS base p d w s8 wz105) := HX105.out.rs
              have D105 : Hid (wz105.heap[d]? = some (.cells #[.int .i64 y0, .slice Av102 (y1).length cv102, .int .i64 y2, .slice A104_0 (y3).length c104_0, .int .i64 y4, .bool y5, .slice A104_1 (y6).length c104_1, .slice Av105 (y7).length cv105, .int .i64 0, .slice none 0 0, .bool false] 35)) := HX105.out.blk
              have O105 : Hid (LOwn 67 mJob base wz105 (.slice Av105 (y7).length cv105) y7) := HX105.out.own
              have hO102 := O102.out.go mRec_law CM105.out.pr DM105.out HX105.out.chg (by decide) (by decide)
              clear O102
              have O102 := Lib.hid hO102
              clear hO102
              have hO104_0 := O104_0.out.go mTurn_law CM105.out.pr DM105.out HX105.out.chg (by decide) (by decide)
              clear O104_0
              have O104_0 := Lib.hid hO104_0
              clear hO104_0
              have hO104_1 := O104_1.out.go mLine_law CM105.out.pr DM105.out HX105.out.chg (by decide) (by decide)
              clear O104_1
              have O104_1 := Lib.hid hO104_1
              clear hO104_1
              clear HX105 HG105 CM105 DM105 tb tr
              go_wp2_with fail
              refine (rdWhole (o := 8) (cs' := #[.int .i64 y0, .slice Av102 (y1).length cv102, .int .i64 y2, .slice A104_0 (y3).length c104_0, .int .i64 y4, .bool y5, .slice A104_1 (y6).length c104_1, .slice Av105 (y7).length cv105, .int .i64 y8, .slice none 0 0, .bool false]) C105.out D105.out Q8.out rfl rfl (.inl rfl) hne hbd).mono ?_
              rintro e w109 ⟨rfl, hc, hd2, hch⟩
              have hO102 := O102.out.go mRec_law C105.out.pr D105.out hch (by decide) (by decide)
              clear O102
              have O102 := Lib.hid hO102
              clear hO102
              have hO104_0 := O104_0.out.go mTurn_law C105.out.pr D105.out hch (by decide) (by decide)
              clear O104_0
              have O104_0 := Lib.hid hO104_0
              clear hO104_0
              have hO104_1 := O104_1.out.go mLine_law C105.out.pr D105.out hch (by decide) (by decide)
              clear O104_1
              have O104_1 := Lib.hid hO104_1
              clear hO104_1
              have hO105 := O105.out.go mJob_law C105.out.pr D105.out hch (by decide) (by decide)
              clear O105
              have O105 := Lib.hid hO105
              clear hO105
              have C109 := Lib.hid hc
              have D109 := Lib.hid hd2
              clear hc hd2 hch
              have cl := blk_cell D109.out 9
              simp at cl
              go_wp2_with fail
              refine (rdMany C109.out D109.out (.inl rfl) hne hbd).mono ?_
              rintro e w110 ⟨rfl, hc, hd2, hch⟩
              have hO102 := O102.out.go mRec_law C109.out.pr D109.out hch (by decide) (by decide)
              clear O102
              have O102 := Lib.hid hO102
              clear hO102
              have hO104_0 := O104_0.out.go mTurn_law C109.out.pr D109.out hch (by decide) (by decide)
              clear O104_0
              have O104_0 := Lib.hid hO104_0
              clear hO104_0
              have hO104_1 := O104_1.out.go mLine_law C109.out.pr D109.out hch (by decide) (by decide)
              clear O104_1
              have O104_1 := Lib.hid hO104_1
              clear hO104_1
              have hO105 := O105.out.go mJob_law C109.out.pr D109.out hch (by decide) (by decide)
              clear O105
              have O105 := Lib.hid hO105
              clear hO105
              have n1100 : (pM s9 0).1 ≤ 1000000000 := Nat.le_trans (pM_le C109.out.pr.rd) C109.out.pr.sm
              have HR : Hid (pIt cWorker (0, 0) (pM s9 0).1 (pM s9 0).2 [] = (y9, s10)) := by show _ = _; rw [← pL_read cWorker (0, 0) C109.out.pr.rd]; exact Q9.out
              obtain ⟨n110, hn⟩ : ∃ n, (pM s9 0).1 = n := ⟨_, rfl⟩
              obtain ⟨sq110, hsq⟩ : ∃ q, (pM s9 0).2 = q := ⟨_, rfl⟩
              rw [hn] at n1100 HR ⊢
              rw [hsq] at HR hc
              clear hn hsq cl
              have HL110 : Hid (RL cWorker (0, 0) mWorker 87 base p d 35 (fun v => #[.int .i64 y0, .slice Av102 (y1).length cv102, .int .i64 y2, .slice A104_0 (y3).length c104_0, .int .i64 y4, .bool y5, .slice A104_1 (y6).length c104_1, .slice Av105 (y7).length cv105, .int .i64 y8, v, .bool false]) w w110 n110 (y9, s10) [] sq110 (.slice none 0 0) w110) := RL.start hc hd2 HR.out
              have CM110 := Lib.hid hc
              have DM110 := Lib.hid hd2
              clear hc hd2 hch HR
              go_wp2
              go_loopw [10] (fun ix wl => ∃ k : Nat, ix = .int .i64 k ∧ k ≤ n110 ∧ Hid (∃ acc s v, acc.length = k ∧ RL cWorker (0, 0) mWorker 87 base p d 35 (fun v => #[.int .i64 y0, .slice Av102 (y1).length cv102, .int .i64 y2, .slice A104_0 (y3).length c104_0, .int .i64 y4, .bool y5, .slice A104_1 (y6).length c104_1, .slice Av105 (y7).length cv105, .int .i64 y8, v, .bool false]) w w110 n110 (y9, s10) acc s v wl)) (fun ix _ => n110 - (intOf ix).toNat)
              case atStart => exact ⟨0, rfl, by omega, ⟨_, _, _, rfl, HL110.out⟩⟩
              case round =>
                obtain ⟨kk, rfl, hk110, HW⟩ := hrel
                obtain ⟨acc110, sx110, vx, hka, hL⟩ := HW.out
                subst hka
                obtain ⟨wz110, hwr⟩ : ∃ z, z = wr := ⟨_, rfl⟩
                subst hwr
                obtain ⟨Av110, cv110, rfl⟩ := hL.len
                have tb := hL.pr.cell3
                have tr := hL.pr.cell2
                have HX110 := Lib.hid hL
                clear HW hL HL110
                obtain ⟨gg, hg⟩ : ∃ g : Bool, (decide (acc110.length < n110) && !sx110.bad) = g := ⟨_, rfl⟩
                have HG110 := Lib.hid hg
                clear hg
                go_upto_region 24 with fail
                go_cut [157] (fun sl wx => sl = .bool gg ∧ wz110 = wx)
                case first =>
                  by_cases h1 : acc110.length < n110
                  · cases hb : sx110.bad with
                    | true =>
                      have hgg : gg = false := by rw [← HG110.out]; simp [h1, hb]
                      have HGG := Lib.hid hgg
                      rw [hb] at tb
                      clear hb hgg
                      go_wp2
                      go_meet
                      exact ⟨by rw [HGG.out], rfl⟩
                    | false =>
                      have hgg : gg = true := by rw [← HG110.out]; simp [h1, hb]
                      have HGG := Lib.hid hgg
                      rw [hb] at tb
                      clear hb hgg
                      go_wp2
                      go_meet
                      exact ⟨by rw [HGG.out], rfl⟩
                  · have hgg : gg = false := by rw [← HG110.out]; simp [h1]
                    have HGG := Lib.hid hgg
                    clear hgg
                    go_wp2
                    go_meet
                    exact ⟨by rw [HGG.out], rfl⟩
                case rest =>
                  obtain ⟨rfl, hwx⟩ := hcut
                  subst hwx
                  cases gg with
                  | true =>
                    obtain ⟨h1, h2⟩ : acc110.length < n110 ∧ sx110.bad = false := by simpa using HG110.out
                    rw [h2] at tb
                    have H2110 := Lib.hid h2
                    clear HG110 h2
                    have hbw : base ≤ (wz110.alloc (.cells #[.int .i64 0, .int .i64 0] 87)).heap.size := by have := HX110.out.pr.lt; have := HX110.out.pr.hr; simp; omega
                    have cl := blk_cell HX110.out.blk 9
                    simp at cl
                    have HOW : Hid (LOwn 87 mWorker base (wz110.alloc (.cells #[.int .i64 0, .int .i64 0] 87)) _ acc110) := HX110.out.own.keep mWorker_law (Stay.below ((Below.refl _ _).alloc (Nat.le_refl _) _))
                    have HAL : Hid ((wz110.alloc (.cells #[.int .i64 0, .int .i64 0] 87)).heap[wz110.heap.size]? = some (.cells ([.int .i64 0, .int .i64 0] : List Value).toArray 87)) := alloc_at _ _
                    have hal : acc110.length + 1 ≤ 100000000000 := by omega
                    have hzo : ∀ u ∈ ([.int .i64 0, .int .i64 0] : List Value), u.oneCell' = true := fun u hu => (List.all_eq_true.1 (rfl : ([.int .i64 0, .int .i64 0] : List Value).all (·.oneCell') = true)) u hu
                    have HZO := Lib.hid hzo
                    clear hzo
                    have HUL : Hid (([.int .i64 0, .int .i64 0] : List Value).length = mWorker.n) := by show _ = _; rfl
                    go_upto_region 28 with (first
                      | (with_reducible refine wpList_buildOne rfl (.tmp 169) rfl (.agg #[.int .i64 0, .int .i64 0]) #[.int .i64 0, .int .i64 0] elemWorker rfl rfl rfl (by decide) (by decide) ?_)
                      | ((with_reducible refine wpList_pushZ rfl (.tmp 168) (.tmp 170) rfl elemWorker mWorker_law (by decide) base _ acc110 [.int .i64 0, .int .i64 0] wz110.heap.size rfl HOW.out rfl HAL.out HUL.out HZO.out hal (by decide) hbw ?_); intro g110 cp110 w110a hZ hG hat; have hk1 := (HX110.out.pushed hG).2.1; have cl3 := blk_cell hk1 9; have fl3 := blk_free hk1 9; simp at cl3; have HZ110 := Lib.hid (HX110.out.stored mWorker_law (off := 9) hG hZ hat (by decide) rfl hne hbd); clear hZ hG hat hk1 cl))
                    clear cl3 fl3 HOW HAL HUL hal HZO hbw
                    generalize (w110a.setCell ⟨d, 9, none⟩ (.slice (some ⟨g110, 0, none⟩) (acc110.length + 1) cp110)) = wy110 at HZ110 ⊢
                    have cl := blk_cell HZ110.out.blk 9
                    simp at cl
                    have tr := HZ110.out.pr.cell2
                    have HRG : Hid (wy110.rangeAt g110 (acc110.length * 2) [.int .i64 0, .int .i64 0]) := HZ110.out.own.range
                    have hi1 : Hid ((Tryz.prog.info? 87).map (·.size) = some ([.int .i64 0, .int .i64 0] : List Value).length) := by show _ = _; kernel_rfl
                    have hi2 : Hid ((Tryz.prog.info? 87).map (·.size) = some (#[.int .i64 0, .int .i64 0] : Array Value).size) := by show _ = _; kernel_rfl
                    have hone : Hid ((#[.int .i64 0, .int .i64 0] : Array Value).all (·.oneCell') = true) := all_oneCell_toArray (cs := [.int .i64 0, .int .i64 0]) (fun u hu => List.all_eq_true.1 (rfl : ([.int .i64 0, .int .i64 0] : List Value).all (·.oneCell') = true) u hu)
                    have HTH : Hid ((wy110.alloc (.cells #[.int .i64 0, .int .i64 0] 87)).there wy110.heap.size 0 (#[.int .i64 0, .int .i64 0] : Array Value).size) := there_new _ _ _ _ rfl
                    have HB110 : Hid (Below wy110.heap.size wy110 ((wy110.alloc (.cells #[.int .i64 0, .int .i64 0] 87)).setCells wy110.heap.size 0 [.int .i64 0, .int .i64 0])) := below_cells (Nat.le_refl _) _ _ _ ((Below.refl _ _).alloc (Nat.le_refl _) _)
                    have HD110 : Hid (((wy110.alloc (.cells #[.int .i64 0, .int .i64 0] 87)).setCells wy110.heap.size 0 [.int .i64 0, .int .i64 0]).heap[wy110.heap.size]? = some (.cells #[.int .i64 0, .int .i64 0] 87)) := fresh_cells wy110 #[.int .i64 0, .int .i64 0] #[.int .i64 0, .int .i64 0] 87 rfl
                    go_wp2_with (first
                      | (with_reducible refine wpList_load_mid rfl 87 (.tmp 179) rfl g110 (acc110.length * 2) rfl [.int .i64 0, .int .i64 0] _ HRG.out Tryz.underlying87 rfl hi1.out ?_)
                      | (with_reducible refine wpList_store_mid rfl 87 (.tmp 12) (.tmp 180) rfl wy110.heap.size 0 #[.int .i64 0, .int .i64 0] rfl rfl HTH.out hi2.out hone.out ?_))
                    clear HRG HTH hi2 hone
                    clear cl
                    have hgn110 : wy110.heap.size ≠ p := by have := HZ110.out.pr.lt; omega
                    have hgb110 : base ≤ wy110.heap.size := by have := HZ110.out.pr.lt; have := HZ110.out.pr.hr; omega
                    have CL110 : Hid (RS base p wy110.heap.size ((wy110.alloc (.cells #[.int .i64 0, .int .i64 0] 87)).setCells wy110.heap.size 0 [.int .i64 0, .int .i64 0]) sx110 ((wy110.alloc (.cells #[.int .i64 0, .int .i64 0] 87)).setCells wy110.heap.size 0 [.int .i64 0, .int .i64 0])) := HZ110.out.newb HB110.out
                    generalize ((wy110.alloc (.cells #[.int .i64 0, .int .i64 0] 87)).setCells wy110.heap.size 0 [.int .i64 0, .int .i64 0]) = wl110 at HB110 HD110 CL110 ⊢
                    obtain ⟨e110_0, t110_1, q110_0⟩ : ∃ u t, pC cI sx110 0 = (u, t) := ⟨_, _, rfl⟩
                    obtain ⟨e110_1, t110_2, q110_1⟩ : ∃ u t, pC cI t110_1 0 = (u, t) := ⟨_, _, rfl⟩
                    have HE110 : Hid (pC cWorker sx110 (0, 0) = ((e110_0, e110_1), t110_2)) := by show _ = _; unfold cWorker; simp only [pC_seq, q110_0, q110_1]
                    have Q110_0 := Lib.hid q110_0
                    clear q110_0
                    have Q110_1 := Lib.hid q110_1
                    clear q110_1
                    clear tr tb
                    go_wp2_with fail
                    refine (rdWhole (o := 0) (cs' := #[.int .i64 e110_0, .int .i64 0]) CL110.out HD110.out Q110_0.out rfl rfl (.inl rfl) hgn110 hgb110).mono ?_
                    rintro e w111 ⟨rfl, hc, hd2, hch⟩
                    have C111 := Lib.hid hc
                    have D111 := Lib.hid hd2
                    clear hc hd2 hch
                    go_wp2_with fail
                    refine (rdNum (o := 1) (cs' := #[.int .i64 e110_0, .int .i64 e110_1]) C111.out D111.out Q110_1.out rfl rfl (.inl rfl) hgn110 hgb110).mono ?_
                    rintro e w112 ⟨rfl, hc, hd2, hch⟩
                    have C112 := Lib.hid hc
                    have D112 := Lib.hid hd2
                    clear hc hd2 hch
                    have HY110 : Hid (mWorker.own base w112 [.int .i64 e110_0, .int .i64 e110_1] (e110_0, e110_1)) := mWorker_mk
                    have HN110 := Lib.hid (HZ110.out.next (q := 1) mWorker_law HB110.out C112.out (by decide) (by decide) hne HY110.out HE110.out h1 H2110.out)
                    obtain ⟨hb1, hb2, _⟩ := HZ110.out.back mWorker_law HB110.out C112.out (by decide) hne
                    have cl := blk_cell hb1 9
                    simp at cl
                    have tr := C112.out.pr.cell2
                    have HT2 : Hid ((World.drewN w112 1).there g110 (acc110.length * 2) (#[.int .i64 e110_0, .int .i64 e110_1] : Array Value).size) := hb2.there (n := 2) rfl
                    have hlna : ((acc110.length : Nat) : Int) < (acc110.length : Int) + 1 := by omega
                    clear hb1
                    have HLG := Lib.hid (range_of D112.out)
                    have hi3 : Hid ((Tryz.prog.info? 87).map (·.size) = some ([.int .i64 e110_0, .int .i64 e110_1] : List Value).length) := by show _ = _; kernel_rfl
                    have hi4 : Hid ((Tryz.prog.info? 87).map (·.size) = some (#[.int .i64 e110_0, .int .i64 e110_1] : Array Value).size) := by show _ = _; kernel_rfl
                    have hon2 : Hid ((#[.int .i64 e110_0, .int .i64 e110_1] : Array Value).all (·.oneCell') = true) := all_oneCell_toArray (cs := [.int .i64 e110_0, .int .i64 e110_1]) (fun u hu => List.all_eq_true.1 (rfl : ([.int .i64 e110_0, .int .i64 e110_1] : List Value).all (·.oneCell') = true) u hu)
                    clear hb2
                    go_wp2
                    refine wp_region_still_tail 7 (by kernel_rfl) (by kernel_rfl) ?_
                    simp only [List.take_succ_cons, List.take_zero, List.drop_succ_cons, List.drop_zero]
                    repeat (first | (refine wpStill_load_mid rfl 87 (.tmp 12) rfl wy110.heap.size 0 rfl [.int .i64 e110_0, .int .i64 e110_1] _ HLG.out Tryz.underlying87 rfl hi3.out ?_) | still_step)
                    try refine wpStill_nil ?_
                    change wpList _ _ _ _ _ (World.drewN _ 1)
                    go_wp2_with (with_reducible refine wpList_store_mid rfl 87 (.tmp 197) (.tmp 196) rfl g110 (acc110.length * 2) #[.int .i64 e110_0, .int .i64 e110_1] rfl rfl HT2.out hi4.out hon2.out ?_)
                    go_roundw
                    case rel => exact ⟨acc110.length + 1, by go_num, by omega, ⟨acc110 ++ [_], _, _, by simp, HN110.out⟩⟩
                    case measure => simp [intOf]; omega
                  | false =>
                    have hend := HX110.out.end (by have := HG110.out; simpa using this)
                    injection hend with h8 h9
                    subst h8
                    subst h9
                    have C110 : Hid (RS base p d w s10 wz110) := HX110.out.rs
                    have D110 : Hid (wz110.heap[d]? = some (.cells #[.int .i64 y0, .slice Av102 (y1).length cv102, .int .i64 y2, .slice A104_0 (y3).length c104_0, .int .i64 y4, .bool y5, .slice A104_1 (y6).length c104_1, .slice Av105 (y7).length cv105, .int .i64 y8, .slice Av110 (y9).length cv110, .bool false] 35)) := HX110.out.blk
                    have O110 : Hid (LOwn 87 mWorker base wz110 (.slice Av110 (y9).length cv110) y9) := HX110.out.own
                    have hO102 := O102.out.go mRec_law CM110.out.pr DM110.out HX110.out.chg (by decide) (by decide)
                    clear O102
                    have O102 := Lib.hid hO102
                    clear hO102
                    have hO104_0 := O104_0.out.go mTurn_law CM110.out.pr DM110.out HX110.out.chg (by decide) (by decide)
                    clear O104_0
                    have O104_0 := Lib.hid hO104_0
                    clear hO104_0
                    have hO104_1 := O104_1.out.go mLine_law CM110.out.pr DM110.out HX110.out.chg (by decide) (by decide)
                    clear O104_1
                    have O104_1 := Lib.hid hO104_1
                    clear hO104_1
                    have hO105 := O105.out.go mJob_law CM110.out.pr DM110.out HX110.out.chg (by decide) (by decide)
                    clear O105
                    have O105 := Lib.hid hO105
                    clear hO105
                    clear HX110 HG110 CM110 DM110 tb tr
                    go_wp2_with fail
                    refine (rdFlag (o := 10) (cs' := #[.int .i64 y0, .slice Av102 (y1).length cv102, .int .i64 y2, .slice A104_0 (y3).length c104_0, .int .i64 y4, .bool y5, .slice A104_1 (y6).length c104_1, .slice Av105 (y7).length cv105, .int .i64 y8, .slice Av110 (y9).length cv110, .bool y10]) C110.out D110.out Q10.out rfl rfl (.inl rfl) hne hbd).mono ?_
                    rintro e w113 ⟨rfl, hc, hd2, hch⟩
                    have hO102 := O102.out.go mRec_law C110.out.pr D110.out hch (by decide) (by decide)
                    clear O102
                    have O102 := Lib.hid hO102
                    clear hO102
                    have hO104_0 := O104_0.out.go mTurn_law C110.out.pr D110.out hch (by decide) (by decide)
                    clear O104_0
                    have O104_0 := Lib.hid hO104_0
                    clear hO104_0
                    have hO104_1 := O104_1.out.go mLine_law C110.out.pr D110.out hch (by decide) (by decide)
                    clear O104_1
                    have O104_1 := Lib.hid hO104_1
                    clear hO104_1
                    have hO105 := O105.out.go mJob_law C110.out.pr D110.out hch (by decide) (by decide)
                    clear O105
                    have O105 := Lib.hid hO105
                    clear hO105
                    have hO110 := O110.out.go mWorker_law C110.out.pr D110.out hch (by decide) (by decide)
                    clear O110
                    have O110 := Lib.hid hO110
                    clear hO110
                    have C113 := Lib.hid hc
                    have D113 := Lib.hid hd2
                    clear hc hd2 hch
                    go_wp2
                    exact bodyPost_ret (v := .tuple #[]) (by simp [results]) rfl ⟨rfl, _, _, _, _, _, C113.out.pr, C113.out.chg, D113.out, O102.out, O104_0.out, O104_1.out, O105.out, O110.out⟩
end Go.Proofs.YtckooioikcenmaaGreat

/- Walks: a disk's Remove. Conditions: sizes a machine can have. -/
import Derived.Test.YthehpafkaefohaaGreatDoorCkLgT2
import Derived.Test.YthehpafkaefohaaGreatDoorCkM20
namespace Go.Proofs.YthehpafkaefohaaGreatDoor
open Go.RowKit
set_option maxRecDepth 20000 in
set_option maxHeartbeats 1000000 in
theorem of1_remove {w : World} {d : Nat} {st : DkSt} {v : Value} (h : DkAt w d st v) (hm : st.fs.length ≤ 1000000) (bd bf bi p : Nat) (f : DF) (hf : st.fs[p]? = some f) (hd : w.cell? ⟨bd, 0, none⟩ = some (.pointer (some ⟨d, 0, none⟩))) (xd : bd ∉ dkS d v)
    (h1 : w.cell? ⟨bf, 0, none⟩ = some (.func (.func 122) #[] #[.pointer (some ⟨bd, 0, none⟩)])) (h2 : w.cell? ⟨bi, 0, none⟩ = some (.int .i64 p)) :
    Calls Tryz.prog 142 #[.pointer (some ⟨bf, 0, none⟩), .pointer (some ⟨bi, 0, none⟩)] w fun e w' => e = .returned (.tuple #[]) ∧ DOut d v { st with fs := st.fs.eraseIdx p } w w' := by
  have HC := Lib.hid (remove1_any h hm bd p f hf hd xd)
  clear h hf hd xd
  go_enter Tryz.func142, Tryz.ntmps142
  go_wp2_with fail
  refine HC.out.mono ?_
  rintro e w2 ⟨rfl, hp⟩
  go_wp2_with fail
  exact bodyPost_end (v := .tuple #[]) (by simp [results]) rfl ⟨rfl, hp⟩
theorem of_go_rm {w w9 : World} {d : Nat} {st : DkSt} {v : Value} (h : DkAt w d st v) (ok : DkOk st) (hfu : st.fuse ≤ 1000000000000) (hb9 : Below w.heap.size w w9) (bd bf bi p : Nat) (f : DF) (hf : st.fs[p]? = some f)
    (h0 : w9.cell? ⟨bd, 0, none⟩ = some (.pointer (some ⟨d, 0, none⟩))) (xd : bd ∉ dkS d v) (h1 : w9.cell? ⟨bf, 0, none⟩ = some (.func (.func 122) #[] #[.pointer (some ⟨bd, 0, none⟩)])) (h2 : w9.cell? ⟨bi, 0, none⟩ = some (.int .i64 p)) (y1 : w.heap.size ≤ bf) (y2 : w.heap.size ≤ bi) :
    Calls Tryz.prog 110 #[.pointer (some ⟨d, 0, none⟩), .func (.func 142) #[] #[.pointer (some ⟨bf, 0, none⟩), .pointer (some ⟨bi, 0, none⟩)]] w9 (APost d v (dDeed st (st.fs.eraseIdx p)) w) := by
  have h9 := h.below hb9
  by_cases hz : st.fuse = 0
  · have hq : dDeed st (st.fs.eraseIdx p) = ({ st with fuse := -1, dark := true }, 15) := by unfold dDeed; rw [if_pos hz]
    refine (deed_burnt h9 hz _ _).mono fun e w' hp => ?_
    show DPost _ _ _ _ _ _ _
    rw [hq]
    exact hp.from hb9
  · have hq : dDeed st (st.fs.eraseIdx p) = ({ st with fuse := if 0 < st.fuse then st.fuse - 1 else st.fuse, fs := st.fs.eraseIdx p }, 0) := by unfold dDeed; rw [if_neg hz]
    refine (deed_of h9 hz ok.fuse hfu bf bi (DOut d v { st with fuse := if 0 < st.fuse then st.fuse - 1 else st.fuse, fs := st.fs.eraseIdx p } w) ?_).mono ?_
    · intro w1 hd1 hc1
      have hcd : ChgS (dkS d v) w9 w1 := hc1.sub fun x hx => .inl (List.mem_singleton.1 hx ▸ List.mem_cons_self ..)
      refine (of1_remove (st := { st with fuse := if 0 < st.fuse then st.fuse - 1 else st.fuse }) hd1 (by have := ok.many; show st.fs.length ≤ _; omega) bd bf bi p f hf (hcd.cell h0 xd) xd (hcd.cell h1 (h.fresh y1)) (hcd.cell h2 (h.fresh y2))).mono ?_
      rintro e w' ⟨he, v', a1, a2, a3⟩
      refine ⟨he, v', a1, ((ChgS.of_below (S := dkS d v) hb9).trans hcd (fun x hx => .inl hx)).trans a2 (fun x hx => .inl hx), fun k hk => (a3 k hk).imp id fun h => ?_⟩
      exact Nat.le_trans (Nat.le_trans hb9.size hcd.size) h
    · rintro e w' ⟨rfl, v', a1, a2, a3⟩
      show DPost _ _ _ _ _ _ _
      rw [hq]
      exact ⟨v', rfl, a1, a2, a3⟩
set_option maxRecDepth 20000 in
set_option maxHeartbeats 2000000 in
theorem of_rm {w : World} {d : Nat} {st : DkSt} {v : Value} (h : DkAt w d st v) (ok : DkOk st) (hfu : st.fuse ≤ 1000000000000) (n : ByteArray) (bd : Nat) (h0 : w.cell? ⟨bd, 0, none⟩ = some (.pointer (some ⟨d, 0, none⟩))) (xd : bd ∉ dkS d v) :
    Calls Tryz.prog 106 #[.pointer (some ⟨d, 0, none⟩), .string n, .func (.func 121) #[] #[], .func (.func 122) #[] #[.pointer (some ⟨bd, 0, none⟩)]] w (APost d v (dRemove st n) w) := by
  obtain ⟨W1, hW1⟩ : ∃ x, w.alloc (.cells #[.func (.func 122) #[] #[.pointer (some ⟨bd, 0, none⟩)]] 47) = x := ⟨_, rfl⟩
  have hb1 : Below w.heap.size w W1 := by rw [← hW1]; exact below1 w _
  have k1 : W1.heap[w.heap.size]? = some (.cells #[.func (.func 122) #[] #[.pointer (some ⟨bd, 0, none⟩)]] 47) := by rw [← hW1]; exact alloc_at _ _
  have HC := Lib.hid (lit_any (h.below hb1))
  have hm := ok.many
  have HPL := Lib.hid (fun w2 (hb2 : Below w.heap.size w w2) => place_any v st.fs n w2 (h.below hb2).own ok.sorted (by omega))
  have HH := Lib.hid h
  have HGO := Lib.hid (fun w9 hb9 bf bi p f => of_go_rm (w9 := w9) h ok hfu hb9 bd bf bi p f)
  have e1 := blk_cell k1 0
  simp at e1
  have e0 := cell_later hb1 h0
  have hbd := block_lt_of_cell h0
  obtain ⟨q0, _, _, _, q4⟩ := (h.below hb1).cells
  obtain ⟨A0, c0, rfl⟩ := h.own.form
  have HB1 := Lib.hid hb1
  have HK := Lib.hid k1
  have HXD := Lib.hid xd
  have hdl : d < w.heap.size := blk_lt h.blk
  have s3 : d ≠ W1.heap.size := by have := hb1.size; omega
  obtain ⟨r, hr⟩ : ∃ r, dRemove st n = r := ⟨_, rfl⟩
  have HR := Lib.hid hr
  rw [hr]
  clear h ok hfu hb1 k1 hm h0 xd hdl hr hbd
  cases hd : st.dark with
  | true =>
    have hlE : litE st = 15 := by unfold litE; rw [if_pos hd]
    rw [hlE] at HC
    have HP : Hid (APost d (.slice A0 st.fs.length c0) r w (.returned (.int .i64 15)) W1) := by
      show DPost _ _ _ _ _ _ _
      rw [← HR.out]
      unfold dRemove
      rw [if_pos hd]
      exact ⟨_, rfl, HH.out.below HB1.out, ChgS.of_below HB1.out, NR.refl _ _⟩
    clear hlE
    go_enter Tryz.func106, Tryz.ntmps106
    go_upto_region 1 with fail
    clear hW1
    go_wp2_with fail
    refine HC.out.mono ?_
    rintro e w2 ⟨rfl, hw⟩
    subst hw
    go_wp2
    exact bodyPost_ret (v := .int .i64 15) (by simp [results]) rfl HP.out
  | false =>
    have hlE : litE st = 0 := by unfold litE; rw [if_neg (by simp [hd])]
    rw [hlE] at HC
    have HDK := Lib.hid hd
    clear hlE hd
    go_enter Tryz.func106, Tryz.ntmps106
    go_upto_region 1 with fail
    clear hW1
    go_wp2_with fail
    refine HC.out.mono ?_
    rintro e w2 ⟨rfl, hw⟩
    subst hw
    go_upto_region 4 with fail
    go_cut [10, 11] (fun a b wx => R4 w W1 (.int .i64 (plc st.fs n)) b (.bool (hasN st.fs n)) a wx)
    case first =>
      go_region_held3 (fun w' => w'.cell? ⟨d, 0, none⟩ = some (.slice A0 st.fs.length c0) ∧ w'.cell? ⟨d, 4, none⟩ = some (.func (.func 73) #[] #[]))
        (first | exact ⟨q0, q4⟩ | exact ⟨p3, p4⟩ | exact ⟨cell_later (below1 w2 _) p3, cell_later (below1 w2 _) p4⟩ | exact ⟨cell_pastO p3 s3, cell_pastO p4 s3⟩ | exact ⟨cell_later (below1 W1 _) q0, cell_later (below1 W1 _) q4⟩ | go_keep)
        (first
        | (go_at_call 73; refine (HPL.out _ HB1.out.drew).mono ?_; rintro e w2 ⟨rfl, hb⟩; have HB34 : Hid (Below W1.heap.size W1 w2) := Lib.hid (drewN_start (w := W1) (q := 1) hb); have p3 := cell_later HB34.out q0; have p4 := cell_later HB34.out q4; clear hb)
        | (go_at_call 73; refine (HPL.out _ (HB1.out.alloc HB1.out.size _).drew).mono ?_; rintro e w2 ⟨rfl, hb⟩; have r0 := blk_below (w := W1.alloc _) (drewN_start (q := 1) hb) (alloc_at W1 _); have r1 := blk_cell r0 0; have r2 := blk_free r0 0; have r3 := blk_lt r0; simp at r1; have HB34 : Hid (Below W1.heap.size W1 w2) := Lib.hid ((below1 W1 _).trans ((drewN_start (q := 1) hb).mono (by simp))); have p3 := cell_later HB34.out q0; have p4 := cell_later HB34.out q4; clear hb))
      all_goals (
        go_wp2_with fail
        go_meet
        first
        | with_reducible exact R4_a HB1.out HB34.out
        | with_reducible exact R4_s HB1.out HB34.out r0)
    case rest =>
      obtain ⟨bi, rfl, rfl, f1, f3, f4, f5⟩ := hcut
      have z0 := cell_later f4 q0
      have z1 := cell_later f4 e1
      have z2 := cell_later f4 e0
      have FZ := Lib.hid (Nat.le_trans HB1.out.size f5)
      have F3 := Lib.hid f3
      clear e0 e1 q0 q4 s3 HC HPL HK f4 f5 f3
      cases hh : hasN st.fs n with
      | false =>
        have HP : Hid (APost d (.slice A0 st.fs.length c0) r w (.returned (.int .i64 16)) wc) := by
          show DPost _ _ _ _ _ _ _
          rw [← HR.out]
          unfold dRemove
          rw [if_neg (by simp [HDK.out]), if_pos hh]
          exact ⟨_, rfl, HH.out.below F3.out, ChgS.of_below F3.out, NR.refl _ _⟩
        go_wp2
        exact bodyPost_ret (v := .int .i64 16) (by simp [results]) rfl HP.out
      | true =>
        obtain ⟨f, hf, _⟩ := hasN_at hh
        obtain ⟨g, c, u1, hv5, d0, d1, d2, hby, csg, hcsg⟩ := file_at (HH.out.below F3.out).own hf
        injection hv5 with hv51 hv52 hv53
        subst hv51
        have hpl := (List.getElem?_eq_some_iff.1 hf).1
        obtain ⟨p, hp⟩ : ∃ p, plc st.fs n = p := ⟨_, rfl⟩
        obtain ⟨M, hM⟩ : ∃ M, st.fs.length = M := ⟨_, rfl⟩
        have HMM := Lib.hid hM
        have HPP := Lib.hid hp
        rw [hp] at f1 hf d0 d1 d2 hpl
        rw [hM] at z0 hpl
        have hpm : (p : Int) < M := by omega
        have HF := Lib.hid hf
        obtain ⟨A1, c1, rfl, _, _⟩ := hby.reads.form
        have HAL := Lib.hid (fun w2 => always_any (.slice A1 f.bs.length c1) f.nm f.sf w2)
        have HHH := Lib.hid hh
        clear hv52 hv53 hby hcsg hpl hp hM hf hh
        go_upto_region 7 with fail
        go_region_held3 (fun w' => w'.cell? ⟨d, 0, none⟩ = some (.slice (some ⟨g, 0, none⟩) M c0) ∧ w'.cell? ⟨bi, 0, none⟩ = some (.int .i64 p) ∧ w'.cell? ⟨g, p * 3, none⟩ = some (.string f.nm) ∧ w'.cell? ⟨g, p * 3 + 1, none⟩ = some (.slice A1 f.bs.length c1) ∧ w'.cell? ⟨g, p * 3 + 2, none⟩ = some (.int .i64 f.sf))
          (first | exact ⟨z0, f1, d0, d1, d2⟩ | exact ⟨y0, y1, cell_later HB5.out d0, cell_later HB5.out d1, cell_later HB5.out d2⟩ | go_keep)
          (first | (go_at_call 121; refine (HAL.out _).mono ?_; rintro e w5 ⟨rfl, hb⟩; have hb5 : Below wc.heap.size wc w5 := drewN_start (w := wc) (q := 1) hb; have HB5 := Lib.hid hb5; have y0 := cell_later hb5 z0; have y1 := cell_later hb5 f1; clear hb hb5))
        all_goals (
          have HCC := Lib.hid (HGO.out _ (F3.out.trans (HB5.out.mono F3.out.size)) w.heap.size bi p f HF.out (cell_later HB5.out z2) HXD.out (cell_later HB5.out z1) y1 (Nat.le_refl _) FZ.out)
          go_wp2_with fail
          refine HCC.out.mono ?_
          rintro e w7 hp
          have hr : ∃ r, e = .returned (.int .i64 r) := by obtain ⟨v', h1, _⟩ := hp; exact ⟨_, h1⟩
          obtain ⟨r9, rfl⟩ := hr
          have HPQ := Lib.hid hp
          clear hp
          go_wp2_with fail
          refine bodyPost_ret (v := .int .i64 r9) (by simp [results]) rfl ?_
          have hq : r = dDeed st (st.fs.eraseIdx p) := by
            rw [← HR.out]
            unfold dRemove
            rw [if_neg (by simp [HDK.out]), if_neg (by simp [HHH.out]), HPP.out]
          rw [hq]
          exact HPQ.out)
set_option maxRecDepth 20000 in
set_option maxHeartbeats 1000000 in
theorem remove_any {w : World} {d : Nat} {st : DkSt} {v : Value} (h : DkAt w d st v) (ok : DkOk st) (hfu : st.fuse ≤ 1000000000000) (n : ByteArray) :
    Calls Tryz.prog 70 #[.pointer (some ⟨d, 0, none⟩), .string n] w (APost d v (dRemove st n) w) := by
  obtain ⟨W1, hW1⟩ : ∃ x, w.alloc (.cells #[.pointer (some ⟨d, 0, none⟩)] 24) = x := ⟨_, rfl⟩
  have hb1 : Below w.heap.size w W1 := by rw [← hW1]; exact below1 w _
  have k1 : W1.heap[w.heap.size]? = some (.cells #[.pointer (some ⟨d, 0, none⟩)] 24) := by rw [← hW1]; exact alloc_at _ _
  have e1 := blk_cell k1 0
  simp at e1
  have HC := Lib.hid (of_rm (h.below hb1) ok hfu n w.heap.size e1 (h.fresh (Nat.le_refl _)))
  have HB1 := Lib.hid hb1
  clear h ok hfu hb1 k1
  go_enter Tryz.func70, Tryz.ntmps70
  go_upto_region 1 with fail
  clear hW1
  go_wp2_with fail
  refine HC.out.mono ?_
  rintro e w2 hp
  have hr : ∃ r, e = .returned (.int .i64 r) := by obtain ⟨v', h1, _⟩ := hp; exact ⟨_, h1⟩
  obtain ⟨r9, rfl⟩ := hr
  have HP : Hid (APost d v (dRemove st n) w (.returned (.int .i64 r9)) w2) := DPost.from HB1.out hp
  clear hp
  go_wp2_with fail
  exact bodyPost_ret (v := .int .i64 r9) (by simp [results]) rfl HP.out
end Go.Proofs.YthehpafkaefohaaGreatDoor

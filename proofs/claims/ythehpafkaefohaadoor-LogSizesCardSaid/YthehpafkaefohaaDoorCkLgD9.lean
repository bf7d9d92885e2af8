/- Walks: Append, where a name may be one. Conditions: sizes a machine can have. -/
import Derived.Test.YthehpafkaefohaaDoorCkM19
import Derived.BigGuard
namespace Go.Proofs.YthehpafkaefohaaDoor
open Go.RowKit
set_option maxRecDepth 20000 in
set_option maxHeartbeats 2000000 in
theorem append_named {w : World} {d : Nat} {st : DkSt} {v : Value} (h : DkAt w d st v) (ok : DkOk st) (hfu : st.fuse ≤ 1000000000000) (n : ByteArray) (hns : n.size ≤ 1000000) (u : Value) (bs : List UInt8) (hr : RdB w u bs) (hrn : ∀ k, Value.readBlock u = some k → k ∉ dkS d v) (hl : bs.length ≤ 1000000000) (hd : st.dark = false) (hn : namedB n = true) :
    Calls Tryd.prog 27 #[.pointer (some ⟨d, 0, none⟩), .string n, u] w (APost d v (dAppend st n bs) w) := by
  have hlE : litE st = 0 := by unfold litE; rw [if_neg (by simp [hd])]
  obtain ⟨W3, hW3⟩ : ∃ x, (((w.alloc (.cells #[.pointer (some ⟨d, 0, none⟩)] 24)).alloc (.cells #[.string n] 9)).alloc (.cells #[u] 43)) = x := ⟨_, rfl⟩
  have hb3 : Below w.heap.size w W3 := by rw [← hW3]; exact below3 w _ _ _
  have HL := lit_any (h.below hb3)
  rw [hlE] at HL
  have HC := Lib.hid HL
  have HN := Lib.hid (named_any n W3 (by omega))
  rw [hn] at HN
  have hm := ok.many
  have HPL := Lib.hid (fun w2 (hb2 : Below w.heap.size w w2) => place_any v st.fs n w2 (h.below hb2).own ok.sorted (by omega))
  have HU := Lib.hid (fun w2 (hb2 : Below w.heap.size w w2) => used_any (h.below hb2) (by have := ok.used; have := ok.room; omega) (by omega))
  have HGO := Lib.hid (fun w9 hb9 b1 b2 b3 b4 b5 => append_go (w9 := w9) h ok hfu n u bs hr hrn hl hb9 b1 b2 b3 b4 b5)
  have k1 : W3.heap[w.heap.size]? = some (.cells #[.pointer (some ⟨d, 0, none⟩)] 24) := by rw [← hW3]; exact blk_alloc (blk_alloc (alloc_at _ _) _) _
  have k2 : W3.heap[w.heap.size + 1]? = some (.cells #[.string n] 9) := by
    rw [← hW3]
    have := alloc_at (w.alloc (.cells #[.pointer (some ⟨d, 0, none⟩)] 24)) (.cells #[.string n] 9)
    rw [show (w.alloc (.cells #[.pointer (some ⟨d, 0, none⟩)] 24)).heap.size = w.heap.size + 1 by simp] at this
    exact blk_alloc this _
  have k3 : W3.heap[w.heap.size + 1 + 1]? = some (.cells #[u] 43) := by
    rw [← hW3]
    have := alloc_at ((w.alloc (.cells #[.pointer (some ⟨d, 0, none⟩)] 24)).alloc (.cells #[.string n] 9)) (.cells #[u] 43)
    rw [show ((w.alloc (.cells #[.pointer (some ⟨d, 0, none⟩)] 24)).alloc (.cells #[.string n] 9)).heap.size = w.heap.size + 1 + 1 by simp] at this
    exact this
  obtain ⟨q0, q1, _, _, q4⟩ := (h.below hb3).cells
  obtain ⟨A, c, rfl, _, _⟩ := hr.form
  obtain ⟨A0, c0, rfl⟩ := h.own.form
  have e1 := blk_cell k1 0
  have e2 := blk_cell k2 0
  have e3 := blk_cell k3 0
  simp at e1 e2 e3
  have HB3 := Lib.hid hb3
  have HK := Lib.hid (And.intro k1 (And.intro k2 k3))
  have HH := Lib.hid h
  have HUB : Hid ((usedF st.fs : Int) ≤ 16777216) := Int.le_trans ok.used ok.room
  have HDK := Lib.hid hd
  have HNB := Lib.hid hn
  have hrl := ok.room
  clear h ok hfu hns hr hrn hd hn HL hlE hb3 k1 k2 k3 hm
  go_enter Tryd.func27, Tryd.ntmps27
  go_upto_region 1 with fail
  clear hW3
  go_wp2_with fail
  refine HC.out.mono ?_
  rintro e w2 ⟨rfl, hw⟩
  subst hw
  go_wp2_with fail
  refine HN.out.mono ?_
  rintro e w2 ⟨rfl, hw⟩
  subst hw
  have hsz3 : w.heap.size + 1 + 1 < W3.heap.size := blk_lt HK.out.2.2
  have hdl : d < w.heap.size := blk_lt HH.out.blk
  have s1 : w.heap.size ≠ W3.heap.size := by omega
  have s2 : w.heap.size + 1 ≠ W3.heap.size := by omega
  have s3 : d ≠ W3.heap.size := by omega
  have t1 : w.heap.size ≠ W3.heap.size + 1 := by omega
  have t2 : w.heap.size + 1 ≠ W3.heap.size + 1 := by omega
  have t3 : d ≠ W3.heap.size + 1 := by omega
  go_upto_region 6 with fail
  go_cut [8, 9] (fun a b wx => R6 w W3 (.int .i64 (plc st.fs n)) (.bool (hasN st.fs n)) a b wx)
  case first =>
    go_region_held3 (fun w' => w'.cell? ⟨w.heap.size, 0, none⟩ = some (.pointer (some ⟨d, 0, none⟩)) ∧ w'.cell? ⟨w.heap.size + 1, 0, none⟩ = some (.string n) ∧ w'.cell? ⟨d, 0, none⟩ = some (.slice A0 st.fs.length c0) ∧ w'.cell? ⟨d, 4, none⟩ = some (.func (.func 17) #[] #[]))
      (first | exact ⟨e1, e2, q0, q4⟩ | exact ⟨p1, p2, p3, p4⟩ | exact ⟨cell_later (below1 w2 _) (p1), cell_later (below1 w2 _) (p2), cell_later (below1 w2 _) (p3), cell_later (below1 w2 _) (p4)⟩ | exact ⟨cell_later (below2 w2 _ _) (p1), cell_later (below2 w2 _ _) (p2), cell_later (below2 w2 _ _) (p3), cell_later (below2 w2 _ _) (p4)⟩ | exact ⟨cell_pastO (p1) s1, cell_pastO (p2) s2, cell_pastO (p3) s3, cell_pastO (p4) s3⟩ | exact ⟨cell_pastO (p1) t1, cell_pastO (p2) t2, cell_pastO (p3) t3, cell_pastO (p4) t3⟩ | exact ⟨cell_pastO (cell_pastO (p1) s1) t1, cell_pastO (cell_pastO (p2) s2) t2, cell_pastO (cell_pastO (p3) s3) t3, cell_pastO (cell_pastO (p4) s3) t3⟩ | exact ⟨cell_pastO (cell_pastO (p1) t1) s1, cell_pastO (cell_pastO (p2) t2) s2, cell_pastO (cell_pastO (p3) t3) s3, cell_pastO (cell_pastO (p4) t3) s3⟩ | exact ⟨cell_later (below1 (w2.setCell _ _) _) (cell_pastO (p1) s1), cell_later (below1 (w2.setCell _ _) _) (cell_pastO (p2) s2), cell_later (below1 (w2.setCell _ _) _) (cell_pastO (p3) s3), cell_later (below1 (w2.setCell _ _) _) (cell_pastO (p4) s3)⟩ | exact ⟨cell_pastO (cell_later (below1 w2 _) (p1)) s1, cell_pastO (cell_later (below1 w2 _) (p2)) s2, cell_pastO (cell_later (below1 w2 _) (p3)) s3, cell_pastO (cell_later (below1 w2 _) (p4)) s3⟩ | exact ⟨cell_later (below1 W3 _) (e1), cell_later (below1 W3 _) (e2), cell_later (below1 W3 _) (q0), cell_later (below1 W3 _) (q4)⟩ | exact ⟨cell_later (below2 W3 _ _) (e1), cell_later (below2 W3 _ _) (e2), cell_later (below2 W3 _ _) (q0), cell_later (below2 W3 _ _) (q4)⟩ | go_keep)
      (first
      | (go_at_call 17; refine (HPL.out _ HB3.out.drew).mono ?_; rintro e w2 ⟨rfl, hb⟩; have HB34 : Hid (Below W3.heap.size W3 w2) := Lib.hid (drewN_start (w := W3) (q := 1) hb); have p1 := cell_later HB34.out e1; have p2 := cell_later HB34.out e2; have p3 := cell_later HB34.out q0; have p4 := cell_later HB34.out q4; clear hb)
      | (go_at_call 17; refine (HPL.out _ (HB3.out.alloc HB3.out.size _).drew).mono ?_; rintro e w2 ⟨rfl, hb⟩; have r0 := blk_below (w := W3.alloc _) (drewN_start (q := 1) hb) (alloc_at W3 _); have r1 := blk_cell r0 0; have r2 := blk_free r0 0; have r3 := blk_lt r0; simp at r1; have HB34 : Hid (Below W3.heap.size W3 w2) := Lib.hid ((below1 W3 _).trans ((drewN_start (q := 1) hb).mono (by simp))); have p1 := cell_later HB34.out e1; have p2 := cell_later HB34.out e2; have p3 := cell_later HB34.out q0; have p4 := cell_later HB34.out q4; clear hb)
      | (go_at_call 17; refine (HPL.out _ ((HB3.out.alloc HB3.out.size _).alloc (by have := HB3.out.size; simp; omega) _).drew).mono ?_; rintro e w2 ⟨rfl, hb⟩; have r0 := blk_below (w := (W3.alloc _).alloc _) (drewN_start (q := 1) hb) (blk_alloc (alloc_at W3 _) _); have r1 := blk_cell r0 0; have r2 := blk_free r0 0; have r4 := blk_below (w := (W3.alloc _).alloc _) (drewN_start (q := 1) hb) (alloc_at (W3.alloc _) _); rw [show ∀ o, (W3.alloc o).heap.size = W3.heap.size + 1 from fun o => by simp] at r4; have r5 := blk_cell r4 0; have r6 := blk_free r4 0; have r3 := blk_lt r4; simp at r1 r5; have HB34 : Hid (Below W3.heap.size W3 w2) := Lib.hid ((below2 W3 _ _).trans ((drewN_start (q := 1) hb).mono (by simp; omega))); have p1 := cell_later HB34.out e1; have p2 := cell_later HB34.out e2; have p3 := cell_later HB34.out q0; have p4 := cell_later HB34.out q4; clear hb))
    all_goals (
      go_wp2_with fail
      go_meet
      first
      | with_reducible exact R6_aa HB3.out HB34.out
      | with_reducible exact R6_bb HB3.out HB34.out
      | with_reducible exact R6_sa HB3.out HB34.out r0
      | with_reducible exact R6_sb HB3.out HB34.out r0
      | with_reducible exact R6_sc HB3.out HB34.out r0
      | with_reducible exact R6_sd HB3.out HB34.out r0
      | with_reducible exact R6_ss HB3.out HB34.out r0 r4
      | with_reducible exact R6_st HB3.out HB34.out r0 r4)
  case rest =>
    obtain ⟨bi, bo, rfl, rfl, f1, f2, f3, f4, f5, f6⟩ := hcut
    have F3 := Lib.hid f3
    have z1 := cell_later f4 e1
    have z2 := cell_later f4 e2
    have z3 := cell_later f4 e3
    have z4 := cell_later f4 q0
    have z5 := cell_later f4 q1
    have hsz := HB3.out.size
    have FI : Hid (w.heap.size ≤ bi ∧ w.heap.size ≤ bo) := ⟨Nat.le_trans hsz f5, Nat.le_trans hsz f6⟩
    obtain ⟨U, hU⟩ : ∃ U, usedF st.fs = U := ⟨_, rfl⟩
    obtain ⟨L, hL⟩ : ∃ L, bs.length = L := ⟨_, rfl⟩
    obtain ⟨M, hM⟩ : ∃ M, st.fs.length = M := ⟨_, rfl⟩
    have HUU := Lib.hid hU
    have HLL := Lib.hid hL
    have HMM := Lib.hid hM
    have hub : (U : Int) ≤ 16777216 := by rw [← hU]; exact HUB.out
    rw [hU] at HU
    rw [hL] at z3 hl
    rw [hM] at z4
    have ks : ∀ (w' : World), Below wc.heap.size wc w' → w'.cell? ⟨bi, 0, none⟩ = some (.int .i64 (plc st.fs n)) ∧ w'.cell? ⟨w.heap.size + 1, 0, none⟩ = some (.string n) := fun w' hb => ⟨cell_later hb f1, cell_later hb z2⟩
    have HKS := Lib.hid ks
    clear f1 f4 f5 f6 z2 hsz hU hL hM ks HC HN HPL e1 e2 e3 q0 q1 q4 s1 s2 s3 t1 t2 t3 hsz3 hdl HK
    have hw : IntKind.i64.wrap ((U : Int) + (L : Int)) = (U : Int) + L := by rw [IntKind.wrap_i64]; omega
    go_upto_region 7 with fail
    by_cases c1 : (U : Int) + L ≤ st.room
    · have C1 := Lib.hid c1
      have cb : decide (st.room < (U : Int) + (L : Int)) = false := decide_eq_false (by omega)
      cases hh : hasN st.fs n with
      | true =>
        rw [hh] at f2
        refine wp_region_all (fun w' => w'.cell? ⟨w.heap.size, 0, none⟩ = some (.pointer (some ⟨d, 0, none⟩)) ∧ w'.cell? ⟨bo, 0, none⟩ = some (.bool true) ∧ w'.cell? ⟨w.heap.size + 1 + 1, 0, none⟩ = some (.slice A L c) ∧ w'.cell? ⟨d, 0, none⟩ = some (.slice A0 M c0) ∧ w'.cell? ⟨d, 1, none⟩ = some (.int .i64 st.room)) 22 (by kernel_rfl) rfl ⟨z1, f2, z3, z4, z5⟩ (fun hHeld => ?_)
        refine takeL (i := 0) (v := ?_) rfl (by kernel_rfl) (by kernel_rfl) (by kernel_rfl) (fun _ _ _ h => h) (.inl ⟨by rfl, ?_⟩) (by assumption) ?_
        rotate_left
        · (intro w hSw; (try dsimp only at hSw); go_simp; (first | done | with_reducible rfl))
        try simp only [Act.put, List.setIfInBounds_toArray, List.set_cons_zero, List.set_cons_succ]
        refine takeL (i := 2) (v := ?_) rfl (by kernel_rfl) (by kernel_rfl) (by kernel_rfl) (fun _ _ _ h => h) (.inl ⟨by rfl, ?_⟩) (by assumption) ?_
        rotate_left
        · (intro w hSw; (try dsimp only at hSw); go_simp; (first | done | with_reducible rfl))
        try simp only [Act.put, List.setIfInBounds_toArray, List.set_cons_zero, List.set_cons_succ]
        refine takeL (i := 3) (v := ?_) rfl (by kernel_rfl) (by kernel_rfl) (by kernel_rfl) (fun _ _ _ h => h) (.inl ⟨by rfl, ?_⟩) (by assumption) ?_
        rotate_left
        · (intro w hSw; (try dsimp only at hSw); go_simp; (first | done | with_reducible rfl))
        try simp only [Act.put, List.setIfInBounds_toArray, List.set_cons_zero, List.set_cons_succ]
        refine takeL (i := 5) (v := ?_) rfl (by kernel_rfl) (by kernel_rfl) (by kernel_rfl) (fun _ _ _ h => h) (.inl ⟨by rfl, ?_⟩) (by assumption) ?_
        rotate_left
        · (intro w hSw; (try dsimp only at hSw); go_simp; (first | done | with_reducible rfl))
        try simp only [Act.put, List.setIfInBounds_toArray, List.set_cons_zero, List.set_cons_succ]
        refine takeL (i := 6) (v := ?_) rfl (by kernel_rfl) (by kernel_rfl) (by kernel_rfl) (fun _ _ _ h => h) (.inl ⟨by rfl, ?_⟩) (by assumption) ?_
        rotate_left
        · (intro w hSw; (try dsimp only at hSw); go_simp; (first | done | with_reducible rfl))
        try simp only [Act.put, List.setIfInBounds_toArray, List.set_cons_zero, List.set_cons_succ]
        refine takeL (i := 7) (v := ?_) rfl (by kernel_rfl) (by kernel_rfl) (by kernel_rfl) (fun _ _ _ h => h) (.inl ⟨by rfl, ?_⟩) (by assumption) ?_
        rotate_left
        · (intro w hSw; (try dsimp only at hSw); go_simp; (first | done | with_reducible rfl))
        try simp only [Act.put, List.setIfInBounds_toArray, List.set_cons_zero, List.set_cons_succ]
        refine takeL (i := 8) (v := ?_) rfl (by kernel_rfl) (by kernel_rfl) (by kernel_rfl) (fun _ _ _ h => h) (.inl ⟨by rfl, ?_⟩) (by assumption) ?_
        rotate_left
        · (intro w hSw; (try dsimp only at hSw); go_simp; (first | done | with_reducible rfl))
        try simp only [Act.put, List.setIfInBounds_toArray, List.set_cons_zero, List.set_cons_succ]
        refine stepL (i := 1) rfl (by kernel_rfl) (fun K hK => ?_)
        go_simp
        go_at_call 51
        refine (HU.out _ F3.out.drew).mono ?_
        rintro e w5 ⟨rfl, hb⟩
        have hb5 : Below wc.heap.size wc w5 := drewN_start (w := wc) (q := 1) hb
        have HB5 := Lib.hid hb5
        have y1 := cell_later hb5 z1
        have y2 := cell_later hb5 f2
        have y3 := cell_later hb5 z3
        have y4 := cell_later hb5 z4
        have y5 := cell_later hb5 z5
        clear hb hb5
        go_wp2_with fail
        refine hK.out _ _ ⟨y1, y2, y3, y4, y5⟩ (fun hHeld => ?_)
        clear hK K
        try simp only [Act.put, List.setIfInBounds_toArray, List.set_cons_zero, List.set_cons_succ]
        refine takeL (i := 4) (v := ?_) rfl (by kernel_rfl) (by kernel_rfl) (by kernel_rfl) (fun _ _ _ h => h) (.inl ⟨by rfl, ?_⟩) (by assumption) ?_
        rotate_left
        · (intro w hSw; (try dsimp only at hSw); go_simp; (first | done | with_reducible rfl))
        try simp only [Act.put, List.setIfInBounds_toArray, List.set_cons_zero, List.set_cons_succ]
        refine takeL (i := 9) (v := ?_) rfl (by kernel_rfl) (by kernel_rfl) (by kernel_rfl) (fun _ _ _ h => h) (.inl ⟨by rfl, ?_⟩) (by assumption) ?_
        rotate_left
        · (intro w hSw; (try dsimp only at hSw); go_simp; (first | done | with_reducible rfl))
        try simp only [Act.put, List.setIfInBounds_toArray, List.set_cons_zero, List.set_cons_succ]
        refine takeL (i := 10) (v := ?_) rfl (by kernel_rfl) (by kernel_rfl) (by kernel_rfl) (fun _ _ _ h => h) (.inl ⟨by rfl, ?_⟩) (by assumption) ?_
        rotate_left
        · (intro w hSw; (try dsimp only at hSw); go_simp; (first | done | with_reducible rfl))
        try simp only [Act.put, List.setIfInBounds_toArray, List.set_cons_zero, List.set_cons_succ]
        refine takeL (i := 11) (v := ?_) rfl (by kernel_rfl) (by kernel_rfl) (by kernel_rfl) (fun _ _ _ h => h) (.inl ⟨by rfl, ?_⟩) (by assumption) ?_
        rotate_left
        · (intro w hSw; (try dsimp only at hSw); go_simp; (first | done | with_reducible rfl))
        try simp only [Act.put, List.setIfInBounds_toArray, List.set_cons_zero, List.set_cons_succ]
        refine takeL (i := 12) (v := ?_) rfl (by kernel_rfl) (by kernel_rfl) (by kernel_rfl) (fun _ _ _ h => h) (.inl ⟨by rfl, ?_⟩) (by assumption) ?_
        rotate_left
        · (intro w hSw; (try dsimp only at hSw); go_simp; (first | done | with_reducible rfl))
        try simp only [Act.put, List.setIfInBounds_toArray, List.set_cons_zero, List.set_cons_succ]
        refine takeL (i := 13) (v := ?_) rfl (by kernel_rfl) (by kernel_rfl) (by kernel_rfl) (fun _ _ _ h => h) (.inl ⟨by rfl, ?_⟩) (by assumption) ?_
        rotate_left
        · (intro w hSw; (try dsimp only at hSw); go_simp; (first | done | with_reducible rfl))
        try simp only [Act.put, List.setIfInBounds_toArray, List.set_cons_zero, List.set_cons_succ]
        refine takeL (i := 14) (v := undef) rfl (by kernel_rfl) (by kernel_rfl) (by kernel_rfl) (fun _ _ _ h => h) (.inr ⟨by rfl, rfl⟩) (by assumption) ?_
        try simp only [Act.put, List.setIfInBounds_toArray, List.set_cons_zero, List.set_cons_succ]
        refine takeL (i := 15) (v := undef) rfl (by kernel_rfl) (by kernel_rfl) (by kernel_rfl) (fun _ _ _ h => h) (.inr ⟨by rfl, rfl⟩) (by assumption) ?_
        try simp only [Act.put, List.setIfInBounds_toArray, List.set_cons_zero, List.set_cons_succ]
        refine takeL (i := 16) (v := undef) rfl (by kernel_rfl) (by kernel_rfl) (by kernel_rfl) (fun _ _ _ h => h) (.inr ⟨by rfl, rfl⟩) (by assumption) ?_
        try simp only [Act.put, List.setIfInBounds_toArray, List.set_cons_zero, List.set_cons_succ]
        refine takeL (i := 17) (v := undef) rfl (by kernel_rfl) (by kernel_rfl) (by kernel_rfl) (fun _ _ _ h => h) (.inr ⟨by rfl, rfl⟩) (by assumption) ?_
        try simp only [Act.put, List.setIfInBounds_toArray, List.set_cons_zero, List.set_cons_succ]
        refine takeL (i := 18) (v := undef) rfl (by kernel_rfl) (by kernel_rfl) (by kernel_rfl) (fun _ _ _ h => h) (.inr ⟨by rfl, rfl⟩) (by assumption) ?_
        try simp only [Act.put, List.setIfInBounds_toArray, List.set_cons_zero, List.set_cons_succ]
        refine takeL (i := 19) (v := undef) rfl (by kernel_rfl) (by kernel_rfl) (by kernel_rfl) (fun _ _ _ h => h) (.inr ⟨by rfl, rfl⟩) (by assumption) ?_
        try simp only [Act.put, List.setIfInBounds_toArray, List.set_cons_zero, List.set_cons_succ]
        refine takeL (i := 20) (v := ?_) rfl (by kernel_rfl) (by kernel_rfl) (by kernel_rfl) (fun _ _ _ h => h) (.inl ⟨by rfl, ?_⟩) (by assumption) ?_
        rotate_left
        · (intro w hSw; (try dsimp only at hSw); go_simp; (first | done | with_reducible rfl))
        try simp only [Act.put, List.setIfInBounds_toArray, List.set_cons_zero, List.set_cons_succ]
        refine takeL (i := 21) (v := ?_) rfl (by kernel_rfl) (by kernel_rfl) (by kernel_rfl) (fun _ _ _ h => h) (.inl ⟨by rfl, ?_⟩) (by assumption) ?_
        rotate_left
        · (intro w hSw; (try dsimp only at hSw); go_simp; (first | done | with_reducible rfl))
        try simp only [Act.put, List.setIfInBounds_toArray, List.set_cons_zero, List.set_cons_succ]
        refine wpAnyH_done (by kernel_rfl) ?_ _
        clear hHeld
        go_upto_region 9 with fail
        have hq : dAppend st n bs = dDeed st (putF st.fs n bs) := by
          unfold dAppend
          rw [if_neg (by simp [HDK.out]), if_neg (by simp [HNB.out]), if_neg (by rw [HUU.out, HLL.out, HMM.out]; (have := C1.out; rintro (h | ⟨h, h7⟩); omega; rw [hh] at h; cases h))]
        have HQ := Lib.hid hq
        have hb9 := F3.out.trans (HB5.out.mono F3.out.size)
        have hk := HKS.out _ HB5.out
        have HCC := Lib.hid (HGO.out _ hb9 bo w.heap.size bi (w.heap.size + 1) (w.heap.size + 1 + 1) (by rw [hh]; exact y2) y1 hk.1 hk.2 (by rw [HLL.out]; exact y3) FI.out.2 (Nat.le_refl _) FI.out.1 (Nat.le_succ _) (by omega))
        clear hq hb9 hk
        go_wp2_with fail
        refine HCC.out.mono ?_
        rintro e w7 hp
        have hr : ∃ r, e = .returned (.int .i64 r) := by obtain ⟨v', h1, _⟩ := hp; exact ⟨_, h1⟩
        obtain ⟨r, rfl⟩ := hr
        have HPP := Lib.hid hp
        clear hp
        go_wp2_with fail
        refine bodyPost_ret (v := .int .i64 r) (by simp [results]) rfl ?_
        rw [HQ.out]
        exact HPP.out
      | false =>
        rw [hh] at f2
        by_cases c2 : M = 200
        · subst c2
          refine wp_region_all (fun w' => w'.cell? ⟨w.heap.size, 0, none⟩ = some (.pointer (some ⟨d, 0, none⟩)) ∧ w'.cell? ⟨bo, 0, none⟩ = some (.bool false) ∧ w'.cell? ⟨w.heap.size + 1 + 1, 0, none⟩ = some (.slice A L c) ∧ w'.cell? ⟨d, 0, none⟩ = some (.slice A0 200 c0) ∧ w'.cell? ⟨d, 1, none⟩ = some (.int .i64 st.room)) 22 (by kernel_rfl) rfl ⟨z1, f2, z3, z4, z5⟩ (fun hHeld => ?_)
          refine takeL (i := 0) (v := ?_) rfl (by kernel_rfl) (by kernel_rfl) (by kernel_rfl) (fun _ _ _ h => h) (.inl ⟨by rfl, ?_⟩) (by assumption) ?_
          rotate_left
          · (intro w hSw; (try dsimp only at hSw); go_simp; (first | done | with_reducible rfl))
          try simp only [Act.put, List.setIfInBounds_toArray, List.set_cons_zero, List.set_cons_succ]
          refine takeL (i := 2) (v := ?_) rfl (by kernel_rfl) (by kernel_rfl) (by kernel_rfl) (fun _ _ _ h => h) (.inl ⟨by rfl, ?_⟩) (by assumption) ?_
          rotate_left
          · (intro w hSw; (try dsimp only at hSw); go_simp; (first | done | with_reducible rfl))
          try simp only [Act.put, List.setIfInBounds_toArray, List.set_cons_zero, List.set_cons_succ]
          refine takeL (i := 3) (v := ?_) rfl (by kernel_rfl) (by kernel_rfl) (by kernel_rfl) (fun _ _ _ h => h) (.inl ⟨by rfl, ?_⟩) (by assumption) ?_
          rotate_left
          · (intro w hSw; (try dsimp only at hSw); go_simp; (first | done | with_reducible rfl))
          try simp only [Act.put, List.setIfInBounds_toArray, List.set_cons_zero, List.set_cons_succ]
          refine takeL (i := 5) (v := ?_) rfl (by kernel_rfl) (by kernel_rfl) (by kernel_rfl) (fun _ _ _ h => h) (.inl ⟨by rfl, ?_⟩) (by assumption) ?_
          rotate_left
          · (intro w hSw; (try dsimp only at hSw); go_simp; (first | done | with_reducible rfl))
          try simp only [Act.put, List.setIfInBounds_toArray, List.set_cons_zero, List.set_cons_succ]
          refine takeL (i := 6) (v := ?_) rfl (by kernel_rfl) (by kernel_rfl) (by kernel_rfl) (fun _ _ _ h => h) (.inl ⟨by rfl, ?_⟩) (by assumption) ?_
          rotate_left
          · (intro w hSw; (try dsimp only at hSw); go_simp; (first | done | with_reducible rfl))
          try simp only [Act.put, List.setIfInBounds_toArray, List.set_cons_zero, List.set_cons_succ]
          refine takeL (i := 7) (v := ?_) rfl (by kernel_rfl) (by kernel_rfl) (by kernel_rfl) (fun _ _ _ h => h) (.inl ⟨by rfl, ?_⟩) (by assumption) ?_
          rotate_left
          · (intro w hSw; (try dsimp only at hSw); go_simp; (first | done | with_reducible rfl))
          try simp only [Act.put, List.setIfInBounds_toArray, List.set_cons_zero, List.set_cons_succ]
          refine takeL (i := 8) (v := ?_) rfl (by kernel_rfl) (by kernel_rfl) (by kernel_rfl) (fun _ _ _ h => h) (.inl ⟨by rfl, ?_⟩) (by assumption) ?_
          rotate_left
          · (intro w hSw; (try dsimp only at hSw); go_simp; (first | done | with_reducible rfl))
          try simp only [Act.put, List.setIfInBounds_toArray, List.set_cons_zero, List.set_cons_succ]
          refine stepL (i := 1) rfl (by kernel_rfl) (fun K hK => ?_)
          go_simp
          go_at_call 51
          refine (HU.out _ F3.out.drew).mono ?_
          rintro e w5 ⟨rfl, hb⟩
          have hb5 : Below wc.heap.size wc w5 := drewN_start (w := wc) (q := 1) hb
          have HB5 := Lib.hid hb5
          have y1 := cell_later hb5 z1
          have y2 := cell_later hb5 f2
          have y3 := cell_later hb5 z3
          have y4 := cell_later hb5 z4
          have y5 := cell_later hb5 z5
          clear hb hb5
          go_wp2_with fail
          refine hK.out _ _ ⟨y1, y2, y3, y4, y5⟩ (fun hHeld => ?_)
          clear hK K
          try simp only [Act.put, List.setIfInBounds_toArray, List.set_cons_zero, List.set_cons_succ]
          refine takeL (i := 4) (v := ?_) rfl (by kernel_rfl) (by kernel_rfl) (by kernel_rfl) (fun _ _ _ h => h) (.inl ⟨by rfl, ?_⟩) (by assumption) ?_
          rotate_left
          · (intro w hSw; (try dsimp only at hSw); go_simp; (first | done | with_reducible rfl))
          try simp only [Act.put, List.setIfInBounds_toArray, List.set_cons_zero, List.set_cons_succ]
          refine takeL (i := 9) (v := ?_) rfl (by kernel_rfl) (by kernel_rfl) (by kernel_rfl) (fun _ _ _ h => h) (.inl ⟨by rfl, ?_⟩) (by assumption) ?_
          rotate_left
          · (intro w hSw; (try dsimp only at hSw); go_simp; (first | done | with_reducible rfl))
          try simp only [Act.put, List.setIfInBounds_toArray, List.set_cons_zero, List.set_cons_succ]
          refine takeL (i := 10) (v := ?_) rfl (by kernel_rfl) (by kernel_rfl) (by kernel_rfl) (fun _ _ _ h => h) (.inl ⟨by rfl, ?_⟩) (by assumption) ?_
          rotate_left
          · (intro w hSw; (try dsimp only at hSw); go_simp; (first | done | with_reducible rfl))
          try simp only [Act.put, List.setIfInBounds_toArray, List.set_cons_zero, List.set_cons_succ]
          refine takeL (i := 11) (v := ?_) rfl (by kernel_rfl) (by kernel_rfl) (by kernel_rfl) (fun _ _ _ h => h) (.inl ⟨by rfl, ?_⟩) (by assumption) ?_
          rotate_left
          · (intro w hSw; (try dsimp only at hSw); go_simp; (first | done | with_reducible rfl))
          try simp only [Act.put, List.setIfInBounds_toArray, List.set_cons_zero, List.set_cons_succ]
          refine takeL (i := 12) (v := ?_) rfl (by kernel_rfl) (by kernel_rfl) (by kernel_rfl) (fun _ _ _ h => h) (.inl ⟨by rfl, ?_⟩) (by assumption) ?_
          rotate_left
          · (intro w hSw; (try dsimp only at hSw); go_simp; (first | done | with_reducible rfl))
          try simp only [Act.put, List.setIfInBounds_toArray, List.set_cons_zero, List.set_cons_succ]
          refine takeL (i := 13) (v := ?_) rfl (by kernel_rfl) (by kernel_rfl) (by kernel_rfl) (fun _ _ _ h => h) (.inl ⟨by rfl, ?_⟩) (by assumption) ?_
          rotate_left
          · (intro w hSw; (try dsimp only at hSw); go_simp; (first | done | with_reducible rfl))
          try simp only [Act.put, List.setIfInBounds_toArray, List.set_cons_zero, List.set_cons_succ]
          refine takeL (i := 14) (v := ?_) rfl (by kernel_rfl) (by kernel_rfl) (by kernel_rfl) (fun _ _ _ h => h) (.inl ⟨by rfl, ?_⟩) (by assumption) ?_
          rotate_left
          · (intro w hSw; (try dsimp only at hSw); go_simp; (first | done | with_reducible rfl))
          try simp only [Act.put, List.setIfInBounds_toArray, List.set_cons_zero, List.set_cons_succ]
          refine takeL (i := 15) (v := ?_) rfl (by kernel_rfl) (by kernel_rfl) (by kernel_rfl) (fun _ _ _ h => h) (.inl ⟨by rfl, ?_⟩) (by assumption) ?_
          rotate_left
          · (intro w hSw; (try dsimp only at hSw); go_simp; (first | done | with_reducible rfl))
          try simp only [Act.put, List.setIfInBounds_toArray, List.set_cons_zero, List.set_cons_succ]
          refine takeL (i := 16) (v := ?_) rfl (by kernel_rfl) (by kernel_rfl) (by kernel_rfl) (fun _ _ _ h => h) (.inl ⟨by rfl, ?_⟩) (by assumption) ?_
          rotate_left
          · (intro w hSw; (try dsimp only at hSw); go_simp; (first | done | with_reducible rfl))
          try simp only [Act.put, List.setIfInBounds_toArray, List.set_cons_zero, List.set_cons_succ]
          refine takeL (i := 17) (v := ?_) rfl (by kernel_rfl) (by kernel_rfl) (by kernel_rfl) (fun _ _ _ h => h) (.inl ⟨by rfl, ?_⟩) (by assumption) ?_
          rotate_left
          · (intro w hSw; (try dsimp only at hSw); go_simp; (first | done | with_reducible rfl))
          try simp only [Act.put, List.setIfInBounds_toArray, List.set_cons_zero, List.set_cons_succ]
          refine takeL (i := 18) (v := ?_) rfl (by kernel_rfl) (by kernel_rfl) (by kernel_rfl) (fun _ _ _ h => h) (.inl ⟨by rfl, ?_⟩) (by assumption) ?_
          rotate_left
          · (intro w hSw; (try dsimp only at hSw); go_simp; (first | done | with_reducible rfl))
          try simp only [Act.put, List.setIfInBounds_toArray, List.set_cons_zero, List.set_cons_succ]
          refine takeL (i := 19) (v := ?_) rfl (by kernel_rfl) (by kernel_rfl) (by kernel_rfl) (fun _ _ _ h => h) (.inl ⟨by rfl, ?_⟩) (by assumption) ?_
          rotate_left
          · (intro w hSw; (try dsimp only at hSw); go_simp; (first | done | with_reducible rfl))
          try simp only [Act.put, List.setIfInBounds_toArray, List.set_cons_zero, List.set_cons_succ]
          refine takeL (i := 20) (v := ?_) rfl (by kernel_rfl) (by kernel_rfl) (by kernel_rfl) (fun _ _ _ h => h) (.inl ⟨by rfl, ?_⟩) (by assumption) ?_
          rotate_left
          · (intro w hSw; (try dsimp only at hSw); go_simp; (first | done | with_reducible rfl))
          try simp only [Act.put, List.setIfInBounds_toArray, List.set_cons_zero, List.set_cons_succ]
          refine takeL (i := 21) (v := ?_) rfl (by kernel_rfl) (by kernel_rfl) (by kernel_rfl) (fun _ _ _ h => h) (.inl ⟨by rfl, ?_⟩) (by assumption) ?_
          rotate_left
          · (intro w hSw; (try dsimp only at hSw); go_simp; (first | done | with_reducible rfl))
          try simp only [Act.put, List.setIfInBounds_toArray, List.set_cons_zero, List.set_cons_succ]
          refine wpAnyH_done (by kernel_rfl) ?_ _
          clear hHeld
          go_wp2_with fail
          have hq : dAppend st n bs = (st, 5) := by
            unfold dAppend
            rw [if_neg (by simp [HDK.out]), if_neg (by simp [HNB.out]), if_pos (by rw [HUU.out, HLL.out, HMM.out]; exact .inr ⟨hh, rfl⟩)]
          refine bodyPost_ret (v := .int .i64 5) (by simp [results]) rfl ?_
          show DPost _ _ _ _ _ _ _
          rw [hq]
          have hb9 := F3.out.trans (HB5.out.mono F3.out.size)
          exact ⟨_, rfl, HH.out.below hb9, ChgS.of_below hb9, NR.refl _ _⟩
        · have c3 : ((M : Int) == 200) = false := by simp; omega
          refine wp_region_all (fun w' => w'.cell? ⟨w.heap.size, 0, none⟩ = some (.pointer (some ⟨d, 0, none⟩)) ∧ w'.cell? ⟨bo, 0, none⟩ = some (.bool false) ∧ w'.cell? ⟨w.heap.size + 1 + 1, 0, none⟩ = some (.slice A L c) ∧ w'.cell? ⟨d, 0, none⟩ = some (.slice A0 M c0) ∧ w'.cell? ⟨d, 1, none⟩ = some (.int .i64 st.room)) 22 (by kernel_rfl) rfl ⟨z1, f2, z3, z4, z5⟩ (fun hHeld => ?_)
          refine takeL (i := 0) (v := ?_) rfl (by kernel_rfl) (by kernel_rfl) (by kernel_rfl) (fun _ _ _ h => h) (.inl ⟨by rfl, ?_⟩) (by assumption) ?_
          rotate_left
          · (intro w hSw; (try dsimp only at hSw); go_simp; (first | done | with_reducible rfl))
          try simp only [Act.put, List.setIfInBounds_toArray, List.set_cons_zero, List.set_cons_succ]
          refine takeL (i := 2) (v := ?_) rfl (by kernel_rfl) (by kernel_rfl) (by kernel_rfl) (fun _ _ _ h => h) (.inl ⟨by rfl, ?_⟩) (by assumption) ?_
          rotate_left
          · (intro w hSw; (try dsimp only at hSw); go_simp; (first | done | with_reducible rfl))
          try simp only [Act.put, List.setIfInBounds_toArray, List.set_cons_zero, List.set_cons_succ]
          refine takeL (i := 3) (v := ?_) rfl (by kernel_rfl) (by kernel_rfl) (by kernel_rfl) (fun _ _ _ h => h) (.inl ⟨by rfl, ?_⟩) (by assumption) ?_
          rotate_left
          · (intro w hSw; (try dsimp only at hSw); go_simp; (first | done | with_reducible rfl))
          try simp only [Act.put, List.setIfInBounds_toArray, List.set_cons_zero, List.set_cons_succ]
          refine takeL (i := 5) (v := ?_) rfl (by kernel_rfl) (by kernel_rfl) (by kernel_rfl) (fun _ _ _ h => h) (.inl ⟨by rfl, ?_⟩) (by assumption) ?_
          rotate_left
          · (intro w hSw; (try dsimp only at hSw); go_simp; (first | done | with_reducible rfl))
          try simp only [Act.put, List.setIfInBounds_toArray, List.set_cons_zero, List.set_cons_succ]
          refine takeL (i := 6) (v := ?_) rfl (by kernel_rfl) (by kernel_rfl) (by kernel_rfl) (fun _ _ _ h => h) (.inl ⟨by rfl, ?_⟩) (by assumption) ?_
          rotate_left
          · (intro w hSw; (try dsimp only at hSw); go_simp; (first | done | with_reducible rfl))
          try simp only [Act.put, List.setIfInBounds_toArray, List.set_cons_zero, List.set_cons_succ]
          refine takeL (i := 7) (v := ?_) rfl (by kernel_rfl) (by kernel_rfl) (by kernel_rfl) (fun _ _ _ h => h) (.inl ⟨by rfl, ?_⟩) (by assumption) ?_
          rotate_left
          · (intro w hSw; (try dsimp only at hSw); go_simp; (first | done | with_reducible rfl))
          try simp only [Act.put, List.setIfInBounds_toArray, List.set_cons_zero, List.set_cons_succ]
          refine takeL (i := 8) (v := ?_) rfl (by kernel_rfl) (by kernel_rfl) (by kernel_rfl) (fun _ _ _ h => h) (.inl ⟨by rfl, ?_⟩) (by assumption) ?_
          rotate_left
          · (intro w hSw; (try dsimp only at hSw); go_simp; (first | done | with_reducible rfl))
          try simp only [Act.put, List.setIfInBounds_toArray, List.set_cons_zero, List.set_cons_succ]
          refine stepL (i := 1) rfl (by kernel_rfl) (fun K hK => ?_)
          go_simp
          go_at_call 51
          refine (HU.out _ F3.out.drew).mono ?_
          rintro e w5 ⟨rfl, hb⟩
          have hb5 : Below wc.heap.size wc w5 := drewN_start (w := wc) (q := 1) hb
          have HB5 := Lib.hid hb5
          have y1 := cell_later hb5 z1
          have y2 := cell_later hb5 f2
          have y3 := cell_later hb5 z3
          have y4 := cell_later hb5 z4
          have y5 := cell_later hb5 z5
          clear hb hb5
          go_wp2_with fail
          refine hK.out _ _ ⟨y1, y2, y3, y4, y5⟩ (fun hHeld => ?_)
          clear hK K
          try simp only [Act.put, List.setIfInBounds_toArray, List.set_cons_zero, List.set_cons_succ]
          refine takeL (i := 4) (v := ?_) rfl (by kernel_rfl) (by kernel_rfl) (by kernel_rfl) (fun _ _ _ h => h) (.inl ⟨by rfl, ?_⟩) (by assumption) ?_
          rotate_left
          · (intro w hSw; (try dsimp only at hSw); go_simp; (first | done | with_reducible rfl))
          try simp only [Act.put, List.setIfInBounds_toArray, List.set_cons_zero, List.set_cons_succ]
          refine takeL (i := 9) (v := ?_) rfl (by kernel_rfl) (by kernel_rfl) (by kernel_rfl) (fun _ _ _ h => h) (.inl ⟨by rfl, ?_⟩) (by assumption) ?_
          rotate_left
          · (intro w hSw; (try dsimp only at hSw); go_simp; (first | done | with_reducible rfl))
          try simp only [Act.put, List.setIfInBounds_toArray, List.set_cons_zero, List.set_cons_succ]
          refine takeL (i := 10) (v := ?_) rfl (by kernel_rfl) (by kernel_rfl) (by kernel_rfl) (fun _ _ _ h => h) (.inl ⟨by rfl, ?_⟩) (by assumption) ?_
          rotate_left
          · (intro w hSw; (try dsimp only at hSw); go_simp; (first | done | with_reducible rfl))
          try simp only [Act.put, List.setIfInBounds_toArray, List.set_cons_zero, List.set_cons_succ]
          refine takeL (i := 11) (v := ?_) rfl (by kernel_rfl) (by kernel_rfl) (by kernel_rfl) (fun _ _ _ h => h) (.inl ⟨by rfl, ?_⟩) (by assumption) ?_
          rotate_left
          · (intro w hSw; (try dsimp only at hSw); go_simp; (first | done | with_reducible rfl))
          try simp only [Act.put, List.setIfInBounds_toArray, List.set_cons_zero, List.set_cons_succ]
          refine takeL (i := 12) (v := ?_) rfl (by kernel_rfl) (by kernel_rfl) (by kernel_rfl) (fun _ _ _ h => h) (.inl ⟨by rfl, ?_⟩) (by assumption) ?_
          rotate_left
          · (intro w hSw; (try dsimp only at hSw); go_simp; (first | done | with_reducible rfl))
          try simp only [Act.put, List.setIfInBounds_toArray, List.set_cons_zero, List.set_cons_succ]
          refine takeL (i := 13) (v := ?_) rfl (by kernel_rfl) (by kernel_rfl) (by kernel_rfl) (fun _ _ _ h => h) (.inl ⟨by rfl, ?_⟩) (by assumption) ?_
          rotate_left
          · (intro w hSw; (try dsimp only at hSw); go_simp; (first | done | with_reducible rfl))
          try simp only [Act.put, List.setIfInBounds_toArray, List.set_cons_zero, List.set_cons_succ]
          refine takeL (i := 14) (v := ?_) rfl (by kernel_rfl) (by kernel_rfl) (by kernel_rfl) (fun _ _ _ h => h) (.inl ⟨by rfl, ?_⟩) (by assumption) ?_
          rotate_left
          · (intro w hSw; (try dsimp only at hSw); go_simp; (first | done | with_reducible rfl))
          try simp only [Act.put, List.setIfInBounds_toArray, List.set_cons_zero, List.set_cons_succ]
          refine takeL (i := 15) (v := ?_) rfl (by kernel_rfl) (by kernel_rfl) (by kernel_rfl) (fun _ _ _ h => h) (.inl ⟨by rfl, ?_⟩) (by assumption) ?_
          rotate_left
          · (intro w hSw; (try dsimp only at hSw); go_simp; (first | done | with_reducible rfl))
          try simp only [Act.put, List.setIfInBounds_toArray, List.set_cons_zero, List.set_cons_succ]
          refine takeL (i := 16) (v := ?_) rfl (by kernel_rfl) (by kernel_rfl) (by kernel_rfl) (fun _ _ _ h => h) (.inl ⟨by rfl, ?_⟩) (by assumption) ?_
          rotate_left
          · (intro w hSw; (try dsimp only at hSw); go_simp; (first | done | with_reducible rfl))
          try simp only [Act.put, List.setIfInBounds_toArray, List.set_cons_zero, List.set_cons_succ]
          refine takeL (i := 17) (v := ?_) rfl (by kernel_rfl) (by kernel_rfl) (by kernel_rfl) (fun _ _ _ h => h) (.inl ⟨by rfl, ?_⟩) (by assumption) ?_
          rotate_left
          · (intro w hSw; (try dsimp only at hSw); go_simp; (first | done | with_reducible rfl))
          try simp only [Act.put, List.setIfInBounds_toArray, List.set_cons_zero, List.set_cons_succ]
          refine takeL (i := 18) (v := ?_) rfl (by kernel_rfl) (by kernel_rfl) (by kernel_rfl) (fun _ _ _ h => h) (.inl ⟨by rfl, ?_⟩) (by assumption) ?_
          rotate_left
          · (intro w hSw; (try dsimp only at hSw); go_simp; (first | done | with_reducible rfl))
          try simp only [Act.put, List.setIfInBounds_toArray, List.set_cons_zero, List.set_cons_succ]
          refine takeL (i := 19) (v := ?_) rfl (by kernel_rfl) (by kernel_rfl) (by kernel_rfl) (fun _ _ _ h => h) (.inl ⟨by rfl, ?_⟩) (by assumption) ?_
          rotate_left
          · (intro w hSw; (try dsimp only at hSw); go_simp; (first | done | with_reducible rfl))
          try simp only [Act.put, List.setIfInBounds_toArray, List.set_cons_zero, List.set_cons_succ]
          refine takeL (i := 20) (v := ?_) rfl (by kernel_rfl) (by kernel_rfl) (by kernel_rfl) (fun _ _ _ h => h) (.inl ⟨by rfl, ?_⟩) (by assumption) ?_
          rotate_left
          · (intro w hSw; (try dsimp only at hSw); go_simp; (first | done | with_reducible rfl))
          try simp only [Act.put, List.setIfInBounds_toArray, List.set_cons_zero, List.set_cons_succ]
          refine takeL (i := 21) (v := ?_) rfl (by kernel_rfl) (by kernel_rfl) (by kernel_rfl) (fun _ _ _ h => h) (.inl ⟨by rfl, ?_⟩) (by assumption) ?_
          rotate_left
          · (intro w hSw; (try dsimp only at hSw); go_simp; (first | done | with_reducible rfl))
          try simp only [Act.put, List.setIfInBounds_toArray, List.set_cons_zero, List.set_cons_succ]
          refine wpAnyH_done (by kernel_rfl) ?_ _
          clear hHeld
          go_upto_region 9 with fail
          have hq : dAppend st n bs = dDeed st (putF st.fs n bs) := by
            unfold dAppend
            rw [if_neg (by simp [HDK.out]), if_neg (by simp [HNB.out]), if_neg (by rw [HUU.out, HLL.out, HMM.out]; (have := C1.out; rintro (h | ⟨h, h7⟩); omega; exact c2 h7))]
          have HQ := Lib.hid hq
          have hb9 := F3.out.trans (HB5.out.mono F3.out.size)
          have hk := HKS.out _ HB5.out
          have HCC := Lib.hid (HGO.out _ hb9 bo w.heap.size bi (w.heap.size + 1) (w.heap.size + 1 + 1) (by rw [hh]; exact y2) y1 hk.1 hk.2 (by rw [HLL.out]; exact y3) FI.out.2 (Nat.le_refl _) FI.out.1 (Nat.le_succ _) (by omega))
          clear hq hb9 hk
          go_wp2_with fail
          refine HCC.out.mono ?_
          rintro e w7 hp
          have hr : ∃ r, e = .returned (.int .i64 r) := by obtain ⟨v', h1, _⟩ := hp; exact ⟨_, h1⟩
          obtain ⟨r, rfl⟩ := hr
          have HPP := Lib.hid hp
          clear hp
          go_wp2_with fail
          refine bodyPost_ret (v := .int .i64 r) (by simp [results]) rfl ?_
          rw [HQ.out]
          exact HPP.out
    · have C1 := Lib.hid c1
      have cb : decide (st.room < (U : Int) + (L : Int)) = true := decide_eq_true (by omega)
      obtain ⟨hz, hh⟩ : ∃ hz, hasN st.fs n = hz := ⟨_, rfl⟩
      rw [hh] at f2
      refine wp_region_all (fun w' => w'.cell? ⟨w.heap.size, 0, none⟩ = some (.pointer (some ⟨d, 0, none⟩)) ∧ w'.cell? ⟨bo, 0, none⟩ = some (.bool hz) ∧ w'.cell? ⟨w.heap.size + 1 + 1, 0, none⟩ = some (.slice A L c) ∧ w'.cell? ⟨d, 0, none⟩ = some (.slice A0 M c0) ∧ w'.cell? ⟨d, 1, none⟩ = some (.int .i64 st.room)) 22 (by kernel_rfl) rfl ⟨z1, f2, z3, z4, z5⟩ (fun hHeld => ?_)
      refine takeL (i := 0) (v := ?_) rfl (by kernel_rfl) (by kernel_rfl) (by kernel_rfl) (fun _ _ _ h => h) (.inl ⟨by rfl, ?_⟩) (by assumption) ?_
      rotate_left
      · (intro w hSw; (try dsimp only at hSw); go_simp; (first | done | with_reducible rfl))
      try simp only [Act.put, List.setIfInBounds_toArray, List.set_cons_zero, List.set_cons_succ]
      refine takeL (i := 2) (v := ?_) rfl (by kernel_rfl) (by kernel_rfl) (by kernel_rfl) (fun _ _ _ h => h) (.inl ⟨by rfl, ?_⟩) (by assumption) ?_
      rotate_left
      · (intro w hSw; (try dsimp only at hSw); go_simp; (first | done | with_reducible rfl))
      try simp only [Act.put, List.setIfInBounds_toArray, List.set_cons_zero, List.set_cons_succ]
      refine takeL (i := 3) (v := ?_) rfl (by kernel_rfl) (by kernel_rfl) (by kernel_rfl) (fun _ _ _ h => h) (.inl ⟨by rfl, ?_⟩) (by assumption) ?_
      rotate_left
      · (intro w hSw; (try dsimp only at hSw); go_simp; (first | done | with_reducible rfl))
      try simp only [Act.put, List.setIfInBounds_toArray, List.set_cons_zero, List.set_cons_succ]
      refine takeL (i := 5) (v := ?_) rfl (by kernel_rfl) (by kernel_rfl) (by kernel_rfl) (fun _ _ _ h => h) (.inl ⟨by rfl, ?_⟩) (by assumption) ?_
      rotate_left
      · (intro w hSw; (try dsimp only at hSw); go_simp; (first | done | with_reducible rfl))
      try simp only [Act.put, List.setIfInBounds_toArray, List.set_cons_zero, List.set_cons_succ]
      refine takeL (i := 6) (v := ?_) rfl (by kernel_rfl) (by kernel_rfl) (by kernel_rfl) (fun _ _ _ h => h) (.inl ⟨by rfl, ?_⟩) (by assumption) ?_
      rotate_left
      · (intro w hSw; (try dsimp only at hSw); go_simp; (first | done | with_reducible rfl))
      try simp only [Act.put, List.setIfInBounds_toArray, List.set_cons_zero, List.set_cons_succ]
      refine takeL (i := 7) (v := ?_) rfl (by kernel_rfl) (by kernel_rfl) (by kernel_rfl) (fun _ _ _ h => h) (.inl ⟨by rfl, ?_⟩) (by assumption) ?_
      rotate_left
      · (intro w hSw; (try dsimp only at hSw); go_simp; (first | done | with_reducible rfl))
      try simp only [Act.put, List.setIfInBounds_toArray, List.set_cons_zero, List.set_cons_succ]
      refine takeL (i := 8) (v := ?_) rfl (by kernel_rfl) (by kernel_rfl) (by kernel_rfl) (fun _ _ _ h => h) (.inl ⟨by rfl, ?_⟩) (by assumption) ?_
      rotate_left
      · (intro w hSw; (try dsimp only at hSw); go_simp; (first | done | with_reducible rfl))
      try simp only [Act.put, List.setIfInBounds_toArray, List.set_cons_zero, List.set_cons_succ]
      refine stepL (i := 1) rfl (by kernel_rfl) (fun K hK => ?_)
      go_simp
      go_at_call 51
      refine (HU.out _ F3.out.drew).mono ?_
      rintro e w5 ⟨rfl, hb⟩
      have hb5 : Below wc.heap.size wc w5 := drewN_start (w := wc) (q := 1) hb
      have HB5 := Lib.hid hb5
      have y1 := cell_later hb5 z1
      have y2 := cell_later hb5 f2
      have y3 := cell_later hb5 z3
      have y4 := cell_later hb5 z4
      have y5 := cell_later hb5 z5
      clear hb hb5
      go_wp2_with fail
      refine hK.out _ _ ⟨y1, y2, y3, y4, y5⟩ (fun hHeld => ?_)
      clear hK K
      try simp only [Act.put, List.setIfInBounds_toArray, List.set_cons_zero, List.set_cons_succ]
      refine takeL (i := 4) (v := ?_) rfl (by kernel_rfl) (by kernel_rfl) (by kernel_rfl) (fun _ _ _ h => h) (.inl ⟨by rfl, ?_⟩) (by assumption) ?_
      rotate_left
      · (intro w hSw; (try dsimp only at hSw); go_simp; (first | done | with_reducible rfl))
      try simp only [Act.put, List.setIfInBounds_toArray, List.set_cons_zero, List.set_cons_succ]
      refine takeL (i := 9) (v := ?_) rfl (by kernel_rfl) (by kernel_rfl) (by kernel_rfl) (fun _ _ _ h => h) (.inl ⟨by rfl, ?_⟩) (by assumption) ?_
      rotate_left
      · (intro w hSw; (try dsimp only at hSw); go_simp; (first | done | with_reducible rfl))
      try simp only [Act.put, List.setIfInBounds_toArray, List.set_cons_zero, List.set_cons_succ]
      refine takeL (i := 10) (v := ?_) rfl (by kernel_rfl) (by kernel_rfl) (by kernel_rfl) (fun _ _ _ h => h) (.inl ⟨by rfl, ?_⟩) (by assumption) ?_
      rotate_left
      · (intro w hSw; (try dsimp only at hSw); go_simp; (first | done | with_reducible rfl))
      try simp only [Act.put, List.setIfInBounds_toArray, List.set_cons_zero, List.set_cons_succ]
      refine takeL (i := 11) (v := undef) rfl (by kernel_rfl) (by kernel_rfl) (by kernel_rfl) (fun _ _ _ h => h) (.inr ⟨by rfl, rfl⟩) (by assumption) ?_
      try simp only [Act.put, List.setIfInBounds_toArray, List.set_cons_zero, List.set_cons_succ]
      refine takeL (i := 12) (v := undef) rfl (by kernel_rfl) (by kernel_rfl) (by kernel_rfl) (fun _ _ _ h => h) (.inr ⟨by rfl, rfl⟩) (by assumption) ?_
      try simp only [Act.put, List.setIfInBounds_toArray, List.set_cons_zero, List.set_cons_succ]
      refine takeL (i := 13) (v := undef) rfl (by kernel_rfl) (by kernel_rfl) (by kernel_rfl) (fun _ _ _ h => h) (.inr ⟨by rfl, rfl⟩) (by assumption) ?_
      try simp only [Act.put, List.setIfInBounds_toArray, List.set_cons_zero, List.set_cons_succ]
      refine takeL (i := 14) (v := undef) rfl (by kernel_rfl) (by kernel_rfl) (by kernel_rfl) (fun _ _ _ h => h) (.inr ⟨by rfl, rfl⟩) (by assumption) ?_
      try simp only [Act.put, List.setIfInBounds_toArray, List.set_cons_zero, List.set_cons_succ]
      refine takeL (i := 15) (v := undef) rfl (by kernel_rfl) (by kernel_rfl) (by kernel_rfl) (fun _ _ _ h => h) (.inr ⟨by rfl, rfl⟩) (by assumption) ?_
      try simp only [Act.put, List.setIfInBounds_toArray, List.set_cons_zero, List.set_cons_succ]
      refine takeL (i := 16) (v := undef) rfl (by kernel_rfl) (by kernel_rfl) (by kernel_rfl) (fun _ _ _ h => h) (.inr ⟨by rfl, rfl⟩) (by assumption) ?_
      try simp only [Act.put, List.setIfInBounds_toArray, List.set_cons_zero, List.set_cons_succ]
      refine takeL (i := 17) (v := undef) rfl (by kernel_rfl) (by kernel_rfl) (by kernel_rfl) (fun _ _ _ h => h) (.inr ⟨by rfl, rfl⟩) (by assumption) ?_
      try simp only [Act.put, List.setIfInBounds_toArray, List.set_cons_zero, List.set_cons_succ]
      refine takeL (i := 18) (v := undef) rfl (by kernel_rfl) (by kernel_rfl) (by kernel_rfl) (fun _ _ _ h => h) (.inr ⟨by rfl, rfl⟩) (by assumption) ?_
      try simp only [Act.put, List.setIfInBounds_toArray, List.set_cons_zero, List.set_cons_succ]
      refine takeL (i := 19) (v := undef) rfl (by kernel_rfl) (by kernel_rfl) (by kernel_rfl) (fun _ _ _ h => h) (.inr ⟨by rfl, rfl⟩) (by assumption) ?_
      try simp only [Act.put, List.setIfInBounds_toArray, List.set_cons_zero, List.set_cons_succ]
      refine takeL (i := 20) (v := undef) rfl (by kernel_rfl) (by kernel_rfl) (by kernel_rfl) (fun _ _ _ h => h) (.inr ⟨by rfl, rfl⟩) (by assumption) ?_
      try simp only [Act.put, List.setIfInBounds_toArray, List.set_cons_zero, List.set_cons_succ]
      refine takeL (i := 21) (v := ?_) rfl (by kernel_rfl) (by kernel_rfl) (by kernel_rfl) (fun _ _ _ h => h) (.inl ⟨by rfl, ?_⟩) (by assumption) ?_
      rotate_left
      · (intro w hSw; (try dsimp only at hSw); go_simp; (first | done | with_reducible rfl))
      try simp only [Act.put, List.setIfInBounds_toArray, List.set_cons_zero, List.set_cons_succ]
      refine wpAnyH_done (by kernel_rfl) ?_ _
      clear hHeld
      go_wp2_with fail
      have hq : dAppend st n bs = (st, 5) := by
        unfold dAppend
        rw [if_neg (by simp [HDK.out]), if_neg (by simp [HNB.out]), if_pos (by rw [HUU.out, HLL.out, HMM.out]; exact .inl (by have := C1.out; omega))]
      refine bodyPost_ret (v := .int .i64 5) (by simp [results]) rfl ?_
      show DPost _ _ _ _ _ _ _
      rw [hq]
      have hb9 := F3.out.trans (HB5.out.mono F3.out.size)
      exact ⟨_, rfl, HH.out.below hb9, ChgS.of_below hb9, NR.refl _ _⟩
end Go.Proofs.YthehpafkaefohaaDoor

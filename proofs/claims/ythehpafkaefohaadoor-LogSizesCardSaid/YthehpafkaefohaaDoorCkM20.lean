/- Walks: the closure that makes a file's bytes safe. Conditions: sizes a machine can have. -/
import Derived.Test.YthehpafkaefohaaDoorCkM19
import Derived.BigQuiet
import Derived.Test.YthehpafkaefohaaDoorCkM18
import Derived.Deep.RegionHeld3
namespace Go.Proofs.YthehpafkaefohaaDoor
open Go.RowKit
theorem cell_off {w : World} {b o o' : Nat} {z v : Value} (h : w.cell? ⟨b, o', none⟩ = some v) (hne : o ≠ o') : (w.setCell ⟨b, o, none⟩ z).cell? ⟨b, o', none⟩ = some v := by
  have hh : (⟨b, o, none⟩ : Addr) ≠ ⟨b, o', none⟩ := fun e => hne (by injection e)
  refine Eq.trans ?_ h
  apply World.cell?_setCell_other
  exact hh
/-- how many bytes of a file are safe is set -/
theorem DkAt.set_sf {w w5 : World} {d : Nat} {st : DkSt} {g c p N : Nat} {f : DF} {q : Int} (h : DkAt w d st (.slice (some ⟨g, 0, none⟩) N c)) (_hN : st.fs.length = N) (hf : st.fs[p]? = some f) (hb : Below w.heap.size w w5) :
    DkAt (w5.setCell ⟨g, p * 3 + 2, none⟩ (.int .i64 q)) d { st with fs := atF st.fs p fun f => { f with sf := q } } (.slice (some ⟨g, 0, none⟩) N c) ∧ ChgS (dkS d (.slice (some ⟨g, 0, none⟩) N c)) w (w5.setCell ⟨g, p * 3 + 2, none⟩ (.int .i64 q)) := by
  have h5 := h.below hb
  have hgd : g ≠ d := h.d_ne g rfl
  refine ⟨⟨?_, ?_⟩, ?_⟩
  · exact (Below.heap_setCell _ _ _ _ (Ne.symm hgd)).trans h5.blk
  · show LOwn _ _ _ _ _ (atF st.fs p fun f => { f with sf := q })
    rw [atF_set _ hf]
    refine LOwn.turn mFl_law (by decide) (n := N) h5.own (i := p) (j := 2) hf (by decide) fun us hus => ?_
    obtain ⟨z, rfl, hz⟩ := mFl_form hus
    exact mFl_mk (f := { f with sf := q }) hz
  · exact ((ChgS.refl _ w).then hb).set (.inl (by simp [dkS, Value.ownBlock])) _ _
set_option maxRecDepth 20000 in
set_option maxHeartbeats 2000000 in
theorem sync1_any {w : World} {d : Nat} {st : DkSt} {v : Value} (h : DkAt w d st v) (bd p : Nat) (f : DF) (hf : st.fs[p]? = some f) (hd : w.cell? ⟨bd, 0, none⟩ = some (.pointer (some ⟨d, 0, none⟩))) (xd : bd ∉ dkS d v) :
    Calls Tryd.prog 58 #[.int .i64 p, .pointer (some ⟨bd, 0, none⟩)] w fun e w' => e = .returned (.tuple #[]) ∧ DOut d v { st with fs := atF st.fs p fun f => { f with sf := f.bs.length } } w w' := by
  obtain ⟨g, c, u1, rfl, d0, d1, d2, hby, csg, hcsg⟩ := file_at h.own hf
  obtain ⟨A1, c1, rfl, _, _⟩ := hby.reads.form
  have hpl := (List.getElem?_eq_some_iff.1 hf).1
  obtain ⟨N, hN⟩ : ∃ N, st.fs.length = N := ⟨_, rfl⟩
  have hpn : (p : Int) < N := by omega
  obtain ⟨q0, _, _, _, _⟩ := h.cells
  have n1 : bd ≠ g := fun e => xd (by rw [e]; simp [dkS, Value.ownBlock])
  have n2 : d ≠ g := fun e => h.d_ne g rfl e.symm
  have f1 := blk_free hcsg (p * 3 + 2)
  have HD := Lib.hid h
  have HF := Lib.hid hf
  have HN := Lib.hid hN
  rw [hN] at q0 HD
  obtain ⟨L, hL⟩ : ∃ L, f.bs.length = L := ⟨_, rfl⟩
  have HL := Lib.hid hL
  rw [hL] at d1
  clear h hf xd hby hcsg hN hpl hL
  go_enter Tryd.func58, Tryd.ntmps58
  go_region_held3 (fun w' => w'.cell? ⟨bd, 0, none⟩ = some (.pointer (some ⟨d, 0, none⟩)) ∧ w'.cell? ⟨d, 0, none⟩ = some (.slice (some ⟨g, 0, none⟩) N c) ∧ w'.cell? ⟨g, p * 3 + 1, none⟩ = some (.slice A1 L c1))
    (first | exact ⟨hd, q0, d1⟩ | exact ⟨cell_past hd n1, cell_past q0 n2, cell_off d1 (by omega)⟩ | go_keep)
    (fail)
  all_goals (
    go_wp2_with fail
    have hx := HD.out.set_sf (q := (L : Int)) HN.out HF.out (below_drewN (Below.refl w.heap.size w) 1)
    refine bodyPost_end (v := .tuple #[]) (by simp [results]) rfl ⟨rfl, _, ?_, hx.2, NR.refl _ _⟩
    have h1 := hx.1
    rw [← HN.out] at h1
    rw [atF_set _ HF.out] at h1 ⊢
    rw [HL.out]
    exact h1)
end Go.Proofs.YthehpafkaefohaaDoor
namespace Go.Proofs.YthehpafkaefohaaDoor
open Go.RowKit
theorem always_any (v : Value) (nm : ByteArray) (sf : Int) (w : World) : Calls Tryd.prog 57 #[.agg #[.string nm, v, .int .i64 sf]] w fun e w' => e = .returned (.int .i64 0) ∧ Below w.heap.size w w' := by
  go_enter Tryd.func57, Tryd.ntmps57
  go_wp2
  exact bodyPost_ret (v := .int .i64 0) (by simp [results]) rfl ⟨rfl, by first | exact Below.refl _ _ | exact (Below.refl _ _).alloc (Nat.le_refl _) _⟩
set_option maxRecDepth 20000 in
set_option maxHeartbeats 1000000 in
theorem of1_sync {w : World} {d : Nat} {st : DkSt} {v : Value} (h : DkAt w d st v) (bd bf bi p : Nat) (f : DF) (hf : st.fs[p]? = some f) (hd : w.cell? ⟨bd, 0, none⟩ = some (.pointer (some ⟨d, 0, none⟩))) (xd : bd ∉ dkS d v)
    (h1 : w.cell? ⟨bf, 0, none⟩ = some (.func (.func 58) #[] #[.pointer (some ⟨bd, 0, none⟩)])) (h2 : w.cell? ⟨bi, 0, none⟩ = some (.int .i64 p)) :
    Calls Tryd.prog 68 #[.pointer (some ⟨bf, 0, none⟩), .pointer (some ⟨bi, 0, none⟩)] w fun e w' => e = .returned (.tuple #[]) ∧ DOut d v { st with fs := atF st.fs p fun f => { f with sf := f.bs.length } } w w' := by
  have HC := Lib.hid (sync1_any h bd p f hf hd xd)
  clear h hf hd xd
  go_enter Tryd.func68, Tryd.ntmps68
  go_wp2_with fail
  refine HC.out.mono ?_
  rintro e w2 ⟨rfl, hp⟩
  go_wp2_with fail
  exact bodyPost_end (v := .tuple #[]) (by simp [results]) rfl ⟨rfl, hp⟩
end Go.Proofs.YthehpafkaefohaaDoor
namespace Go.Proofs.YthehpafkaefohaaDoor
open Go.RowKit
def R4 (w W1 : World) (x b y : Value) (a : Value) (wx : World) : Prop := ∃ bi : Nat, a = .pointer (some ⟨bi, 0, none⟩) ∧ b = y ∧ wx.cell? ⟨bi, 0, none⟩ = some x ∧ Below w.heap.size w wx ∧ Below W1.heap.size W1 wx ∧ W1.heap.size ≤ bi
theorem R4_a {w W1 w2 : World} {x y : Value} {T : TypeId} (h1 : Below w.heap.size w W1) (h : Below W1.heap.size W1 w2) : R4 w W1 x y y (.pointer (some ⟨w2.heap.size, 0, none⟩)) (w2.alloc (.cells #[x] T)) := by
  have hz := h.size
  have hB : Below W1.heap.size W1 (w2.alloc (.cells #[x] T)) := h.alloc hz _
  exact ⟨_, rfl, rfl, by rw [blk_cell (alloc_at w2 _)]; rfl, h1.trans (hB.mono h1.size), hB, hz⟩
theorem R4_s {w W1 w2 : World} {x y z : Value} {T : TypeId} (h1 : Below w.heap.size w W1) (h : Below W1.heap.size W1 w2) (r0 : w2.heap[W1.heap.size]? = some (.cells #[z] T)) : R4 w W1 x y y (.pointer (some ⟨W1.heap.size, 0, none⟩)) (w2.setCell ⟨W1.heap.size, 0, none⟩ x) := by
  have hB : Below W1.heap.size W1 (w2.setCell ⟨W1.heap.size, 0, none⟩ x) := below_set h (Nat.le_refl _) 0 _
  exact ⟨_, rfl, rfl, by rw [blk_cell (blk_set r0 0 _)]; rfl, h1.trans (hB.mono h1.size), hB, Nat.le_refl _⟩
theorem of_go {w w9 : World} {d : Nat} {st : DkSt} {v : Value} (h : DkAt w d st v) (ok : DkOk st) (hfu : st.fuse ≤ 1000000000000) (hb9 : Below w.heap.size w w9) (bd bf bi p : Nat) (f : DF) (hf : st.fs[p]? = some f)
    (h0 : w9.cell? ⟨bd, 0, none⟩ = some (.pointer (some ⟨d, 0, none⟩))) (xd : bd ∉ dkS d v) (h1 : w9.cell? ⟨bf, 0, none⟩ = some (.func (.func 58) #[] #[.pointer (some ⟨bd, 0, none⟩)])) (h2 : w9.cell? ⟨bi, 0, none⟩ = some (.int .i64 p)) (y1 : w.heap.size ≤ bf) (y2 : w.heap.size ≤ bi) :
    Calls Tryd.prog 52 #[.pointer (some ⟨d, 0, none⟩), .func (.func 68) #[] #[.pointer (some ⟨bf, 0, none⟩), .pointer (some ⟨bi, 0, none⟩)]] w9 (APost d v (dDeed st (atF st.fs p fun f => { f with sf := f.bs.length })) w) := by
  have h9 := h.below hb9
  by_cases hz : st.fuse = 0
  · have hq : dDeed st (atF st.fs p fun f => { f with sf := f.bs.length }) = ({ st with fuse := -1, dark := true }, 15) := by unfold dDeed; rw [if_pos hz]
    refine (deed_burnt h9 hz _ _).mono fun e w' hp => ?_
    show DPost _ _ _ _ _ _ _
    rw [hq]
    exact hp.from hb9
  · have hq : dDeed st (atF st.fs p fun f => { f with sf := f.bs.length }) = ({ st with fuse := if 0 < st.fuse then st.fuse - 1 else st.fuse, fs := atF st.fs p fun f => { f with sf := f.bs.length } }, 0) := by unfold dDeed; rw [if_neg hz]
    refine (deed_of h9 hz ok.fuse hfu bf bi (DOut d v { st with fuse := if 0 < st.fuse then st.fuse - 1 else st.fuse, fs := atF st.fs p fun f => { f with sf := f.bs.length } } w) ?_).mono ?_
    · intro w1 hd1 hc1
      have hcd : ChgS (dkS d v) w9 w1 := hc1.sub fun x hx => .inl (List.mem_singleton.1 hx ▸ List.mem_cons_self ..)
      refine (of1_sync (st := { st with fuse := if 0 < st.fuse then st.fuse - 1 else st.fuse }) hd1 bd bf bi p f hf (hcd.cell h0 xd) xd (hcd.cell h1 (h.fresh y1)) (hcd.cell h2 (h.fresh y2))).mono ?_
      rintro e w' ⟨he, v', a1, a2, a3⟩
      refine ⟨he, v', a1, ((ChgS.of_below (S := dkS d v) hb9).trans hcd (fun x hx => .inl hx)).trans a2 (fun x hx => .inl hx), fun k hk => (a3 k hk).imp id fun h => ?_⟩
      exact Nat.le_trans (Nat.le_trans hb9.size hcd.size) h
    · rintro e w' ⟨rfl, v', a1, a2, a3⟩
      show DPost _ _ _ _ _ _ _
      rw [hq]
      exact ⟨v', rfl, a1, a2, a3⟩
set_option maxRecDepth 20000 in
set_option maxHeartbeats 2000000 in
theorem of_any {w : World} {d : Nat} {st : DkSt} {v : Value} (h : DkAt w d st v) (ok : DkOk st) (hfu : st.fuse ≤ 1000000000000) (n : ByteArray) (bd : Nat) (h0 : w.cell? ⟨bd, 0, none⟩ = some (.pointer (some ⟨d, 0, none⟩))) (xd : bd ∉ dkS d v) :
    Calls Tryd.prog 56 #[.pointer (some ⟨d, 0, none⟩), .string n, .func (.func 57) #[] #[], .func (.func 58) #[] #[.pointer (some ⟨bd, 0, none⟩)]] w (APost d v (dSync st n) w) := by
  obtain ⟨W1, hW1⟩ : ∃ x, w.alloc (.cells #[.func (.func 58) #[] #[.pointer (some ⟨bd, 0, none⟩)]] 89) = x := ⟨_, rfl⟩
  have hb1 : Below w.heap.size w W1 := by rw [← hW1]; exact below1 w _
  have k1 : W1.heap[w.heap.size]? = some (.cells #[.func (.func 58) #[] #[.pointer (some ⟨bd, 0, none⟩)]] 89) := by rw [← hW1]; exact alloc_at _ _
  have HC := Lib.hid (lit_any (h.below hb1))
  have hm := ok.many
  have HPL := Lib.hid (fun w2 (hb2 : Below w.heap.size w w2) => place_any v st.fs n w2 (h.below hb2).own ok.sorted (by omega))
  have HH := Lib.hid h
  have HGO := Lib.hid (fun w9 hb9 bf bi p f => of_go (w9 := w9) h ok hfu hb9 bd bf bi p f)
  have e1 := blk_cell k1 0
  simp at e1
  have e0 := cell_later hb1 h0
  have hbd := block_lt_of_cell h0
  obtain ⟨q0, _, _, _, q4⟩ := (h.below hb1).cells
  obtain ⟨A0, c0, rfl⟩ := h.own.form
  have HB1 := Lib.hid hb1
  have HK := Lib.hid k1
  have HXD := Lib.hid xd
  have hdl : d < w.heap.size := blk_lt h.blk
  have s3 : d ≠ W1.heap.size := by have := hb1.size; omega
  obtain ⟨r, hr⟩ : ∃ r, dSync st n = r := ⟨_, rfl⟩
  have HR := Lib.hid hr
  rw [hr]
  clear h ok hfu hb1 k1 hm h0 xd hdl hr hbd
  cases hd : st.dark with
  | true =>
    have hlE : litE st = 15 := by unfold litE; rw [if_pos hd]
    rw [hlE] at HC
    have HP : Hid (APost d (.slice A0 st.fs.length c0) r w (.returned (.int .i64 15)) W1) := by
      show DPost _ _ _ _ _ _ _
      rw [← HR.out]
      unfold dSync
      rw [if_pos hd]
      exact ⟨_, rfl, HH.out.below HB1.out, ChgS.of_below HB1.out, NR.refl _ _⟩
    clear hlE
    go_enter Tryd.func56, Tryd.ntmps56
    go_upto_region 1 with fail
    clear hW1
    go_wp2_with fail
    refine HC.out.mono ?_
    rintro e w2 ⟨rfl, hw⟩
    subst hw
    go_wp2
    exact bodyPost_ret (v := .int .i64 15) (by simp [results]) rfl HP.out
  | false =>
    have hlE : litE st = 0 := by unfold litE; rw [if_neg (by simp [hd])]
    rw [hlE] at HC
    have HDK := Lib.hid hd
    clear hlE hd
    go_enter Tryd.func56, Tryd.ntmps56
    go_upto_region 1 with fail
    clear hW1
    go_wp2_with fail
    refine HC.out.mono ?_
    rintro e w2 ⟨rfl, hw⟩
    subst hw
    go_upto_region 4 with fail
    go_cut [10, 11] (fun a b wx => R4 w W1 (.int .i64 (plc st.fs n)) b (.bool (hasN st.fs n)) a wx)
    case first =>
      go_region_held3 (fun w' => w'.cell? ⟨d, 0, none⟩ = some (.slice A0 st.fs.length c0) ∧ w'.cell? ⟨d, 4, none⟩ = some (.func (.func 17) #[] #[]))
        (first | exact ⟨q0, q4⟩ | exact ⟨p3, p4⟩ | exact ⟨cell_later (below1 w2 _) p3, cell_later (below1 w2 _) p4⟩ | exact ⟨cell_pastO p3 s3, cell_pastO p4 s3⟩ | exact ⟨cell_later (below1 W1 _) q0, cell_later (below1 W1 _) q4⟩ | go_keep)
        (first
        | (go_at_call 17; refine (HPL.out _ HB1.out.drew).mono ?_; rintro e w2 ⟨rfl, hb⟩; have HB34 : Hid (Below W1.heap.size W1 w2) := Lib.hid (drewN_start (w := W1) (q := 1) hb); have p3 := cell_later HB34.out q0; have p4 := cell_later HB34.out q4; clear hb)
        | (go_at_call 17; refine (HPL.out _ (HB1.out.alloc HB1.out.size _).drew).mono ?_; rintro e w2 ⟨rfl, hb⟩; have r0 := blk_below (w := W1.alloc _) (drewN_start (q := 1) hb) (alloc_at W1 _); have r1 := blk_cell r0 0; have r2 := blk_free r0 0; have r3 := blk_lt r0; simp at r1; have HB34 : Hid (Below W1.heap.size W1 w2) := Lib.hid ((below1 W1 _).trans ((drewN_start (q := 1) hb).mono (by simp))); have p3 := cell_later HB34.out q0; have p4 := cell_later HB34.out q4; clear hb))
      all_goals (
        go_wp2_with fail
        go_meet
        first
        | with_reducible exact R4_a HB1.out HB34.out
        | with_reducible exact R4_s HB1.out HB34.out r0)
    case rest =>
      obtain ⟨bi, rfl, rfl, f1, f3, f4, f5⟩ := hcut
      have z0 := cell_later f4 q0
      have z1 := cell_later f4 e1
      have z2 := cell_later f4 e0
      have FZ := Lib.hid (Nat.le_trans HB1.out.size f5)
      have F3 := Lib.hid f3
      clear e0 e1 q0 q4 s3 HC HPL HK f4 f5 f3
      cases hh : hasN st.fs n with
      | false =>
        have HP : Hid (APost d (.slice A0 st.fs.length c0) r w (.returned (.int .i64 16)) wc) := by
          show DPost _ _ _ _ _ _ _
          rw [← HR.out]
          unfold dSync
          rw [if_neg (by simp [HDK.out]), if_pos hh]
          exact ⟨_, rfl, HH.out.below F3.out, ChgS.of_below F3.out, NR.refl _ _⟩
        go_wp2
        exact bodyPost_ret (v := .int .i64 16) (by simp [results]) rfl HP.out
      | true =>
        obtain ⟨f, hf, _⟩ := hasN_at hh
        obtain ⟨g, c, u1, hv5, d0, d1, d2, hby, csg, hcsg⟩ := file_at (HH.out.below F3.out).own hf
        injection hv5 with hv51 hv52 hv53
        subst hv51
        have hpl := (List.getElem?_eq_some_iff.1 hf).1
        obtain ⟨p, hp⟩ : ∃ p, plc st.fs n = p := ⟨_, rfl⟩
        obtain ⟨M, hM⟩ : ∃ M, st.fs.length = M := ⟨_, rfl⟩
        have HMM := Lib.hid hM
        have HPP := Lib.hid hp
        rw [hp] at f1 hf d0 d1 d2 hpl
        rw [hM] at z0 hpl
        have hpm : (p : Int) < M := by omega
        have HF := Lib.hid hf
        obtain ⟨A1, c1, rfl, _, _⟩ := hby.reads.form
        have HAL := Lib.hid (fun w2 => always_any (.slice A1 f.bs.length c1) f.nm f.sf w2)
        have HHH := Lib.hid hh
        clear hv52 hv53 hby hcsg hpl hp hM hf hh
        go_upto_region 7 with fail
        go_region_held3 (fun w' => w'.cell? ⟨d, 0, none⟩ = some (.slice (some ⟨g, 0, none⟩) M c0) ∧ w'.cell? ⟨bi, 0, none⟩ = some (.int .i64 p) ∧ w'.cell? ⟨g, p * 3, none⟩ = some (.string f.nm) ∧ w'.cell? ⟨g, p * 3 + 1, none⟩ = some (.slice A1 f.bs.length c1) ∧ w'.cell? ⟨g, p * 3 + 2, none⟩ = some (.int .i64 f.sf))
          (first | exact ⟨z0, f1, d0, d1, d2⟩ | exact ⟨y0, y1, cell_later HB5.out d0, cell_later HB5.out d1, cell_later HB5.out d2⟩ | go_keep)
          (first | (go_at_call 57; refine (HAL.out _).mono ?_; rintro e w5 ⟨rfl, hb⟩; have hb5 : Below wc.heap.size wc w5 := drewN_start (w := wc) (q := 1) hb; have HB5 := Lib.hid hb5; have y0 := cell_later hb5 z0; have y1 := cell_later hb5 f1; clear hb hb5))
        all_goals (
          have HCC := Lib.hid (HGO.out _ (F3.out.trans (HB5.out.mono F3.out.size)) w.heap.size bi p f HF.out (cell_later HB5.out z2) HXD.out (cell_later HB5.out z1) y1 (Nat.le_refl _) FZ.out)
          go_wp2_with fail
          refine HCC.out.mono ?_
          rintro e w7 hp
          have hr : ∃ r, e = .returned (.int .i64 r) := by obtain ⟨v', h1, _⟩ := hp; exact ⟨_, h1⟩
          obtain ⟨r9, rfl⟩ := hr
          have HPQ := Lib.hid hp
          clear hp
          go_wp2_with fail
          refine bodyPost_ret (v := .int .i64 r9) (by simp [results]) rfl ?_
          have hq : r = dDeed st (atF st.fs p fun f => { f with sf := f.bs.length }) := by
            rw [← HR.out]
            unfold dSync
            rw [if_neg (by simp [HDK.out]), if_neg (by simp [HHH.out]), HPP.out]
          rw [hq]
          exact HPQ.out)
end Go.Proofs.YthehpafkaefohaaDoor
namespace Go.Proofs.YthehpafkaefohaaDoor
open Go.RowKit
set_option maxRecDepth 20000 in
set_option maxHeartbeats 1000000 in
theorem sync_any {w : World} {d : Nat} {st : DkSt} {v : Value} (h : DkAt w d st v) (ok : DkOk st) (hfu : st.fuse ≤ 1000000000000) (n : ByteArray) :
    Calls Tryd.prog 29 #[.pointer (some ⟨d, 0, none⟩), .string n] w (APost d v (dSync st n) w) := by
  obtain ⟨W1, hW1⟩ : ∃ x, w.alloc (.cells #[.pointer (some ⟨d, 0, none⟩)] 24) = x := ⟨_, rfl⟩
  have hb1 : Below w.heap.size w W1 := by rw [← hW1]; exact below1 w _
  have k1 : W1.heap[w.heap.size]? = some (.cells #[.pointer (some ⟨d, 0, none⟩)] 24) := by rw [← hW1]; exact alloc_at _ _
  have e1 := blk_cell k1 0
  simp at e1
  have HC := Lib.hid (of_any (h.below hb1) ok hfu n w.heap.size e1 (h.fresh (Nat.le_refl _)))
  have HB1 := Lib.hid hb1
  clear h ok hfu hb1 k1
  go_enter Tryd.func29, Tryd.ntmps29
  go_upto_region 1 with fail
  clear hW1
  go_wp2_with fail
  refine HC.out.mono ?_
  rintro e w2 hp
  have hr : ∃ r, e = .returned (.int .i64 r) := by obtain ⟨v', h1, _⟩ := hp; exact ⟨_, h1⟩
  obtain ⟨r9, rfl⟩ := hr
  have HP : Hid (APost d v (dSync st n) w (.returned (.int .i64 r9)) w2) := DPost.from HB1.out hp
  clear hp
  go_wp2_with fail
  exact bodyPost_ret (v := .int .i64 r9) (by simp [results]) rfl HP.out
/-- a new disk -/
def newSt (most : Int) : DkSt := ⟨[], most, -1, false⟩
set_option maxRecDepth 20000 in
set_option maxHeartbeats 1000000 in
theorem new_any (most : Int) (w : World) (h0 : 0 ≤ most) (h1 : most ≤ 16777216) : Calls Tryd.prog 5 #[.int .i64 most] w fun e w' => e = .returned (.tuple #[.pointer (some ⟨w.heap.size, 0, none⟩), .int .i64 0]) ∧ DkAt w' w.heap.size (newSt most) (.slice none 0 0) ∧ Below w.heap.size w w' := by
  have HP : Hid (DkAt (w.alloc (.cells #[.slice none 0 0, .int .i64 most, .int .i64 (-1), .bool false, .func (.func 17) #[] #[]] 52)) w.heap.size (newSt most) (.slice none 0 0)) :=
    ⟨alloc_at _ _, LOwn.nil _ _⟩
  have c1 : ¬ most < 0 := by omega
  have c2 : ¬ (16777216 : Int) < most := by omega
  go_enter Tryd.func5, Tryd.ntmps5
  go_wp2
  exact bodyPost_ret (v := .tuple #[.pointer (some ⟨w.heap.size, 0, none⟩), .int .i64 0]) (by simp [results]) rfl ⟨rfl, HP.out, below1 w _⟩
theorem new_ok (most : Int) (h0 : 0 ≤ most) (h1 : most ≤ 16777216) : DkOk (newSt most) := ⟨List.Pairwise.nil, by simp [newSt], by simp [newSt, usedF, h0], by simp [newSt, h1], by simp [newSt], fun f hf => by simp [newSt] at hf⟩
end Go.Proofs.YthehpafkaefohaaDoor
namespace Go.Proofs.YthehpafkaefohaaDoor
open Go.RowKit
def KPost (f : DF) (w : World) (e : Ending) (w' : World) : Prop := ∃ A c, e = .returned (.agg #[.string f.nm, .slice A f.bs.length c, .int .i64 f.sf]) ∧ Below w.heap.size w w'
set_option maxRecDepth 20000 in
set_option maxHeartbeats 2000000 in
theorem look_any {w : World} {d : Nat} {st : DkSt} {v : Value} (h : DkAt w d st v) (ok : DkOk st) (n : ByteArray) :
    Calls Tryd.prog 19 #[.pointer (some ⟨d, 0, none⟩), .string n] w (KPost (lookF st.fs n) w) := by
  obtain ⟨W1, hW1⟩ : ∃ x, w.alloc (.cells #[.string ⟨#[]⟩, .slice none 0 0, .int .i64 0] 58) = x := ⟨_, rfl⟩
  have hb1 : Below w.heap.size w W1 := by rw [← hW1]; exact below1 w _
  have k1 : W1.heap[w.heap.size]? = some (.cells #[.string ⟨#[]⟩, .slice none 0 0, .int .i64 0] 58) := by rw [← hW1]; exact alloc_at _ _
  have HM := Lib.hid (made_any (h.below hb1))
  have hm := ok.many
  have HPL := Lib.hid (fun w2 (hb2 : Below w.heap.size w w2) => place_any v st.fs n w2 (h.below hb2).own ok.sorted (by omega))
  have HH := Lib.hid h
  obtain ⟨q0, _, _, _, q4⟩ := (h.below hb1).cells
  obtain ⟨A0, c0, rfl⟩ := h.own.form
  have HB1 := Lib.hid hb1
  have HK := Lib.hid k1
  have hgt : ∀ g, Value.ownBlock (.slice A0 st.fs.length c0) = some g → g < w.heap.size := fun g hg => (h.own.rowT g hg).1
  clear h ok hb1 k1 hm
  go_enter Tryd.func19, Tryd.ntmps19
  go_upto_region 1 with fail
  clear hW1
  go_wp2_with fail
  refine HM.out.mono ?_
  rintro e w2 ⟨rfl, hw⟩
  subst hw
  go_upto_region 3 with fail
  go_cut [5, 6] (fun a b wx => a = .int .i64 (plc st.fs n) ∧ b = .bool (hasN st.fs n) ∧ Hid (Below W1.heap.size W1 wx))
  case first =>
    go_region_held3 (fun w' => w'.cell? ⟨d, 0, none⟩ = some (.slice A0 st.fs.length c0) ∧ w'.cell? ⟨d, 4, none⟩ = some (.func (.func 17) #[] #[]))
      (first | exact ⟨q0, q4⟩ | exact ⟨p3, p4⟩ | go_keep)
      (first
      | (go_at_call 17; refine (HPL.out _ HB1.out.drew).mono ?_; rintro e w2 ⟨rfl, hb⟩; have HB34 : Hid (Below W1.heap.size W1 w2) := Lib.hid (drewN_start (w := W1) (q := 1) hb); have p3 := cell_later HB34.out q0; have p4 := cell_later HB34.out q4; clear hb))
    all_goals (
      go_wp2_with fail
      go_meet
      exact ⟨rfl, rfl, HB34⟩)
  case rest =>
    obtain ⟨rfl, rfl, F4⟩ := hcut
    have z0 := cell_later F4.out q0
    have HKc := Lib.hid (blk_below F4.out HK.out)
    have FB := Lib.hid (HB1.out.trans (F4.out.mono HB1.out.size))
    clear q0 q4 HM HPL
    have r0 := blk_cell HKc.out 0
    have r1 := blk_cell HKc.out 1
    have r2 := blk_cell HKc.out 2
    have g0 := blk_free HKc.out 0
    have g1 := blk_free HKc.out 1
    have g2 := blk_free HKc.out 2
    simp at r0 r1 r2
    have HRES : Hid (∀ (x y z : Value), ((((wc.setCell ⟨w.heap.size, 0, none⟩ x).setCell ⟨w.heap.size, 1, none⟩ y).setCell ⟨w.heap.size, 2, none⟩ z).heap[w.heap.size]? = some (.cells #[x, y, z] 58)) ∧ Below w.heap.size w (((wc.setCell ⟨w.heap.size, 0, none⟩ x).setCell ⟨w.heap.size, 1, none⟩ y).setCell ⟨w.heap.size, 2, none⟩ z)) := fun x y z => by
      refine ⟨?_, below_set (below_set (below_set FB.out (Nat.le_refl _) 0 _) (Nat.le_refl _) 1 _) (Nat.le_refl _) 2 _⟩
      have := blk_set (blk_set (blk_set HKc.out 0 x) 1 y) 2 z
      simpa using this
    cases hh : hasN st.fs n with
    | false =>
      have hq : lookF st.fs n = ⟨⟨#[]⟩, [], 0⟩ := by unfold lookF; rw [if_neg (by simp [hh])]; rfl
      have HQ := Lib.hid hq
      clear hq
      go_wp2
      obtain ⟨x1, x2⟩ := HRES.out (.string ⟨#[]⟩) (.slice none 0 0) (.int .i64 0)
      obtain ⟨W9, hW9⟩ : ∃ W9, (((wc.setCell ⟨w.heap.size, 0, none⟩ (.string ⟨#[]⟩)).setCell ⟨w.heap.size, 1, none⟩ (.slice none 0 0)).setCell ⟨w.heap.size, 2, none⟩ (.int .i64 0)) = W9 := ⟨_, rfl⟩
      rw [hW9] at x1 x2
      rw [hW9]
      have v0 := blk_cell x1 0
      have v1 := blk_cell x1 1
      have v2 := blk_cell x1 2
      simp at v0 v1 v2
      refine bodyPost_ret (v := .agg #[.string ⟨#[]⟩, .slice none 0 0, .int .i64 0]) (by simp [results, go_sem, v0, v1, v2]) rfl ?_
      rw [HQ.out]
      exact ⟨_, _, rfl, x2⟩
    | true =>
      obtain ⟨f, hf, _⟩ := hasN_at hh
      have hq : lookF st.fs n = f := by unfold lookF; rw [if_pos hh, hf]; rfl
      obtain ⟨g, c, u1, hv5, d0, d1, d2, hby, csg, hcsg⟩ := file_at (HH.out.below FB.out).own hf
      injection hv5 with hv51 hv52 hv53
      subst hv51
      have hgn : g ≠ w.heap.size := Nat.ne_of_lt (hgt g rfl)
      have hpl := (List.getElem?_eq_some_iff.1 hf).1
      obtain ⟨p, hp⟩ : ∃ p, plc st.fs n = p := ⟨_, rfl⟩
      obtain ⟨M, hM⟩ : ∃ M, st.fs.length = M := ⟨_, rfl⟩
      rw [hp] at hf d0 d1 d2 hpl ⊢
      rw [hM] at z0 hpl
      have hpm : (p : Int) < M := by omega
      obtain ⟨A1, c1, rfl, _, _⟩ := hby.reads.form
      have HQ := Lib.hid hq
      clear hv52 hv53 hby hcsg hpl hp hM hf hh hq hgt
      go_wp2
      obtain ⟨x1, x2⟩ := HRES.out (.string f.nm) (.slice A1 f.bs.length c1) (.int .i64 f.sf)
      obtain ⟨W9, hW9⟩ : ∃ W9, (((wc.setCell ⟨w.heap.size, 0, none⟩ (.string f.nm)).setCell ⟨w.heap.size, 1, none⟩ (.slice A1 f.bs.length c1)).setCell ⟨w.heap.size, 2, none⟩ (.int .i64 f.sf)) = W9 := ⟨_, rfl⟩
      rw [hW9] at x1 x2
      rw [hW9]
      have v0 := blk_cell x1 0
      have v1 := blk_cell x1 1
      have v2 := blk_cell x1 2
      simp at v0 v1 v2
      refine bodyPost_ret (v := .agg #[.string f.nm, .slice A1 f.bs.length c1, .int .i64 f.sf]) (by simp [results, go_sem, v0, v1, v2]) rfl ?_
      rw [HQ.out]
      exact ⟨_, _, rfl, x2⟩
set_option maxRecDepth 20000 in
set_option maxHeartbeats 1000000 in
theorem size_any {w : World} {d : Nat} {st : DkSt} {v : Value} (h : DkAt w d st v) (ok : DkOk st) (n : ByteArray) :
    Calls Tryd.prog 9 #[.pointer (some ⟨d, 0, none⟩), .string n] w fun e w' => e = .returned (.int .i64 (sizeF st n)) ∧ Below w.heap.size w w' := by
  have HC := Lib.hid (look_any h ok n)
  obtain ⟨f, hf⟩ : ∃ f, lookF st.fs n = f := ⟨_, rfl⟩
  have HF : Hid (sizeF st n = (f.bs.length : Int)) := by show _ = _; unfold sizeF; rw [hf]
  rw [hf] at HC
  clear h ok hf
  go_enter Tryd.func9, Tryd.ntmps9
  go_wp2_with fail
  refine HC.out.mono ?_
  rintro e w2 ⟨A, c, rfl, hb⟩
  have fld : ∀ w, (Instr.field 58 (.agg #[.string f.nm, .slice A f.bs.length c, .int .i64 f.sf]) 1).run Tryd.prog w = .ok (.slice A f.bs.length c) w := fun _ => by kernel_rfl
  go_wp2
  refine bodyPost_ret (v := .int .i64 f.bs.length) (by simp [results]) rfl ⟨by rw [HF.out], hb⟩
set_option maxRecDepth 20000 in
set_option maxHeartbeats 1000000 in
theorem synced_any {w : World} {d : Nat} {st : DkSt} {v : Value} (h : DkAt w d st v) (ok : DkOk st) (n : ByteArray) :
    Calls Tryd.prog 36 #[.pointer (some ⟨d, 0, none⟩), .string n] w fun e w' => e = .returned (.int .i64 (lookF st.fs n).sf) ∧ Below w.heap.size w w' := by
  have HC := Lib.hid (look_any h ok n)
  obtain ⟨f, hf⟩ : ∃ f, lookF st.fs n = f := ⟨_, rfl⟩
  rw [hf] at HC ⊢
  clear h ok hf
  go_enter Tryd.func36, Tryd.ntmps36
  go_wp2_with fail
  refine HC.out.mono ?_
  rintro e w2 ⟨A, c, rfl, hb⟩
  have fld : ∀ w, (Instr.field 58 (.agg #[.string f.nm, .slice A f.bs.length c, .int .i64 f.sf]) 2).run Tryd.prog w = .ok (.int .i64 f.sf) w := fun _ => by kernel_rfl
  go_wp2
  refine bodyPost_ret (v := .int .i64 f.sf) (by simp [results]) rfl ⟨rfl, hb⟩
end Go.Proofs.YthehpafkaefohaaDoor

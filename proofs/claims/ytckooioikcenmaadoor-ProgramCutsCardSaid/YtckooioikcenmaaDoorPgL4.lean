/- ProgramCuts: the walk. Conditions: sizes a machine can have; the library's table of blanks reads as it is laid. -/
import Derived.Test.YtckooioikcenmaaDoorPgL3
namespace Go.Proofs.YtckooioikcenmaaDoor
open Go.RowKit
/-- the boxes of two programs, in a world later on -/
structure TwoB (w : World) (n0 : ByteArray) (r0 : Int) (v0 : Value) (n1 : ByteArray) (r1 : Int) (v1 : Value) (W : World) : Prop where
  b0 : W.heap[w.heap.size]? = some (.cells #[.string n0, .int .i64 r0, v0] 24)
  b1 : W.heap[w.heap.size + 1]? = some (.cells #[.string n1, .int .i64 r1, v1] 24)
  bel : Below w.heap.size w W
theorem TwoB.first (w : World) (n0 : ByteArray) (r0 : Int) (v0 : Value) (n1 : ByteArray) (r1 : Int) (v1 : Value) :
    TwoB w n0 r0 v0 n1 r1 v1 ((w.alloc (.cells #[.string n0, .int .i64 r0, v0] 24)).alloc (.cells #[.string n1, .int .i64 r1, v1] 24)) := by
  refine ⟨blk_alloc (alloc_at _ _) _, ?_, ((Below.refl _ _).alloc (Nat.le_refl _) _).alloc (by simp) _⟩
  have := alloc_at (w.alloc (.cells #[.string n0, .int .i64 r0, v0] 24)) (.cells #[.string n1, .int .i64 r1, v1] 24)
  rw [show (w.alloc (.cells #[.string n0, .int .i64 r0, v0] 24)).heap.size = w.heap.size + 1 by simp] at this
  exact this
theorem TwoB.below {w W W' : World} {n0 : ByteArray} {r0 : Int} {v0 : Value} {n1 : ByteArray} {r1 : Int} {v1 : Value} (h : TwoB w n0 r0 v0 n1 r1 v1 W) (hb : Below W.heap.size W W') : TwoB w n0 r0 v0 n1 r1 v1 W' :=
  ⟨blk_below hb h.b0, blk_below hb h.b1, h.bel.trans (hb.mono h.bel.size)⟩
theorem TwoB.alloc {w W : World} {n0 : ByteArray} {r0 : Int} {v0 : Value} {n1 : ByteArray} {r1 : Int} {v1 : Value} (h : TwoB w n0 r0 v0 n1 r1 v1 W) (o : Obj) : TwoB w n0 r0 v0 n1 r1 v1 (W.alloc o) :=
  h.below ((Below.refl _ _).alloc (Nat.le_refl _) o)
theorem Bytes.some {base : Nat} {w : World} {v : Value} {xs : List UInt8} (h : Bytes base w v xs) (h0 : 0 < xs.length) : ∃ g c, v = .slice (some ⟨g, 0, none⟩) xs.length c ∧ xs.length ≤ c ∧ c ≤ maxLen := by
  rcases h.2 with ⟨_, h2⟩ | ⟨g, cap, cur, rfl, _, _, h3, h4, _⟩
  · omega
  · exact ⟨g, cap, rfl, h3, h4⟩
/-- the beginning of bytes -/
theorem RdB.take {w : World} {g n c : Nat} {ys : List UInt8} (h : RdB w (.slice (some ⟨g, 0, none⟩) n c) ys) (k : Nat) (hk : k ≤ ys.length) : RdB w (.slice (some ⟨g, 0, none⟩) k c) (ys.take k) := by
  rcases h with ⟨h1, _⟩ | ⟨b, o, c', h1, h2, h3, h4, h5⟩
  · cases h1
  · injection h1 with q1 q2 q3
    injection q1 with q1
    injection q1 with q4 q5 _
    subst q3; subst q4; subst q5
    have hl : (ys.take k).length = k := by rw [List.length_take]; omega
    refine .inr ⟨g, 0, c, by rw [hl], by rw [hl]; omega, h3, h4, fun j x hx => ?_⟩
    rw [List.getElem?_take] at hx
    split at hx
    · exact h5 j x hx
    · cases hx
theorem rdN_no {ys : List UInt8} (h : readsB ys = false) : rdN ys = 100 := (reads_no h).2
theorem bytesOf_len {name : ByteArray} {regs : Int} {xs : List Ins} (h : checkOk name regs xs 20 = true) (hn : NOk xs) : (bytesOf name regs xs).length ≤ 50070 := by
  have := part_len (n := xs.length) xs.length h hn (by have := (check_parts0 h).2.1; omega)
  rw [List.take_of_length_le (Nat.le_refl _)] at this
  exact this
/-- are two programs' bytes the same just where they are? -/
theorem bytes_same {n0 n1 : ByteArray} {r0 r1 : Int} {xs ys : List Ins} (h0 : checkOk n0 r0 xs 20 = true) (k0 : NOk xs) (h1 : checkOk n1 r1 ys 20 = true) (k1 : NOk ys) : decide (bytesOf n0 r0 xs = bytesOf n1 r1 ys) = sameB n0 r0 xs n1 r1 ys := by
  unfold sameB
  apply decide_eq_decide.2
  constructor
  · intro h; exact bytesOf_inj h0 k0 h1 k1 h
  · rintro ⟨rfl, rfl, rfl⟩; rfl
section
attribute [local go_sem] frozen?_alloc_cells World.cell?_alloc_some
set_option maxRecDepth 20000 in
set_option maxHeartbeats 4000000 in
theorem cuts_walk (n0 n1 : ByteArray) (r0 r1 : Int) (A0 A1 : Option Addr) (l0 l1 p0 p1 : Nat) (xs ys : List Ins) (hl0 : xs.length = l0) (hl1 : ys.length = l1) (ct : Nat) (hct : ct < 65536) (w : World) (hc0 : CodeAt w (.slice A0 l0 p0) xs) (hc1 : CodeAt w (.slice A1 l1 p1) ys) (hn0 : NOk xs) (hn1 : NOk ys) (hg : POK w) :
    Calls Tryd.prog 6 #[.agg #[.string n0, .int .i64 r0, .slice A0 l0 p0], .agg #[.string n1, .int .i64 r1, .slice A1 l1 p1], .int .u16 ct] w (LawPost w) := by
  have HC0 := Lib.hid hc0
  have HC1 := Lib.hid hc1
  have HL0 := Lib.hid hl0
  have HL1 := Lib.hid hl1
  have HG := Lib.hid hg
  have HN0 := Lib.hid hn0
  have HN1 := Lib.hid hn1
  have HT := Lib.hid (TwoB.first w n0 r0 (.slice A0 l0 p0) n1 r1 (.slice A1 l1 p1))
  clear hc0 hc1 hl0 hl1 hg hn0 hn1
  go_enter Tryd.func6, Tryd.ntmps6
  go_wp2_with fail
  refine (great_any n0 r0 _ _ xs (HC0.out.below HT.out.bel)).mono ?_
  rintro e w2 ⟨⟨r, rfl⟩, hb⟩
  have HT2 := Lib.hid (HT.out.below hb)
  clear HT hb
  cases r with
  | true =>
    go_wp2_with fail
    refine (awake09 w2 (HG.out.below HT2.out.bel)).mono ?_
    rintro e wz ⟨rfl, hb⟩
    go_wp2
    go_ret
    exact ⟨rfl, (HT2.out.bel).trans (hb.mono (HT2.out.bel).size)⟩
  | false =>
    have c0 := blk_cell HT2.out.b1 0
    have c1 := blk_cell HT2.out.b1 1
    have c2 := blk_cell HT2.out.b1 2
    simp at c0 c1 c2
    go_wp2_with fail
    refine (great_any n1 r1 _ _ ys (HC1.out.below HT2.out.bel)).mono ?_
    rintro e w3 ⟨⟨r, rfl⟩, hb⟩
    have HT3 := Lib.hid (HT2.out.below hb)
    clear HT2 hb c0 c1 c2
    cases r with
    | true =>
      go_wp2_with fail
      refine (awake09 w3 (HG.out.below HT3.out.bel)).mono ?_
      rintro e wz ⟨rfl, hb⟩
      go_wp2
      go_ret
      exact ⟨rfl, (HT3.out.bel).trans (hb.mono (HT3.out.bel).size)⟩
    | false =>
      have c0 := blk_cell HT3.out.b0 0
      have c1 := blk_cell HT3.out.b0 1
      have c2 := blk_cell HT3.out.b0 2
      simp at c0 c1 c2
      cases hk0 : checkOk n0 r0 xs 20 with
      | false =>
        have HK0 := Lib.hid hk0
        clear hk0
        go_wp2_with fail
        refine (bytes_bad n0 r0 A0 l0 p0 xs w3 (HC0.out.below HT3.out.bel) HK0.out).mono ?_
        rintro e w4 ⟨rfl, hb⟩
        have HT4 := Lib.hid (HT3.out.below hb)
        clear hb c0 c1 c2
        have c0 := blk_cell HT4.out.b1 0
        have c1 := blk_cell HT4.out.b1 1
        have c2 := blk_cell HT4.out.b1 2
        simp at c0 c1 c2
        cases hk1 : checkOk n1 r1 ys 20 with
        | false =>
          have HK1 := Lib.hid hk1
          clear hk1
          go_wp2_with fail
          refine (bytes_bad n1 r1 A1 l1 p1 ys w4 (HC1.out.below HT4.out.bel) HK1.out).mono ?_
          rintro e w5 ⟨rfl, hb⟩
          have HT5 := Lib.hid (HT4.out.below hb)
          clear hb c0 c1 c2
          go_wp2_with fail
          refine (awake09 w5 (HG.out.below HT5.out.bel)).mono ?_
          rintro e wz ⟨rfl, hb⟩
          go_wp2
          go_ret
          exact ⟨rfl, (HT5.out.bel).trans (hb.mono (HT5.out.bel).size)⟩
        | true =>
          have HK1 := Lib.hid hk1
          clear hk1
          go_wp2_with fail
          refine (bytes_ok n1 r1 A1 l1 p1 ys HL1.out w4 (HC1.out.below HT4.out.bel) HK1.out HN1.out).mono ?_
          rintro e w5 ⟨vb, rfl, hown, hb⟩
          have HT5 := Lib.hid (HT4.out.below hb)
          clear hb c0 c1 c2 hown
          go_wp2_with fail
          refine (awake09 w5 (HG.out.below HT5.out.bel)).mono ?_
          rintro e wz ⟨rfl, hb⟩
          go_wp2
          go_ret
          exact ⟨rfl, (HT5.out.bel).trans (hb.mono (HT5.out.bel).size)⟩
      | true =>
        have HK0 := Lib.hid hk0
        have hlen := bytesOf_len hk0 HN0.out
        have hpos := bytesOf_pos (name := n0) (regs := r0) (xs := xs)
        clear hk0
        go_wp2_with fail
        refine (bytes_ok n0 r0 A0 l0 p0 xs HL0.out w3 (HC0.out.below HT3.out.bel) HK0.out HN0.out).mono ?_
        rintro e w4 ⟨va, rfl, hown, hb⟩
        obtain ⟨g, cg, rfl, hcg, hmx⟩ := hown.some hpos
        have HCUT : Hid (readsB ((bytesOf n0 r0 xs).take (ct % (bytesOf n0 r0 xs).length)) = false) := cut_none HK0.out HN0.out (Nat.mod_lt _ hpos)
        have HMORE : Hid (readsB (bytesOf n0 r0 xs ++ [UInt8.ofNat (ct % 256)]) = false) := more_none HK0.out HN0.out
        have HSAME : Hid (∀ h1 : checkOk n1 r1 ys 20 = true, decide (bytesOf n0 r0 xs = bytesOf n1 r1 ys) = sameB n0 r0 xs n1 r1 ys) := fun h1 => bytes_same HK0.out HN0.out h1 HN1.out
        generalize bytesOf n0 r0 xs = az at *
        have HO4 := Lib.hid hown
        have HT4 := Lib.hid (HT3.out.below hb)
        clear hb c0 c1 c2 hown
        have c0 := blk_cell HT4.out.b1 0
        have c1 := blk_cell HT4.out.b1 1
        have c2 := blk_cell HT4.out.b1 2
        simp at c0 c1 c2
        obtain ⟨la, hla⟩ : ∃ la, az.length = la := ⟨_, rfl⟩
        have HLA := Lib.hid hla
        rw [hla] at hlen hpos hcg HCUT ⊢
        clear hla
        unfold maxLen at hmx
        have hkk : ct % la < la := Nat.mod_lt _ hpos
        have e1 : ((ct : Int) % (la : Int)) = ((ct % la : Nat) : Int) := by simp
        have e2 : ((ct : Int) % 256) = ((ct % 256 : Nat) : Int) := by simp
        have hm256 : ct % 256 < 256 := Nat.mod_lt _ (by decide)
        generalize ct % la = kk at *
        generalize ct % 256 = mm at *
        cases hk1 : checkOk n1 r1 ys 20 with
        | false =>
          have HK1 := Lib.hid hk1
          clear hk1
          go_wp2_with fail
          refine (bytes_bad n1 r1 A1 l1 p1 ys w4 (HC1.out.below HT4.out.bel) HK1.out).mono ?_
          rintro e w5 ⟨rfl, hb⟩
          have HO5 := Lib.hid (HO4.out.below hb)
          have HT5 := Lib.hid (HT4.out.below hb)
          clear hb c0 c1 c2
          have hz : ((la : Int) == 0) = false := by rw [beq_eq_false_iff_ne]; omega
          go_wp2
          go_quiet (fail)
          go_wp2_with fail
          have HOW : Hid (Bytes w3.heap.size (w5.drewN nq) (.slice (some ⟨g, 0, none⟩) la cg) az) := by
            have := (HO5.out.below (below_drewN (Below.refl _ _) nq))
            rw [HLA.out] at this
            exact this
          have HBW : Hid (Below w.heap.size w (w5.drewN nq)) := HT5.out.bel.trans ((below_drewN (Below.refl w5.heap.size w5) nq).mono HT5.out.bel.size)
          refine (read_any _ (az.take kk) _ (HOW.out.reads.take kk (by rw [HLA.out]; omega)) (by rw [List.length_take]; omega)).mono ?_
          rintro e w8 ⟨cq, rfl, hcq, hb⟩
          rw [rdN_no HCUT.out]
          generalize rdRes (az.take kk) = R1 at *
          obtain ⟨nm1, rg1, cd1⟩ := R1
          dsimp only at hcq ⊢
          obtain ⟨Aq, cqq, rfl⟩ := hcq.form
          have HB8 := Lib.hid ((HBW.out.trans (hb.mono HBW.out.size)).alloc (by have := HBW.out.size; have := hb.size; omega) (.cells #[.string nm1, .int .i64 rg1, .slice Aq cd1.length cqq] 24))
          have HO8 := Lib.hid ((HOW.out.below hb).below ((Below.refl w8.heap.size w8).alloc (Nat.le_refl _) (.cells #[.string nm1, .int .i64 rg1, .slice Aq cd1.length cqq] 24)))
          clear hcq hb
          go_wp2_with fail
          refine (copyB_any _ az _ HO8.out.reads (by rw [HLA.out]; omega)).mono ?_
          rintro e w9 ⟨vc, rfl, hown, hb⟩
          obtain ⟨Ac, nc, cc, rfl⟩ := hown.form
          have HB9 := Lib.hid ((HB8.out.trans (hb.mono HB8.out.size)).alloc (by have := HB8.out.size; have := hb.size; omega) (.cells #[.int .u8 (mm : Int)] 5))
          have HO9 := Lib.hid ((own_base hown HB8.out.size : Bytes w.heap.size w9 _ az).alloc (.cells #[.int .u8 (mm : Int)] 5))
          have hc0 := Lib.hid (blk_cell (alloc_at w9 (.cells #[.int .u8 (mm : Int)] 5)) 0)
          have hla1 : Hid (az.length + 1 ≤ 140737488355328) := by
            show _ ≤ _
            rw [HLA.out]; omega
          have hsz9 : Hid (w.heap.size ≤ (w9.alloc (.cells #[.int .u8 (mm : Int)] 5)).heap.size) := HB9.out.size
          clear hown hb
          go_wp2_with (at_builtin; refine wpList_append_byte rfl (.tmp 64) (.tmp 67) rfl w.heap.size _ az mm w9.heap.size rfl HO9.out rfl hc0.out hm256 hla1.out hsz9.out ?_; intro v10 w10 hown hext; obtain ⟨Ad, nd, cd, e10⟩ := hown.form; subst e10; have HO10 := Lib.hid hown; have HB10 := Lib.hid (ext_below hext HO9.out HB9.out (Nat.le_refl _)); clear hown hext)
          refine (read_any _ (az ++ [UInt8.ofNat mm]) _ HO10.out.reads (by rw [List.length_append, HLA.out]; simp; omega)).mono ?_
          rintro e w11 ⟨cr, rfl, hcr, hb⟩
          rw [rdN_no HMORE.out]
          generalize rdRes (az ++ [UInt8.ofNat mm]) = R2 at *
          obtain ⟨nm2, rg2, cd2⟩ := R2
          dsimp only at hcr ⊢
          obtain ⟨Ar, crr, rfl⟩ := hcr.form
          have HB11 := Lib.hid ((HB10.out.trans (hb.mono HB10.out.size)).alloc (by have := HB10.out.size; have := hb.size; omega) (.cells #[.string nm2, .int .i64 rg2, .slice Ar cd2.length crr] 24))
          clear hcr hb
          go_wp2_with fail
          refine (awake09 _ (HG.out.below HB11.out)).mono ?_
          rintro e wz ⟨rfl, hb⟩
          go_wp2
          go_ret
          exact ⟨rfl, (HB11.out).trans (hb.mono (HB11.out).size)⟩
        | true =>
          have HK1 := Lib.hid hk1
          clear hk1
          go_wp2_with fail
          refine (bytes_ok n1 r1 A1 l1 p1 ys HL1.out w4 (HC1.out.below HT4.out.bel) HK1.out HN1.out).mono ?_
          rintro e w5 ⟨vb, rfl, hown, hb⟩
          obtain ⟨Ab, nb, cb, rfl⟩ := hown.form
          have HOB := Lib.hid hown
          have HO5 := Lib.hid (HO4.out.below hb)
          have HT5 := Lib.hid (HT4.out.below hb)
          have hz : ((la : Int) == 0) = false := by rw [beq_eq_false_iff_ne]; omega
          have hdr : Below w5.heap.size w5 w5.drew := below_drewN (Below.refl _ _) 1
          obtain ⟨bb, hbb⟩ : ∃ bb, sameB n0 r0 xs n1 r1 ys = bb := ⟨_, rfl⟩
          have HS1 : Hid (Calls Tryd.prog 17 #[.agg #[.string n0, .int .i64 r0, .slice A0 l0 p0], .agg #[.string n1, .int .i64 r1, .slice A1 l1 p1]] w5.drew fun e w' => e = .returned (.bool bb) ∧ Below w5.drew.heap.size w5.drew w') :=
            (same_any n0 n1 r0 r1 _ _ xs ys _ ((HC0.out.below HT5.out.bel).below hdr) ((HC1.out.below HT5.out.bel).below hdr)).mono fun e w' h => by
              obtain ⟨h1, h2⟩ := h
              rw [hbb] at h1
              exact ⟨h1, h2⟩
          have HSB : Hid (∀ w6, Below w5.drew.heap.size w5.drew w6 → Calls Tryd.prog 18 #[.slice (some ⟨g, 0, none⟩) la cg, .slice Ab nb cb] w6 fun e w' => e = .returned (.bool bb) ∧ w6 = w') := fun w6 h6 => by
            have := sameBytes_any (.slice (some ⟨g, 0, none⟩) az.length cg) (.slice Ab nb cb) az (bytesOf n1 r1 ys) w6 ((HO5.out.below hdr).below h6).reads ((HOB.out.below hdr).below h6).reads
            rw [HSAME.out HK1.out, hbb, HLA.out] at this
            exact this
          have HSB1 := Lib.hid (HSB.out w5.drew (Below.refl _ _))
          have HTD := Lib.hid (HT5.out.below hdr)
          have c0 := blk_cell HT5.out.b0 0
          have c1 := blk_cell HT5.out.b0 1
          have c2 := blk_cell HT5.out.b0 2
          have d0 := blk_cell HT5.out.b1 0
          have d1 := blk_cell HT5.out.b1 1
          have d2 := blk_cell HT5.out.b1 2
          simp at c0 c1 c2 d0 d1 d2
          have hdr0 := Lib.hid hdr
          clear hown hb hbb hdr
          go_wp2
          go_region_held3 (fun W' => W'.cell? ⟨w.heap.size, 0, none⟩ = some (.string n0) ∧ W'.cell? ⟨w.heap.size, 1, none⟩ = some (.int .i64 r0) ∧ W'.cell? ⟨w.heap.size, 2, none⟩ = some (.slice A0 l0 p0) ∧ W'.cell? ⟨w.heap.size + 1, 0, none⟩ = some (.string n1) ∧ W'.cell? ⟨w.heap.size + 1, 1, none⟩ = some (.int .i64 r1) ∧ W'.cell? ⟨w.heap.size + 1, 2, none⟩ = some (.slice A1 l1 p1)) (go_keep) ((first
            | (go_at_call 17; ((with_reducible refine HS1.out.mono ?_); rintro e w6 ⟨rfl, hb6⟩; have hq6 := HTD.out.below hb6; have c0 := blk_cell hq6.b0 0; have c1 := blk_cell hq6.b0 1; have c2 := blk_cell hq6.b0 2; have d0 := blk_cell hq6.b1 0; have d1 := blk_cell hq6.b1 1; have d2 := blk_cell hq6.b1 2; simp at c0 c1 c2 d0 d1 d2; have HB6 := Lib.hid hb6; clear hb6 hq6))
            | (go_at_call 18; ((with_reducible refine HSB1.out.mono ?_); rintro e w7 ⟨rfl, rfl⟩))
            | (go_at_call 18; ((with_reducible refine (HSB.out w6 HB6.out).mono ?_); rintro e w7 ⟨rfl, rfl⟩))))
          all_goals (
            clear c0 c1 c2 d0 d1 d2
            go_wp2_with fail
            have HOW : Hid (Bytes w3.heap.size w6 (.slice (some ⟨g, 0, none⟩) la cg) az) := by
              have := ((HO5.out.below hdr0.out).below HB6.out)
              rw [HLA.out] at this
              exact this
            have HBW : Hid (Below w.heap.size w w6) := (HTD.out.below HB6.out).bel
            refine (read_any _ (az.take kk) _ (HOW.out.reads.take kk (by rw [HLA.out]; omega)) (by rw [List.length_take]; omega)).mono ?_
            rintro e w8 ⟨cq, rfl, hcq, hb⟩
            rw [rdN_no HCUT.out]
            generalize rdRes (az.take kk) = R1 at *
            obtain ⟨nm1, rg1, cd1⟩ := R1
            dsimp only at hcq ⊢
            obtain ⟨Aq, cqq, rfl⟩ := hcq.form
            have HB8 := Lib.hid ((HBW.out.trans (hb.mono HBW.out.size)).alloc (by have := HBW.out.size; have := hb.size; omega) (.cells #[.string nm1, .int .i64 rg1, .slice Aq cd1.length cqq] 24))
            have HO8 := Lib.hid ((HOW.out.below hb).below ((Below.refl w8.heap.size w8).alloc (Nat.le_refl _) (.cells #[.string nm1, .int .i64 rg1, .slice Aq cd1.length cqq] 24)))
            clear hcq hb
            go_wp2_with fail
            refine (copyB_any _ az _ HO8.out.reads (by rw [HLA.out]; omega)).mono ?_
            rintro e w9 ⟨vc, rfl, hown, hb⟩
            obtain ⟨Ac, nc, cc, rfl⟩ := hown.form
            have HB9 := Lib.hid ((HB8.out.trans (hb.mono HB8.out.size)).alloc (by have := HB8.out.size; have := hb.size; omega) (.cells #[.int .u8 (mm : Int)] 5))
            have HO9 := Lib.hid ((own_base hown HB8.out.size : Bytes w.heap.size w9 _ az).alloc (.cells #[.int .u8 (mm : Int)] 5))
            have hc0 := Lib.hid (blk_cell (alloc_at w9 (.cells #[.int .u8 (mm : Int)] 5)) 0)
            have hla1 : Hid (az.length + 1 ≤ 140737488355328) := by
              show _ ≤ _
              rw [HLA.out]; omega
            have hsz9 : Hid (w.heap.size ≤ (w9.alloc (.cells #[.int .u8 (mm : Int)] 5)).heap.size) := HB9.out.size
            clear hown hb
            go_wp2_with (at_builtin; refine wpList_append_byte rfl (.tmp 64) (.tmp 67) rfl w.heap.size _ az mm w9.heap.size rfl HO9.out rfl hc0.out hm256 hla1.out hsz9.out ?_; intro v10 w10 hown hext; obtain ⟨Ad, nd, cd, e10⟩ := hown.form; subst e10; have HO10 := Lib.hid hown; have HB10 := Lib.hid (ext_below hext HO9.out HB9.out (Nat.le_refl _)); clear hown hext)
            refine (read_any _ (az ++ [UInt8.ofNat mm]) _ HO10.out.reads (by rw [List.length_append, HLA.out]; simp; omega)).mono ?_
            rintro e w11 ⟨cr, rfl, hcr, hb⟩
            rw [rdN_no HMORE.out]
            generalize rdRes (az ++ [UInt8.ofNat mm]) = R2 at *
            obtain ⟨nm2, rg2, cd2⟩ := R2
            dsimp only at hcr ⊢
            obtain ⟨Ar, crr, rfl⟩ := hcr.form
            have HB11 := Lib.hid ((HB10.out.trans (hb.mono HB10.out.size)).alloc (by have := HB10.out.size; have := hb.size; omega) (.cells #[.string nm2, .int .i64 rg2, .slice Ar cd2.length crr] 24))
            clear hcr hb
            go_wp2_with fail
            refine (awake09 _ (HG.out.below HB11.out)).mono ?_
            rintro e wz ⟨rfl, hb⟩
            go_wp2
            go_ret
            exact ⟨rfl, (HB11.out).trans (hb.mono (HB11.out).size)⟩)
end
theorem cuts_any (n0 n1 : ByteArray) (r0 r1 : Int) (u v : Value) (xs ys : List Ins) (ct : Int) (w : World) (hc0 : CodeAt w u xs) (hc1 : CodeAt w v ys) (hn0 : NOk xs) (hn1 : NOk ys) (hg : POK w) (h0 : 0 ≤ ct) (h1 : ct < 65536) :
    Calls Tryd.prog 6 #[.agg #[.string n0, .int .i64 r0, u], .agg #[.string n1, .int .i64 r1, v], .int .u16 ct] w (LawPost w) := by
  obtain ⟨A0, p0, rfl⟩ := hc0.form
  obtain ⟨A1, p1, rfl⟩ := hc1.form
  obtain ⟨k, rfl⟩ := Int.eq_ofNat_of_zero_le h0
  exact cuts_walk n0 n1 r0 r1 A0 A1 xs.length ys.length p0 p1 xs ys rfl rfl k (by omega) w hc0 hc1 hn0 hn1 hg
end Go.Proofs.YtckooioikcenmaaDoor

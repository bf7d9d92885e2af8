/- ProgramBack: the walk. Conditions: sizes a machine can have; the library's table of blanks reads as it is laid. -/
import Derived.Test.YtckooioikcenmaaDoorPgB3
import Derived.Test.YtckooioikcenmaaDoorPgR3
namespace Go.Proofs.YtckooioikcenmaaDoor
open Go.RowKit
theorem reads_no {ys : List UInt8} (h : readsB ys = false) : rdRes ys = ⟨⟨#[]⟩, 0, []⟩ ∧ rdN ys = 100 := by simp [rdRes, rdN, h]
theorem reads_is {ys : List UInt8} (h : readsB ys = true) : rdRes ys = (rdProg ys).1 ∧ rdN ys = 0 := by simp [rdRes, rdN, h]
def LawPost (w : World) (e : Ending) (w' : World) : Prop := e = .returned (.bool true) ∧ Below w.heap.size w w'
theorem same_self (n : ByteArray) (r : Int) (xs : List Ins) : sameB n r xs n r xs = true := by simp [sameB]
section
attribute [local go_sem] frozen?_alloc_cells World.cell?_alloc_some
set_option maxRecDepth 20000 in
set_option maxHeartbeats 4000000 in
theorem back_walk (name : ByteArray) (regs : Int) (A : Option Addr) (ln cp : Nat) (xs : List Ins) (hl : xs.length = ln) (v : Value) (bs : List UInt8) (w : World) (hc : CodeAt w (.slice A ln cp) xs) (hn : NOk xs) (hg : POK w) (hr : RdB w v bs) :
    Calls Tryd.prog 5 #[.agg #[.string name, .int .i64 regs, .slice A ln cp], v] w (LawPost w) := by
  have HC := Lib.hid hc
  have HL := Lib.hid hl
  have HG := Lib.hid hg
  have HN := Lib.hid hn
  have HR := Lib.hid hr
  have HP := Lib.hid (PBox.first w name regs (.slice A ln cp))
  obtain ⟨Av, cw, rfl, _, _⟩ := hr.form
  clear hc hl hg hn hr
  go_enter Tryd.func5, Tryd.ntmps5
  go_wp2_with fail
  refine (great_any name regs _ _ xs (HC.out.below HP.out.bel)).mono ?_
  rintro e w2 ⟨⟨r, rfl⟩, hb⟩
  have HP2 := Lib.hid (HP.out.below hb)
  clear HP hb
  cases r with
  | true =>
    go_wp2_with fail
    refine (awake09 w2 (HG.out.below HP2.out.bel)).mono ?_
    rintro e w3 ⟨rfl, hb⟩
    go_wp2
    go_ret
    exact ⟨rfl, HP2.out.bel.trans (hb.mono HP2.out.bel.size)⟩
  | false =>
    by_cases h2 : (bs.length : Int) ≤ 20000
    · have HLB : Hid (bs.length ≤ 140737488355328) := by show _ ≤ _; omega
      cases hck : checkOk name regs xs 20 with
      | true =>
        have HCK := Lib.hid hck
        have c0 := HP2.out.c0
        have c1 := HP2.out.c1
        have c2 := HP2.out.c2
        clear hck
        go_wp2_with fail
        refine (bytes_ok name regs A ln cp xs HL.out w2 (HC.out.below HP2.out.bel) HCK.out HN.out).mono ?_
        rintro e w3 ⟨vx, rfl, hown, hb⟩
        obtain ⟨Ax, nx, cx, rfl⟩ := hown.form
        have HOWN := Lib.hid hown
        have HP3 := Lib.hid (HP2.out.below hb)
        have hlx : Hid ((bytesOf name regs xs).length ≤ 140737488355328) := by
          have := part_len (n := xs.length) xs.length HCK.out HN.out (by have := (check_parts0 HCK.out).2.1; omega)
          show _ ≤ _
          rw [List.take_of_length_le (Nat.le_refl _)] at this
          have e9 : bytesOf name regs xs = blobB name.data.toList ++ uvs [regs, (xs.length : Int)] ++ xs.flatMap insB := rfl
          rw [e9]; omega
        clear hown hb c0 c1 c2
        have c0 := HP3.out.c0
        have c1 := HP3.out.c1
        have c2 := HP3.out.c2
        have HRB := Lib.hid (reads_fwd HCK.out HN.out)
        go_wp2_with fail
        refine (read_any _ (bytesOf name regs xs) w3 HOWN.out.reads hlx.out).mono ?_
        rintro e w4 ⟨cq, rfl, hcq, hb⟩
        rw [(reads_is HRB.out.1).1, (reads_is HRB.out.1).2, HRB.out.2]
        rw [(reads_is HRB.out.1).1, HRB.out.2] at hcq
        dsimp only at hcq ⊢
        obtain ⟨Aq, ce, rfl⟩ := hcq.form
        have HP4 := Lib.hid (HP3.out.below hb)
        have HCQ := Lib.hid hcq
        clear hcq hb c0 c1 c2
        have HP5 := Lib.hid (HP4.out.alloc (.cells #[.string name, .int .i64 regs, .slice Aq xs.length ce] 24))
        have c0 := HP4.out.c0
        have c1 := HP4.out.c1
        have c2 := HP4.out.c2
        have HB5 := Lib.hid ((Below.refl w4.heap.size w4).alloc (Nat.le_refl _) (.cells #[.string name, .int .i64 regs, .slice Aq xs.length ce] 24))
        rw [HL.out] at HP5 HB5 ⊢
        go_wp2_with fail
        refine (same_any name name regs regs _ _ xs xs _ (HC.out.below HP5.out.bel) ((HL.out ▸ HCQ.out).below HB5.out)).mono ?_
        rintro e w6 ⟨rfl, hb⟩
        rw [same_self]
        have HP6 := Lib.hid (HP5.out.below hb)
        clear hb c0 c1 c2
        go_wp2_with fail
        refine (read_any _ bs w6 (HR.out.below HP6.out.bel) HLB.out).mono ?_
        rintro e w7 ⟨cf, rfl, hcf, hb⟩
        have HB7 := Lib.hid (HP6.out.bel.trans (hb.mono HP6.out.bel.size))
        clear hb
        cases hrd : readsB bs with
        | false =>
          rw [(reads_no hrd).1, (reads_no hrd).2]
          rw [(reads_no hrd).1] at hcf
          dsimp only at hcf ⊢
          obtain ⟨Af, cg, rfl⟩ := hcf.form
          have HCF := Lib.hid hcf
          clear hcf hrd
          have HB8 := Lib.hid ((Below.refl w7.heap.size w7).alloc (Nat.le_refl _) (.cells #[.string ⟨#[]⟩, .int .i64 0, .slice Af 0 cg] 24))
          go_wp2_with fail
          refine (same_any ⟨#[]⟩ ⟨#[]⟩ 0 0 _ _ [] [] _ (HCF.out.below HB8.out) (.inl ⟨⟨_, _, rfl⟩, rfl⟩)).mono ?_
          rintro e w8 ⟨rfl, hb⟩
          rw [same_self]
          have HB9 := Lib.hid (below_alloc HB7.out HB7.out.size hb)
          clear hb
          go_wp2_with fail
          refine (awake09 w8 (HG.out.below HB9.out)).mono ?_
          rintro e w9 ⟨rfl, hb⟩
          go_wp2
          go_ret
          exact ⟨rfl, HB9.out.trans (hb.mono HB9.out.size)⟩
        | true =>
          rw [(reads_is hrd).1, (reads_is hrd).2]
          rw [(reads_is hrd).1] at hcf
          have HBK := Lib.hid (reads_back hrd)
          clear hrd
          generalize rdProg bs = pg at *
          obtain ⟨⟨nm, rg, cd⟩, st⟩ := pg
          dsimp only at hcf HBK ⊢
          obtain ⟨Af, cg, rfl⟩ := hcf.form
          have HCF := Lib.hid hcf
          clear hcf
          have HB8 := Lib.hid ((Below.refl w7.heap.size w7).alloc (Nat.le_refl _) (.cells #[.string nm, .int .i64 rg, .slice Af cd.length cg] 24))
          have HAT := Lib.hid (alloc_at w7 (.cells #[.string nm, .int .i64 rg, .slice Af cd.length cg] 24))
          have HS8 := Lib.hid (below_on HB7.out HB7.out.size HB8.out)
          go_wp2_with fail
          refine (bytes_ok nm rg Af cd.length cg cd rfl _ (HCF.out.below HB8.out) HBK.out.2.2 HBK.out.2.1).mono ?_
          rintro e w8 ⟨vy, rfl, hown, hb⟩
          obtain ⟨Ay, ny, cy, rfl⟩ := hown.form
          rw [← HBK.out.1] at hown
          have HOY := Lib.hid hown
          have HB9 := Lib.hid (HS8.out.trans (hb.mono HS8.out.size))
          have HA9 := Lib.hid (blk_below hb HAT.out)
          have HCG := Lib.hid ((HCF.out.below HB8.out).below hb)
          clear hown hb
          have d0 := blk_cell HA9.out 0
          have d1 := blk_cell HA9.out 1
          have d2 := blk_cell HA9.out 2
          simp at d0 d1 d2
          go_wp2_with fail
          refine (sameBytes_any _ _ bs bs w8 HOY.out.reads (HR.out.below HB9.out)).mono ?_
          rintro e w9 ⟨rfl, rfl⟩
          rw [decide_eq_true rfl]
          go_wp2_with fail
          refine (check_walk nm rg _ 20 w8 cd HCG.out).mono ?_
          rintro e w9 ⟨rfl, hb⟩
          rw [chk_yes HBK.out.2.2]
          have HB10 := Lib.hid (HB9.out.trans (hb.mono HB9.out.size))
          clear hb d0 d1 d2
          go_wp2_with fail
          refine (awake09 w9 (HG.out.below HB10.out)).mono ?_
          rintro e w10 ⟨rfl, hb⟩
          go_wp2
          go_ret
          exact ⟨rfl, HB10.out.trans (hb.mono HB10.out.size)⟩
      | false =>
        have HCK := Lib.hid hck
        have c0 := HP2.out.c0
        have c1 := HP2.out.c1
        have c2 := HP2.out.c2
        clear hck
        go_wp2_with fail
        refine (bytes_bad name regs A ln cp xs w2 (HC.out.below HP2.out.bel) HCK.out).mono ?_
        rintro e w3 ⟨rfl, hb⟩
        have HP3 := Lib.hid (HP2.out.below hb)
        clear hb c0 c1 c2
        have c0 := HP3.out.c0
        have c1 := HP3.out.c1
        have c2 := HP3.out.c2
        go_wp2_with fail
        refine (check_walk name regs _ 20 w3 xs (HC.out.below HP3.out.bel)).mono ?_
        rintro e w6 ⟨rfl, hb⟩
        rw [check_no HCK.out]
        have HP6 := Lib.hid (HP3.out.below hb)
        clear hb c0 c1 c2
        go_wp2_with fail
        refine (read_any _ bs w6 (HR.out.below HP6.out.bel) HLB.out).mono ?_
        rintro e w7 ⟨cf, rfl, hcf, hb⟩
        have HB7 := Lib.hid (HP6.out.bel.trans (hb.mono HP6.out.bel.size))
        clear hb
        cases hrd : readsB bs with
        | false =>
          rw [(reads_no hrd).1, (reads_no hrd).2]
          rw [(reads_no hrd).1] at hcf
          dsimp only at hcf ⊢
          obtain ⟨Af, cg, rfl⟩ := hcf.form
          have HCF := Lib.hid hcf
          clear hcf hrd
          have HB8 := Lib.hid ((Below.refl w7.heap.size w7).alloc (Nat.le_refl _) (.cells #[.string ⟨#[]⟩, .int .i64 0, .slice Af 0 cg] 24))
          go_wp2_with fail
          refine (same_any ⟨#[]⟩ ⟨#[]⟩ 0 0 _ _ [] [] _ (HCF.out.below HB8.out) (.inl ⟨⟨_, _, rfl⟩, rfl⟩)).mono ?_
          rintro e w8 ⟨rfl, hb⟩
          rw [same_self]
          have HB9 := Lib.hid (below_alloc HB7.out HB7.out.size hb)
          clear hb
          go_wp2_with fail
          refine (awake09 w8 (HG.out.below HB9.out)).mono ?_
          rintro e w9 ⟨rfl, hb⟩
          go_wp2
          go_ret
          exact ⟨rfl, HB9.out.trans (hb.mono HB9.out.size)⟩
        | true =>
          rw [(reads_is hrd).1, (reads_is hrd).2]
          rw [(reads_is hrd).1] at hcf
          have HBK := Lib.hid (reads_back hrd)
          clear hrd
          generalize rdProg bs = pg at *
          obtain ⟨⟨nm, rg, cd⟩, st⟩ := pg
          dsimp only at hcf HBK ⊢
          obtain ⟨Af, cg, rfl⟩ := hcf.form
          have HCF := Lib.hid hcf
          clear hcf
          have HB8 := Lib.hid ((Below.refl w7.heap.size w7).alloc (Nat.le_refl _) (.cells #[.string nm, .int .i64 rg, .slice Af cd.length cg] 24))
          have HAT := Lib.hid (alloc_at w7 (.cells #[.string nm, .int .i64 rg, .slice Af cd.length cg] 24))
          have HS8 := Lib.hid (below_on HB7.out HB7.out.size HB8.out)
          go_wp2_with fail
          refine (bytes_ok nm rg Af cd.length cg cd rfl _ (HCF.out.below HB8.out) HBK.out.2.2 HBK.out.2.1).mono ?_
          rintro e w8 ⟨vy, rfl, hown, hb⟩
          obtain ⟨Ay, ny, cy, rfl⟩ := hown.form
          rw [← HBK.out.1] at hown
          have HOY := Lib.hid hown
          have HB9 := Lib.hid (HS8.out.trans (hb.mono HS8.out.size))
          have HA9 := Lib.hid (blk_below hb HAT.out)
          have HCG := Lib.hid ((HCF.out.below HB8.out).below hb)
          clear hown hb
          have d0 := blk_cell HA9.out 0
          have d1 := blk_cell HA9.out 1
          have d2 := blk_cell HA9.out 2
          simp at d0 d1 d2
          go_wp2_with fail
          refine (sameBytes_any _ _ bs bs w8 HOY.out.reads (HR.out.below HB9.out)).mono ?_
          rintro e w9 ⟨rfl, rfl⟩
          rw [decide_eq_true rfl]
          go_wp2_with fail
          refine (check_walk nm rg _ 20 w8 cd HCG.out).mono ?_
          rintro e w9 ⟨rfl, hb⟩
          rw [chk_yes HBK.out.2.2]
          have HB10 := Lib.hid (HB9.out.trans (hb.mono HB9.out.size))
          clear hb d0 d1 d2
          go_wp2_with fail
          refine (awake09 w9 (HG.out.below HB10.out)).mono ?_
          rintro e w10 ⟨rfl, hb⟩
          go_wp2
          go_ret
          exact ⟨rfl, HB10.out.trans (hb.mono HB10.out.size)⟩
    · go_wp2_with fail
      refine (awake09 w2 (HG.out.below HP2.out.bel)).mono ?_
      rintro e w3 ⟨rfl, hb⟩
      go_wp2
      go_ret
      exact ⟨rfl, HP2.out.bel.trans (hb.mono HP2.out.bel.size)⟩
end
theorem back_any (name : ByteArray) (regs : Int) (cv v : Value) (xs : List Ins) (bs : List UInt8) (w : World) (hc : CodeAt w cv xs) (hn : NOk xs) (hg : POK w) (hr : RdB w v bs) :
    Calls Tryd.prog 5 #[.agg #[.string name, .int .i64 regs, cv], v] w (LawPost w) := by
  obtain ⟨A, c, rfl⟩ := hc.form
  exact back_walk name regs A xs.length c xs rfl v bs w hc hn hg hr
end Go.Proofs.YtckooioikcenmaaDoor

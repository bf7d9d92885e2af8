/- ProgramEnds: the walk. Conditions: the library's table of blanks reads as it is laid. -/
import Derived.Test.YtckooioikcenmaaDoorPgL1
import Derived.Test.YtckooioikcenmaaDoorPgE4
namespace Go.Proofs.YtckooioikcenmaaDoor
open Go.RowKit
set_option maxRecDepth 20000 in
set_option maxHeartbeats 4000000 in
theorem ends_walk (name : ByteArray) (regs : Int) (A : Option Addr) (ln cp : Nat) (xs : List Ins) (hl : xs.length = ln) (at_ fld : Int) (w : World) (hc : CodeAt w (.slice A xs.length cp) xs) (hg : POK w) :
    Calls Tryd.prog 3 #[.agg #[.string name, .int .i64 regs, .slice A ln cp], .int .i64 at_, .int .i64 fld] w fun e w' => e = .returned (.bool true) ∧ Below w.heap.size w w' := by
  rw [hl] at hc
  have HC := Lib.hid hc
  have HL := Lib.hid hl
  have hln : ln ≤ 9223372036854775807 := by
    rcases hc with ⟨h1, h2⟩ | ⟨b, o, c, h1, h2, h3, _⟩
    · rw [h2] at hl; simp at hl; omega
    · simp only [maxLen] at h3; omega
  clear hl
  have HG := Lib.hid hg
  clear hc hg
  have HP := Lib.hid (PBox.first w name regs (.slice A ln cp))
  go_enter Tryd.func3, Tryd.ntmps3
  go_wp2_with fail
  refine (great_any name regs _ _ xs (HC.out.below HP.out.bel)).mono ?_
  rintro e w2 ⟨⟨r, rfl⟩, hb⟩
  have HP2 := Lib.hid (HP.out.below hb)
  clear HP hb
  cases r with
  | true =>
    go_wp2_with fail
    refine (awake09 w2 (HG.out.below HP2.out.bel)).mono ?_
    rintro e w3 ⟨rfl, hb⟩
    go_wp2
    go_ret
    exact ⟨rfl, HP2.out.bel.trans (hb.mono HP2.out.bel.size)⟩
  | false =>
    have c0 := HP2.out.c0
    have c1 := HP2.out.c1
    have c2 := HP2.out.c2
    go_wp2_with fail
    refine (check_walk name regs _ _ w2 xs (HC.out.below HP2.out.bel)).mono ?_
    rintro e w3 ⟨rfl, hb⟩
    have HP3 := Lib.hid (HP2.out.below hb)
    clear c0 c1 c2 hb HP2
    by_cases hok : checkOk name regs xs 20 = true
    · rw [chk_yes hok]
      obtain ⟨hr16, h500, h1⟩ := check_bounds hok
      clear hok
      rw [HL.out] at h500 h1
      have c0 := HP3.out.c0
      have c1 := HP3.out.c1
      have c2 := HP3.out.c2
      obtain ⟨r, hr0, hr1, hpk⟩ := pick_any at_ ln w3 (by omega) (by omega)
      obtain ⟨k, rfl⟩ := Int.eq_ofNat_of_zero_le hr0
      have hk : k < ln := by omega
      obtain ⟨x, hxk⟩ : ∃ x, xs[k]? = some x := ⟨xs[k]'(by rw [HL.out]; exact hk), List.getElem?_eq_getElem _⟩
      have HXK := Lib.hid hxk
      have HPK := Lib.hid hpk
      clear hxk hpk
      go_wp2_with fail
      refine HPK.out.mono ?_
      rintro e w4 ⟨rfl, rfl⟩
      have HP4 := Lib.hid (HP3.out.alloc (.cells #[.string name, .int .i64 regs, .slice A ln cp] 24))
      have p2 := HP4.out.c2
      go_wp2_with fail
      clear p2
      refine (copy_any A ln cp xs HL.out (by omega) _ (HC.out.below HP4.out.bel)).mono ?_
      rintro e w5 ⟨v, rfl, hown, hb5⟩
      have hq := blk_below hb5 (alloc_at _ _)
      have q2 := blk_cell hq 2
      have qf2 := blk_free hq 2
      simp at q2
      have HQ := Lib.hid hq
      clear hq
      obtain ⟨g, cap, hv, hgb, hc1, hc2, hat⟩ := own_at hown (by rw [HL.out]; exact h1)
      rw [HL.out] at hv hc1
      subst hv
      have HP5 := Lib.hid (HP4.out.below hb5)
      have hg8 : w3.heap.size < g := by simp at hgb; omega
      have hgw : w.heap.size ≤ g := by have := HP3.out.bel.size; omega
      have HAT6 : Hid (OwnAt (w5.setCell ⟨w3.heap.size, 2, none⟩ (.slice (some ⟨g, 0, none⟩) ln cap)) g xs) := hat.keep (Below.heap_setCell _ _ _ _ (by show g ≠ w3.heap.size; omega))
      have HQ6 : Hid ((w5.setCell ⟨w3.heap.size, 2, none⟩ (.slice (some ⟨g, 0, none⟩) ln cap)).heap[w3.heap.size]? = some (.cells #[.string name, .int .i64 regs, .slice (some ⟨g, 0, none⟩) ln cap] 24)) := blk_set HQ.out 2 _
      have HB6 : Hid (Below w.heap.size w (w5.setCell ⟨w3.heap.size, 2, none⟩ (.slice (some ⟨g, 0, none⟩) ln cap))) := below_setCell HP5.out.bel (by show _ ≤ w3.heap.size; exact HP3.out.bel.size) _
      clear hat hown hgb HP5 HQ
      obtain ⟨r10, h100, h101, hpk10⟩ := pick_any fld 10 (w5.setCell ⟨w3.heap.size, 2, none⟩ (.slice (some ⟨g, 0, none⟩) ln cap)) (by omega) (by omega)
      obtain ⟨r5, h50, h51, hpk5⟩ := pick_any fld 5 (w5.setCell ⟨w3.heap.size, 2, none⟩ (.slice (some ⟨g, 0, none⟩) ln cap)) (by omega) (by omega)
      have HPK10 := Lib.hid hpk10
      have HPK5 := Lib.hid hpk5
      clear hpk10 hpk5
      have q6 : (w5.setCell ⟨w3.heap.size, 2, none⟩ (.slice (some ⟨g, 0, none⟩) ln cap)).cell? ⟨w3.heap.size, 2, none⟩ = some (.slice (some ⟨g, 0, none⟩) ln cap) := by rw [blk_cell HQ6.out]; rfl
      have z0 : Hid (∀ o v, ((w5.setCell ⟨w3.heap.size, 2, none⟩ (.slice (some ⟨g, 0, none⟩) ln cap)).setCell ⟨g, o, none⟩ v).cell? ⟨w3.heap.size, 0, none⟩ = some (.string name)) := fun o v => by
        rw [blk_cell (blk_set_ne HQ6.out _ (by show w3.heap.size ≠ g; omega))]; rfl
      have z1 : Hid (∀ o v, ((w5.setCell ⟨w3.heap.size, 2, none⟩ (.slice (some ⟨g, 0, none⟩) ln cap)).setCell ⟨g, o, none⟩ v).cell? ⟨w3.heap.size, 1, none⟩ = some (.int .i64 regs)) := fun o v => by
        rw [blk_cell (blk_set_ne HQ6.out _ (by show w3.heap.size ≠ g; omega))]; rfl
      have z2 : Hid (∀ o v, ((w5.setCell ⟨w3.heap.size, 2, none⟩ (.slice (some ⟨g, 0, none⟩) ln cap)).setCell ⟨g, o, none⟩ v).cell? ⟨w3.heap.size, 2, none⟩ = some (.slice (some ⟨g, 0, none⟩) ln cap)) := fun o v => by
        rw [blk_cell (blk_set_ne HQ6.out _ (by show w3.heap.size ≠ g; omega))]; rfl
      have hkl : k < ln := hk
      go_wp2_with fail
      generalize w5.setCell ⟨w3.heap.size, 2, none⟩ (.slice (some ⟨g, 0, none⟩) ln cap) = w6 at *
      refine HPK10.out.mono ?_
      rintro e w7 ⟨rfl, rfl⟩
      clear c0 c1 c2 q2 qf2 HPK10 hb5
      have h5 : r5 = 0 ∨ r5 = 1 ∨ r5 = 2 ∨ r5 = 3 ∨ r5 = 4 := by omega
      by_cases hneg : 5 ≤ r10
      · rcases h5 with rfl | rfl | rfl | rfl | rfl
        · have HBAD : Hid (checkN name regs (xs.set k { x with a := (-1) }) 20 = 100) := check_no (check_set (by rw [HL.out]; exact hk) (by rw [HL.out]; exact far_a (i := x) (n := (-1)) (.inr rfl) hr16 h500))
          have s1 : w6.cell? ⟨g, k * 6 + 1, none⟩ = some (.int .i64 x.a) := HAT6.out.cell HXK.out (j := 1) (by omega)
          have f1 := HAT6.out.free (k * 6 + 1)
          have HN6 : Hid (OwnAt (w6.setCell ⟨g, k * 6 + 1, none⟩ (.int .i64 (-1))) g (xs.set k { x with a := (-1) })) := HAT6.out.set HXK.out (by omega) rfl (fun j' h1 h2 => by
            have h3 : j' = 0 ∨ j' = 1 ∨ j' = 2 ∨ j' = 3 ∨ j' = 4 ∨ j' = 5 := by omega
            rcases h3 with rfl | rfl | rfl | rfl | rfl | rfl <;> first | rfl | exact absurd rfl h2)
          have HB7 : Hid (Below w.heap.size w (w6.setCell ⟨g, k * 6 + 1, none⟩ (.int .i64 (-1)))) := below_setCell HB6.out (by show _ ≤ g; omega) _
          have z0' := z0.out (k * 6 + 1) (.int .i64 (-1))
          have z1' := z1.out (k * 6 + 1) (.int .i64 (-1))
          have z2' := z2.out (k * 6 + 1) (.int .i64 (-1))
          go_wp2_with fail
          refine HPK5.out.mono ?_
          rintro e w7 ⟨rfl, rfl⟩
          go_wp2_with fail
          refine (check_walk name regs _ _ _ _ (by
            have := HN6.out.code (cap := cap) (by rw [List.length_set, HL.out]; exact hc1) hc2
            rw [List.length_set, HL.out] at this
            exact this)).mono ?_
          rintro e w8 ⟨rfl, hb8⟩
          rw [HBAD.out]
          have HB8 := Lib.hid (HB7.out.trans (hb8.mono HB7.out.size))
          clear hb8
          go_wp2_with fail
          refine (awake09 w8 (HG.out.below HB8.out)).mono ?_
          rintro e w9 ⟨rfl, hb⟩
          go_wp2
          go_ret
          exact ⟨rfl, HB8.out.trans (hb.mono HB8.out.size)⟩
        · have HBAD : Hid (checkN name regs (xs.set k { x with b := (-1) }) 20 = 100) := check_no (check_set (by rw [HL.out]; exact hk) (by rw [HL.out]; exact far_b (i := x) (n := (-1)) (.inr rfl) hr16 h500))
          have s1 : w6.cell? ⟨g, k * 6 + 2, none⟩ = some (.int .i64 x.b) := HAT6.out.cell HXK.out (j := 2) (by omega)
          have f1 := HAT6.out.free (k * 6 + 2)
          have HN6 : Hid (OwnAt (w6.setCell ⟨g, k * 6 + 2, none⟩ (.int .i64 (-1))) g (xs.set k { x with b := (-1) })) := HAT6.out.set HXK.out (by omega) rfl (fun j' h1 h2 => by
            have h3 : j' = 0 ∨ j' = 1 ∨ j' = 2 ∨ j' = 3 ∨ j' = 4 ∨ j' = 5 := by omega
            rcases h3 with rfl | rfl | rfl | rfl | rfl | rfl <;> first | rfl | exact absurd rfl h2)
          have HB7 : Hid (Below w.heap.size w (w6.setCell ⟨g, k * 6 + 2, none⟩ (.int .i64 (-1)))) := below_setCell HB6.out (by show _ ≤ g; omega) _
          have z0' := z0.out (k * 6 + 2) (.int .i64 (-1))
          have z1' := z1.out (k * 6 + 2) (.int .i64 (-1))
          have z2' := z2.out (k * 6 + 2) (.int .i64 (-1))
          go_wp2_with fail
          refine HPK5.out.mono ?_
          rintro e w7 ⟨rfl, rfl⟩
          go_wp2_with fail
          refine (check_walk name regs _ _ _ _ (by
            have := HN6.out.code (cap := cap) (by rw [List.length_set, HL.out]; exact hc1) hc2
            rw [List.length_set, HL.out] at this
            exact this)).mono ?_
          rintro e w8 ⟨rfl, hb8⟩
          rw [HBAD.out]
          have HB8 := Lib.hid (HB7.out.trans (hb8.mono HB7.out.size))
          clear hb8
          go_wp2_with fail
          refine (awake09 w8 (HG.out.below HB8.out)).mono ?_
          rintro e w9 ⟨rfl, hb⟩
          go_wp2
          go_ret
          exact ⟨rfl, HB8.out.trans (hb.mono HB8.out.size)⟩
        · have HBAD : Hid (checkN name regs (xs.set k { x with c := (-1) }) 20 = 100) := check_no (check_set (by rw [HL.out]; exact hk) (by rw [HL.out]; exact far_c (i := x) (n := (-1)) (.inr rfl) hr16 h500))
          have s1 : w6.cell? ⟨g, k * 6 + 3, none⟩ = some (.int .i64 x.c) := HAT6.out.cell HXK.out (j := 3) (by omega)
          have f1 := HAT6.out.free (k * 6 + 3)
          have HN6 : Hid (OwnAt (w6.setCell ⟨g, k * 6 + 3, none⟩ (.int .i64 (-1))) g (xs.set k { x with c := (-1) })) := HAT6.out.set HXK.out (by omega) rfl (fun j' h1 h2 => by
            have h3 : j' = 0 ∨ j' = 1 ∨ j' = 2 ∨ j' = 3 ∨ j' = 4 ∨ j' = 5 := by omega
            rcases h3 with rfl | rfl | rfl | rfl | rfl | rfl <;> first | rfl | exact absurd rfl h2)
          have HB7 : Hid (Below w.heap.size w (w6.setCell ⟨g, k * 6 + 3, none⟩ (.int .i64 (-1)))) := below_setCell HB6.out (by show _ ≤ g; omega) _
          have z0' := z0.out (k * 6 + 3) (.int .i64 (-1))
          have z1' := z1.out (k * 6 + 3) (.int .i64 (-1))
          have z2' := z2.out (k * 6 + 3) (.int .i64 (-1))
          go_wp2_with fail
          refine HPK5.out.mono ?_
          rintro e w7 ⟨rfl, rfl⟩
          go_wp2_with fail
          refine (check_walk name regs _ _ _ _ (by
            have := HN6.out.code (cap := cap) (by rw [List.length_set, HL.out]; exact hc1) hc2
            rw [List.length_set, HL.out] at this
            exact this)).mono ?_
          rintro e w8 ⟨rfl, hb8⟩
          rw [HBAD.out]
          have HB8 := Lib.hid (HB7.out.trans (hb8.mono HB7.out.size))
          clear hb8
          go_wp2_with fail
          refine (awake09 w8 (HG.out.below HB8.out)).mono ?_
          rintro e w9 ⟨rfl, hb⟩
          go_wp2
          go_ret
          exact ⟨rfl, HB8.out.trans (hb.mono HB8.out.size)⟩
        · have s0 : w6.cell? ⟨g, k * 6, none⟩ = some (.int .u8 x.op) := HAT6.out.cell HXK.out (j := 0) (by omega)
          by_cases ho : x.op = 1
          · rw [ho] at s0
            go_wp2_with fail
            refine HPK5.out.mono ?_
            rintro e w7 ⟨rfl, rfl⟩
            go_wp2_with fail
            refine (awake09 w6 (HG.out.below HB6.out)).mono ?_
            rintro e w9 ⟨rfl, hb⟩
            go_wp2
            go_ret
            exact ⟨rfl, HB6.out.trans (hb.mono HB6.out.size)⟩
          · have HBAD : Hid (checkN name regs (xs.set k { x with n := (-1) }) 20 = 100) := check_no (check_set (by rw [HL.out]; exact hk) (by rw [HL.out]; exact far_n (i := x) (n := (-1)) (.inr rfl) ho hr16 h500))
            have s1 : w6.cell? ⟨g, k * 6 + 4, none⟩ = some (.int .i64 x.n) := HAT6.out.cell HXK.out (j := 4) (by omega)
            have f1 := HAT6.out.free (k * 6 + 4)
            have HN6 : Hid (OwnAt (w6.setCell ⟨g, k * 6 + 4, none⟩ (.int .i64 (-1))) g (xs.set k { x with n := (-1) })) := HAT6.out.set HXK.out (by omega) rfl (fun j' h1 h2 => by
              have h3 : j' = 0 ∨ j' = 1 ∨ j' = 2 ∨ j' = 3 ∨ j' = 4 ∨ j' = 5 := by omega
              rcases h3 with rfl | rfl | rfl | rfl | rfl | rfl <;> first | rfl | exact absurd rfl h2)
            have HB7 : Hid (Below w.heap.size w (w6.setCell ⟨g, k * 6 + 4, none⟩ (.int .i64 (-1)))) := below_setCell HB6.out (by show _ ≤ g; omega) _
            have z0' := z0.out (k * 6 + 4) (.int .i64 (-1))
            have z1' := z1.out (k * 6 + 4) (.int .i64 (-1))
            have z2' := z2.out (k * 6 + 4) (.int .i64 (-1))
            go_wp2_with fail
            refine HPK5.out.mono ?_
            rintro e w7 ⟨rfl, rfl⟩
            go_wp2_with fail
            refine (check_walk name regs _ _ _ _ (by
              have := HN6.out.code (cap := cap) (by rw [List.length_set, HL.out]; exact hc1) hc2
              rw [List.length_set, HL.out] at this
              exact this)).mono ?_
            rintro e w8 ⟨rfl, hb8⟩
            rw [HBAD.out]
            have HB8 := Lib.hid (HB7.out.trans (hb8.mono HB7.out.size))
            clear hb8
            go_wp2_with fail
            refine (awake09 w8 (HG.out.below HB8.out)).mono ?_
            rintro e w9 ⟨rfl, hb⟩
            go_wp2
            go_ret
            exact ⟨rfl, HB8.out.trans (hb.mono HB8.out.size)⟩
        · obtain ⟨S, hS, hconv⟩ := nought_text w6
          have hmk := nought_make w6
          have HBAD : Hid (checkN name regs (xs.set k { x with s := S }) 20 = 100) := check_no (check_set (by rw [HL.out]; exact hk) (by rw [HL.out]; exact far_s hS))
          have HQz := blk_alloc HQ6.out noughtZ
          have HATz : OwnAt (w6.alloc noughtZ) g xs := HAT6.out.keep (by
            obtain ⟨cur, h8, _⟩ := HAT6.out
            rw [h8]; exact blk_alloc h8 _)
          have s1 : (w6.alloc noughtZ).cell? ⟨g, k * 6 + 5, none⟩ = some (.string x.s) := HATz.cell HXK.out (j := 5) (by omega)
          have f1 := HATz.free (k * 6 + 5)
          have HN6 : Hid (OwnAt ((w6.alloc noughtZ).setCell ⟨g, k * 6 + 5, none⟩ (.string S)) g (xs.set k { x with s := S })) := HATz.set HXK.out (by omega) rfl (fun j' h1 h2 => by
            have h3 : j' = 0 ∨ j' = 1 ∨ j' = 2 ∨ j' = 3 ∨ j' = 4 ∨ j' = 5 := by omega
            rcases h3 with rfl | rfl | rfl | rfl | rfl | rfl <;> first | rfl | exact absurd rfl h2)
          have HB7 : Hid (Below w.heap.size w ((w6.alloc noughtZ).setCell ⟨g, k * 6 + 5, none⟩ (.string S))) := below_setCell (HB6.out.alloc HB6.out.size _) (by show _ ≤ g; omega) _
          have z0' : ((w6.alloc noughtZ).setCell ⟨g, k * 6 + 5, none⟩ (.string S)).cell? ⟨w3.heap.size, 0, none⟩ = some (.string name) := by
            rw [blk_cell (blk_set_ne HQz _ (by show w3.heap.size ≠ g; omega))]; rfl
          have z1' : ((w6.alloc noughtZ).setCell ⟨g, k * 6 + 5, none⟩ (.string S)).cell? ⟨w3.heap.size, 1, none⟩ = some (.int .i64 regs) := by
            rw [blk_cell (blk_set_ne HQz _ (by show w3.heap.size ≠ g; omega))]; rfl
          have z2' : ((w6.alloc noughtZ).setCell ⟨g, k * 6 + 5, none⟩ (.string S)).cell? ⟨w3.heap.size, 2, none⟩ = some (.slice (some ⟨g, 0, none⟩) ln cap) := by
            rw [blk_cell (blk_set_ne HQz _ (by show w3.heap.size ≠ g; omega))]; rfl
          clear HQz HATz hS
          go_wp2_with fail
          refine HPK5.out.mono ?_
          rintro e w7 ⟨rfl, rfl⟩
          go_wp2_with fail
          refine (check_walk name regs _ _ _ _ (by
            have := HN6.out.code (cap := cap) (by rw [List.length_set, HL.out]; exact hc1) hc2
            rw [List.length_set, HL.out] at this
            exact this)).mono ?_
          rintro e w8 ⟨rfl, hb8⟩
          rw [HBAD.out]
          have HB8 := Lib.hid (HB7.out.trans (hb8.mono HB7.out.size))
          clear hb8
          go_wp2_with fail
          refine (awake09 w8 (HG.out.below HB8.out)).mono ?_
          rintro e w9 ⟨rfl, hb⟩
          go_wp2
          go_ret
          exact ⟨rfl, HB8.out.trans (hb.mono HB8.out.size)⟩
      · rcases h5 with rfl | rfl | rfl | rfl | rfl
        · have HBAD : Hid (checkN name regs (xs.set k { x with a := 1073741824 }) 20 = 100) := check_no (check_set (by rw [HL.out]; exact hk) (by rw [HL.out]; exact far_a (i := x) (n := 1073741824) (.inl rfl) hr16 h500))
          have s1 : w6.cell? ⟨g, k * 6 + 1, none⟩ = some (.int .i64 x.a) := HAT6.out.cell HXK.out (j := 1) (by omega)
          have f1 := HAT6.out.free (k * 6 + 1)
          have HN6 : Hid (OwnAt (w6.setCell ⟨g, k * 6 + 1, none⟩ (.int .i64 1073741824)) g (xs.set k { x with a := 1073741824 })) := HAT6.out.set HXK.out (by omega) rfl (fun j' h1 h2 => by
            have h3 : j' = 0 ∨ j' = 1 ∨ j' = 2 ∨ j' = 3 ∨ j' = 4 ∨ j' = 5 := by omega
            rcases h3 with rfl | rfl | rfl | rfl | rfl | rfl <;> first | rfl | exact absurd rfl h2)
          have HB7 : Hid (Below w.heap.size w (w6.setCell ⟨g, k * 6 + 1, none⟩ (.int .i64 1073741824))) := below_setCell HB6.out (by show _ ≤ g; omega) _
          have z0' := z0.out (k * 6 + 1) (.int .i64 1073741824)
          have z1' := z1.out (k * 6 + 1) (.int .i64 1073741824)
          have z2' := z2.out (k * 6 + 1) (.int .i64 1073741824)
          go_wp2_with fail
          refine HPK5.out.mono ?_
          rintro e w7 ⟨rfl, rfl⟩
          go_wp2_with fail
          refine (check_walk name regs _ _ _ _ (by
            have := HN6.out.code (cap := cap) (by rw [List.length_set, HL.out]; exact hc1) hc2
            rw [List.length_set, HL.out] at this
            exact this)).mono ?_
          rintro e w8 ⟨rfl, hb8⟩
          rw [HBAD.out]
          have HB8 := Lib.hid (HB7.out.trans (hb8.mono HB7.out.size))
          clear hb8
          go_wp2_with fail
          refine (awake09 w8 (HG.out.below HB8.out)).mono ?_
          rintro e w9 ⟨rfl, hb⟩
          go_wp2
          go_ret
          exact ⟨rfl, HB8.out.trans (hb.mono HB8.out.size)⟩
        · have HBAD : Hid (checkN name regs (xs.set k { x with b := 1073741824 }) 20 = 100) := check_no (check_set (by rw [HL.out]; exact hk) (by rw [HL.out]; exact far_b (i := x) (n := 1073741824) (.inl rfl) hr16 h500))
          have s1 : w6.cell? ⟨g, k * 6 + 2, none⟩ = some (.int .i64 x.b) := HAT6.out.cell HXK.out (j := 2) (by omega)
          have f1 := HAT6.out.free (k * 6 + 2)
          have HN6 : Hid (OwnAt (w6.setCell ⟨g, k * 6 + 2, none⟩ (.int .i64 1073741824)) g (xs.set k { x with b := 1073741824 })) := HAT6.out.set HXK.out (by omega) rfl (fun j' h1 h2 => by
            have h3 : j' = 0 ∨ j' = 1 ∨ j' = 2 ∨ j' = 3 ∨ j' = 4 ∨ j' = 5 := by omega
            rcases h3 with rfl | rfl | rfl | rfl | rfl | rfl <;> first | rfl | exact absurd rfl h2)
          have HB7 : Hid (Below w.heap.size w (w6.setCell ⟨g, k * 6 + 2, none⟩ (.int .i64 1073741824))) := below_setCell HB6.out (by show _ ≤ g; omega) _
          have z0' := z0.out (k * 6 + 2) (.int .i64 1073741824)
          have z1' := z1.out (k * 6 + 2) (.int .i64 1073741824)
          have z2' := z2.out (k * 6 + 2) (.int .i64 1073741824)
          go_wp2_with fail
          refine HPK5.out.mono ?_
          rintro e w7 ⟨rfl, rfl⟩
          go_wp2_with fail
          refine (check_walk name regs _ _ _ _ (by
            have := HN6.out.code (cap := cap) (by rw [List.length_set, HL.out]; exact hc1) hc2
            rw [List.length_set, HL.out] at this
            exact this)).mono ?_
          rintro e w8 ⟨rfl, hb8⟩
          rw [HBAD.out]
          have HB8 := Lib.hid (HB7.out.trans (hb8.mono HB7.out.size))
          clear hb8
          go_wp2_with fail
          refine (awake09 w8 (HG.out.below HB8.out)).mono ?_
          rintro e w9 ⟨rfl, hb⟩
          go_wp2
          go_ret
          exact ⟨rfl, HB8.out.trans (hb.mono HB8.out.size)⟩
        · have HBAD : Hid (checkN name regs (xs.set k { x with c := 1073741824 }) 20 = 100) := check_no (check_set (by rw [HL.out]; exact hk) (by rw [HL.out]; exact far_c (i := x) (n := 1073741824) (.inl rfl) hr16 h500))
          have s1 : w6.cell? ⟨g, k * 6 + 3, none⟩ = some (.int .i64 x.c) := HAT6.out.cell HXK.out (j := 3) (by omega)
          have f1 := HAT6.out.free (k * 6 + 3)
          have HN6 : Hid (OwnAt (w6.setCell ⟨g, k * 6 + 3, none⟩ (.int .i64 1073741824)) g (xs.set k { x with c := 1073741824 })) := HAT6.out.set HXK.out (by omega) rfl (fun j' h1 h2 => by
            have h3 : j' = 0 ∨ j' = 1 ∨ j' = 2 ∨ j' = 3 ∨ j' = 4 ∨ j' = 5 := by omega
            rcases h3 with rfl | rfl | rfl | rfl | rfl | rfl <;> first | rfl | exact absurd rfl h2)
          have HB7 : Hid (Below w.heap.size w (w6.setCell ⟨g, k * 6 + 3, none⟩ (.int .i64 1073741824))) := below_setCell HB6.out (by show _ ≤ g; omega) _
          have z0' := z0.out (k * 6 + 3) (.int .i64 1073741824)
          have z1' := z1.out (k * 6 + 3) (.int .i64 1073741824)
          have z2' := z2.out (k * 6 + 3) (.int .i64 1073741824)
          go_wp2_with fail
          refine HPK5.out.mono ?_
          rintro e w7 ⟨rfl, rfl⟩
          go_wp2_with fail
          refine (check_walk name regs _ _ _ _ (by
            have := HN6.out.code (cap := cap) (by rw [List.length_set, HL.out]; exact hc1) hc2
            rw [List.length_set, HL.out] at this
            exact this)).mono ?_
          rintro e w8 ⟨rfl, hb8⟩
          rw [HBAD.out]
          have HB8 := Lib.hid (HB7.out.trans (hb8.mono HB7.out.size))
          clear hb8
          go_wp2_with fail
          refine (awake09 w8 (HG.out.below HB8.out)).mono ?_
          rintro e w9 ⟨rfl, hb⟩
          go_wp2
          go_ret
          exact ⟨rfl, HB8.out.trans (hb.mono HB8.out.size)⟩
        · have s0 : w6.cell? ⟨g, k * 6, none⟩ = some (.int .u8 x.op) := HAT6.out.cell HXK.out (j := 0) (by omega)
          by_cases ho : x.op = 1
          · rw [ho] at s0
            go_wp2_with fail
            refine HPK5.out.mono ?_
            rintro e w7 ⟨rfl, rfl⟩
            go_wp2_with fail
            refine (awake09 w6 (HG.out.below HB6.out)).mono ?_
            rintro e w9 ⟨rfl, hb⟩
            go_wp2
            go_ret
            exact ⟨rfl, HB6.out.trans (hb.mono HB6.out.size)⟩
          · have HBAD : Hid (checkN name regs (xs.set k { x with n := 1073741824 }) 20 = 100) := check_no (check_set (by rw [HL.out]; exact hk) (by rw [HL.out]; exact far_n (i := x) (n := 1073741824) (.inl rfl) ho hr16 h500))
            have s1 : w6.cell? ⟨g, k * 6 + 4, none⟩ = some (.int .i64 x.n) := HAT6.out.cell HXK.out (j := 4) (by omega)
            have f1 := HAT6.out.free (k * 6 + 4)
            have HN6 : Hid (OwnAt (w6.setCell ⟨g, k * 6 + 4, none⟩ (.int .i64 1073741824)) g (xs.set k { x with n := 1073741824 })) := HAT6.out.set HXK.out (by omega) rfl (fun j' h1 h2 => by
              have h3 : j' = 0 ∨ j' = 1 ∨ j' = 2 ∨ j' = 3 ∨ j' = 4 ∨ j' = 5 := by omega
              rcases h3 with rfl | rfl | rfl | rfl | rfl | rfl <;> first | rfl | exact absurd rfl h2)
            have HB7 : Hid (Below w.heap.size w (w6.setCell ⟨g, k * 6 + 4, none⟩ (.int .i64 1073741824))) := below_setCell HB6.out (by show _ ≤ g; omega) _
            have z0' := z0.out (k * 6 + 4) (.int .i64 1073741824)
            have z1' := z1.out (k * 6 + 4) (.int .i64 1073741824)
            have z2' := z2.out (k * 6 + 4) (.int .i64 1073741824)
            go_wp2_with fail
            refine HPK5.out.mono ?_
            rintro e w7 ⟨rfl, rfl⟩
            go_wp2_with fail
            refine (check_walk name regs _ _ _ _ (by
              have := HN6.out.code (cap := cap) (by rw [List.length_set, HL.out]; exact hc1) hc2
              rw [List.length_set, HL.out] at this
              exact this)).mono ?_
            rintro e w8 ⟨rfl, hb8⟩
            rw [HBAD.out]
            have HB8 := Lib.hid (HB7.out.trans (hb8.mono HB7.out.size))
            clear hb8
            go_wp2_with fail
            refine (awake09 w8 (HG.out.below HB8.out)).mono ?_
            rintro e w9 ⟨rfl, hb⟩
            go_wp2
            go_ret
            exact ⟨rfl, HB8.out.trans (hb.mono HB8.out.size)⟩
        · obtain ⟨S, hS, hconv⟩ := nought_text w6
          have hmk := nought_make w6
          have HBAD : Hid (checkN name regs (xs.set k { x with s := S }) 20 = 100) := check_no (check_set (by rw [HL.out]; exact hk) (by rw [HL.out]; exact far_s hS))
          have HQz := blk_alloc HQ6.out noughtZ
          have HATz : OwnAt (w6.alloc noughtZ) g xs := HAT6.out.keep (by
            obtain ⟨cur, h8, _⟩ := HAT6.out
            rw [h8]; exact blk_alloc h8 _)
          have s1 : (w6.alloc noughtZ).cell? ⟨g, k * 6 + 5, none⟩ = some (.string x.s) := HATz.cell HXK.out (j := 5) (by omega)
          have f1 := HATz.free (k * 6 + 5)
          have HN6 : Hid (OwnAt ((w6.alloc noughtZ).setCell ⟨g, k * 6 + 5, none⟩ (.string S)) g (xs.set k { x with s := S })) := HATz.set HXK.out (by omega) rfl (fun j' h1 h2 => by
            have h3 : j' = 0 ∨ j' = 1 ∨ j' = 2 ∨ j' = 3 ∨ j' = 4 ∨ j' = 5 := by omega
            rcases h3 with rfl | rfl | rfl | rfl | rfl | rfl <;> first | rfl | exact absurd rfl h2)
          have HB7 : Hid (Below w.heap.size w ((w6.alloc noughtZ).setCell ⟨g, k * 6 + 5, none⟩ (.string S))) := below_setCell (HB6.out.alloc HB6.out.size _) (by show _ ≤ g; omega) _
          have z0' : ((w6.alloc noughtZ).setCell ⟨g, k * 6 + 5, none⟩ (.string S)).cell? ⟨w3.heap.size, 0, none⟩ = some (.string name) := by
            rw [blk_cell (blk_set_ne HQz _ (by show w3.heap.size ≠ g; omega))]; rfl
          have z1' : ((w6.alloc noughtZ).setCell ⟨g, k * 6 + 5, none⟩ (.string S)).cell? ⟨w3.heap.size, 1, none⟩ = some (.int .i64 regs) := by
            rw [blk_cell (blk_set_ne HQz _ (by show w3.heap.size ≠ g; omega))]; rfl
          have z2' : ((w6.alloc noughtZ).setCell ⟨g, k * 6 + 5, none⟩ (.string S)).cell? ⟨w3.heap.size, 2, none⟩ = some (.slice (some ⟨g, 0, none⟩) ln cap) := by
            rw [blk_cell (blk_set_ne HQz _ (by show w3.heap.size ≠ g; omega))]; rfl
          clear HQz HATz hS
          go_wp2_with fail
          refine HPK5.out.mono ?_
          rintro e w7 ⟨rfl, rfl⟩
          go_wp2_with fail
          refine (check_walk name regs _ _ _ _ (by
            have := HN6.out.code (cap := cap) (by rw [List.length_set, HL.out]; exact hc1) hc2
            rw [List.length_set, HL.out] at this
            exact this)).mono ?_
          rintro e w8 ⟨rfl, hb8⟩
          rw [HBAD.out]
          have HB8 := Lib.hid (HB7.out.trans (hb8.mono HB7.out.size))
          clear hb8
          go_wp2_with fail
          refine (awake09 w8 (HG.out.below HB8.out)).mono ?_
          rintro e w9 ⟨rfl, hb⟩
          go_wp2
          go_ret
          exact ⟨rfl, HB8.out.trans (hb.mono HB8.out.size)⟩
    · rw [Bool.not_eq_true] at hok
      rw [check_no hok]
      clear hok
      go_wp2_with fail
      refine (awake09 w3 (HG.out.below HP3.out.bel)).mono ?_
      rintro e w9 ⟨rfl, hb⟩
      go_wp2
      go_ret
      exact ⟨rfl, HP3.out.bel.trans (hb.mono HP3.out.bel.size)⟩
theorem ends_any (name : ByteArray) (regs : Int) (cv : Value) (xs : List Ins) (a b : Int) (w : World) (hc : CodeAt w cv xs) (hg : POK w) :
    Calls Tryd.prog 3 #[.agg #[.string name, .int .i64 regs, cv], .int .i64 a, .int .i64 b] w fun e w' => e = .returned (.bool true) ∧ Below w.heap.size w w' := by
  obtain ⟨A, cp, rfl⟩ : ∃ A cp, cv = .slice A xs.length cp := by
    rcases hc with ⟨⟨A, c, rfl⟩, rfl⟩ | ⟨b, o, c, rfl, _⟩
    · exact ⟨A, c, rfl⟩
    · exact ⟨_, c, rfl⟩
  exact ends_walk name regs A xs.length cp xs rfl a b w hc hg
end Go.Proofs.YtckooioikcenmaaDoor

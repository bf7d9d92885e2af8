/- ProgramPolicies: the walk. Conditions: the library's table of blanks reads as it is laid. -/
import Derived.Test.YtckooioikcenmaaDoorPgW8
import Derived.Test.YtckooioikcenmaaDoorPgW9
namespace Go.Proofs.YtckooioikcenmaaDoor
open Go.RowKit
theorem chk_yes {name : ByteArray} {regs : Int} {xs : List Ins} {p : Int} (h : checkOk name regs xs p = true) : checkN name regs xs p = 0 := by simp [checkN, h]
theorem chk_range (name : ByteArray) (regs : Int) (xs : List Ins) (p : Int) : checkN name regs xs p = 0 ∨ checkN name regs xs p = 100 := by unfold checkN; split <;> simp
section
attribute [local go_sem] frozen?_alloc_cells World.cell?_alloc_some
set_option maxRecDepth 20000 in
set_option maxHeartbeats 4000000 in
theorem policies_walk (name : ByteArray) (regs : Int) (A : Option Addr) (ln cp : Nat) (xs : List Ins) (hl : xs.length = ln) (a b : Int) (w : World) (hc : CodeAt w (.slice A xs.length cp) xs) (hg : POK w) (ha0 : 0 ≤ a) (ha1 : a < 256) (hb0 : 0 ≤ b) (hb1 : b < 256) :
    Calls Tryd.prog 4 #[.agg #[.string name, .int .i64 regs, .slice A ln cp], .int .u8 a, .int .u8 b] w fun e w' => e = .returned (.bool true) ∧ Below w.heap.size w w' := by
  rw [hl] at hc
  have HC := Lib.hid hc
  have HL := Lib.hid hl
  have hln : ln ≤ 9223372036854775807 := by
    rcases hc with ⟨h1, h2⟩ | ⟨b, o, c, h1, h2, h3, _⟩
    · rw [h2] at hl; simp at hl; omega
    · simp only [maxLen] at h3; omega
  clear hl
  have HG := Lib.hid hg
  clear hc hg
  have HP := Lib.hid (PBox.first w name regs (.slice A ln cp))
  go_enter Tryd.func4, Tryd.ntmps4
  go_wp2_with fail
  refine (great_any name regs _ _ xs (HC.out.below HP.out.bel)).mono ?_
  rintro e w2 ⟨⟨r, rfl⟩, hb⟩
  have HP2 := Lib.hid (HP.out.below hb)
  clear HP hb
  cases r with
  | true =>
    go_wp2_with fail
    refine (awake09 w2 (HG.out.below HP2.out.bel)).mono ?_
    rintro e w3 ⟨rfl, hb⟩
    go_wp2
    go_ret
    exact ⟨rfl, HP2.out.bel.trans (hb.mono HP2.out.bel.size)⟩
  | false =>
    have c0 := HP2.out.c0
    have c1 := HP2.out.c1
    have c2 := HP2.out.c2
    have hlo0 : 0 ≤ min a b % 21 := by omega
    have hlo1 : min a b % 21 < 21 := by omega
    have hm0 : 0 ≤ max a b % 5 := by omega
    have hm1 : max a b % 5 < 5 := by omega
    go_wp2_with fail
    generalize min a b % 21 = lo at *
    generalize max a b % 5 = mm at *
    refine (check_walk name regs _ lo w2 xs (HC.out.below HP2.out.bel)).mono ?_
    rintro e w3 ⟨rfl, hb⟩
    have HP3 := Lib.hid (HP2.out.below hb)
    clear c0 c1 c2 hb HP2
    by_cases hlo : checkOk name regs xs lo = true
    · rw [chk_yes hlo]
      have E2 : Hid (checkN name regs xs (lo + mm) = 0) := chk_yes (check_mono (by omega) hlo)
      clear hlo
      have c0 := HP3.out.c0
      have c1 := HP3.out.c1
      have c2 := HP3.out.c2
      go_wp2_with fail
      refine (check_walk name regs _ _ w3 xs (HC.out.below HP3.out.bel)).mono ?_
      rintro e w4 ⟨rfl, hb⟩
      rw [E2.out]
      have HP4 := Lib.hid (HP3.out.below hb)
      clear c0 c1 c2 hb
      have c0 := HP4.out.c0
      have c1 := HP4.out.c1
      have c2 := HP4.out.c2
      go_wp2
      clear c0 c1 c2
      go_loopw [9, 44] (fun n i wr => ∃ (k : Nat) (acc : Int), n = .int .i64 acc ∧ i = .int .i64 k ∧ k ≤ ln ∧ Hid (PBox w name regs (.slice A ln cp) wr) ∧ Hid (needOf xs 0 = needOf (xs.drop k) acc)) (fun _ i wr => ln - (intOf i).toNat)
      case atStart => exact ⟨0, 0, rfl, rfl, by omega, HP4, rfl⟩
      case round =>
        obtain ⟨k, acc, rfl, rfl, hk, HPR, HN⟩ := hrel
        by_cases hk4 : k < ln
        · obtain ⟨x, hxk⟩ : ∃ x, xs[k]? = some x := ⟨xs[k]'(by rw [HL.out]; exact hk4), List.getElem?_eq_getElem _⟩
          have hdrop : xs.drop k = x :: xs.drop (k + 1) := by
            obtain ⟨hl, he⟩ := List.getElem?_eq_some_iff.1 hxk
            rw [List.drop_eq_getElem_cons hl, he]
          have HN2 := Lib.hid (HN.out.trans (by rw [hdrop]; rfl) : needOf xs 0 = needOf (xs.drop (k + 1)) (if x.op = 10 then max acc (wrap64 (x.c + 1)) else acc))
          clear hdrop HN
          obtain ⟨b', o, rfl, hI⟩ : ∃ b' o, A = some ⟨b', o, none⟩ ∧ InsAt wr b' (o + k * 6) x := by
            rcases HC.out.below HPR.out.bel with ⟨h9, h8⟩ | ⟨b', o, c, h9, h10, h11, h12, h13⟩
            · rw [h8] at hxk; simp at hxk
            · injection h9 with h9
              exact ⟨b', o, h9, h13 k x hxk⟩
          clear hxk
          obtain ⟨d0, d1, d2, d3, d4, d5⟩ := hI
          by_cases ho : x.op = 10
          · rw [if_pos ho] at HN2
            rw [ho] at d0
            clear ho
            go_wp2
            go_roundw
            case rel => exact ⟨k + 1, _, rfl, by go_num, by omega, HPR.out.alloc _, HN2⟩
            case measure => simp [intOf]; omega
          · rw [if_neg ho] at HN2
            go_wp2
            go_roundw
            case rel => exact ⟨k + 1, _, rfl, by go_num, by omega, HPR.out.alloc _, HN2⟩
            case measure => simp [intOf]; omega
        · obtain rfl : k = ln := by omega
          have hacc : needOf xs 0 = acc := by rw [HN.out, List.drop_eq_nil_of_le (by rw [HL.out]; exact Nat.le_refl _)]; rfl
          clear HN
          have HACC := Lib.hid hacc
          clear hacc
          by_cases hbig : checkOk name regs xs 1048576 = true
          · have HB1 := Lib.hid hbig
            have e20 := chk_yes hbig
            have hnb := need_bounds hbig
            have e21 := chk_yes (need_ok hbig)
            rw [HACC.out] at hnb e21
            have E20 := Lib.hid e20; have E21 := Lib.hid e21
            clear hbig e20 e21
            have c0 := HPR.out.c0
            have c1 := HPR.out.c1
            have c2 := HPR.out.c2
            go_wp2_with fail
            refine (check_walk name regs _ _ wr xs (HC.out.below HPR.out.bel)).mono ?_
            rintro e w5 ⟨rfl, hb⟩
            rw [E20.out]
            have HP5 := Lib.hid (HPR.out.below hb)
            clear c0 c1 c2 hb
            have c0 := HP5.out.c0
            have c1 := HP5.out.c1
            have c2 := HP5.out.c2
            go_wp2_with fail
            refine (check_walk name regs _ _ w5 xs (HC.out.below HP5.out.bel)).mono ?_
            rintro e w6 ⟨rfl, hb⟩
            rw [E21.out]
            have HP6 := Lib.hid (HP5.out.below hb)
            clear c0 c1 c2 hb
            by_cases hz : acc = 0
            · subst hz
              go_wp2_with fail
              refine (awake09 w6 (HG.out.below HP6.out.bel)).mono ?_
              rintro e w9 ⟨rfl, hb⟩
              go_wp2
              go_ret
              exact ⟨rfl, HP6.out.bel.trans (hb.mono HP6.out.bel.size)⟩
            · have e22 := check_no (need_less HB1.out (by rw [HACC.out]; exact hz))
              rw [HACC.out] at e22
              have E22 := Lib.hid e22
              clear e22
              have c0 := HP6.out.c0
              have c1 := HP6.out.c1
              have c2 := HP6.out.c2
              go_wp2_with fail
              refine (check_walk name regs _ _ w6 xs (HC.out.below HP6.out.bel)).mono ?_
              rintro e w7 ⟨rfl, hb⟩
              rw [E22.out]
              have HP7 := Lib.hid (HP6.out.below hb)
              clear c0 c1 c2 hb
              go_wp2_with fail
              refine (awake09 w7 (HG.out.below HP7.out.bel)).mono ?_
              rintro e w9 ⟨rfl, hb⟩
              go_wp2
              go_ret
              exact ⟨rfl, HP7.out.bel.trans (hb.mono HP7.out.bel.size)⟩
          · rw [Bool.not_eq_true] at hbig
            have E20 := Lib.hid (check_no hbig)
            have E21 : Hid (checkN name regs xs lo = 100) := check_no (by
              cases hq : checkOk name regs xs lo with
              | false => rfl
              | true => rw [check_mono (by omega) hq] at hbig; cases hbig)
            clear hbig
            have c0 := HPR.out.c0
            have c1 := HPR.out.c1
            have c2 := HPR.out.c2
            go_wp2_with fail
            refine (check_walk name regs _ _ wr xs (HC.out.below HPR.out.bel)).mono ?_
            rintro e w5 ⟨rfl, hb⟩
            rw [E20.out]
            have HP5 := Lib.hid (HPR.out.below hb)
            clear c0 c1 c2 hb
            have c0 := HP5.out.c0
            have c1 := HP5.out.c1
            have c2 := HP5.out.c2
            go_wp2_with fail
            refine (check_walk name regs _ _ w5 xs (HC.out.below HP5.out.bel)).mono ?_
            rintro e w6 ⟨rfl, hb⟩
            rw [E21.out]
            have HP6 := Lib.hid (HP5.out.below hb)
            clear c0 c1 c2 hb
            go_wp2_with fail
            refine (awake09 w6 (HG.out.below HP6.out.bel)).mono ?_
            rintro e w9 ⟨rfl, hb⟩
            go_wp2
            go_ret
            exact ⟨rfl, HP6.out.bel.trans (hb.mono HP6.out.bel.size)⟩
    · rw [Bool.not_eq_true] at hlo
      rw [check_no hlo]
      clear hlo
      have c0 := HP3.out.c0
      have c1 := HP3.out.c1
      have c2 := HP3.out.c2
      go_wp2
      clear c0 c1 c2
      go_loopw [9, 44] (fun n i wr => ∃ (k : Nat) (acc : Int), n = .int .i64 acc ∧ i = .int .i64 k ∧ k ≤ ln ∧ Hid (PBox w name regs (.slice A ln cp) wr) ∧ Hid (needOf xs 0 = needOf (xs.drop k) acc)) (fun _ i wr => ln - (intOf i).toNat)
      case atStart => exact ⟨0, 0, rfl, rfl, by omega, HP3, rfl⟩
      case round =>
        obtain ⟨k, acc, rfl, rfl, hk, HPR, HN⟩ := hrel
        by_cases hk4 : k < ln
        · obtain ⟨x, hxk⟩ : ∃ x, xs[k]? = some x := ⟨xs[k]'(by rw [HL.out]; exact hk4), List.getElem?_eq_getElem _⟩
          have hdrop : xs.drop k = x :: xs.drop (k + 1) := by
            obtain ⟨hl, he⟩ := List.getElem?_eq_some_iff.1 hxk
            rw [List.drop_eq_getElem_cons hl, he]
          have HN2 := Lib.hid (HN.out.trans (by rw [hdrop]; rfl) : needOf xs 0 = needOf (xs.drop (k + 1)) (if x.op = 10 then max acc (wrap64 (x.c + 1)) else acc))
          clear hdrop HN
          obtain ⟨b', o, rfl, hI⟩ : ∃ b' o, A = some ⟨b', o, none⟩ ∧ InsAt wr b' (o + k * 6) x := by
            rcases HC.out.below HPR.out.bel with ⟨h9, h8⟩ | ⟨b', o, c, h9, h10, h11, h12, h13⟩
            · rw [h8] at hxk; simp at hxk
            · injection h9 with h9
              exact ⟨b', o, h9, h13 k x hxk⟩
          clear hxk
          obtain ⟨d0, d1, d2, d3, d4, d5⟩ := hI
          by_cases ho : x.op = 10
          · rw [if_pos ho] at HN2
            rw [ho] at d0
            clear ho
            go_wp2
            go_roundw
            case rel => exact ⟨k + 1, _, rfl, by go_num, by omega, HPR.out.alloc _, HN2⟩
            case measure => simp [intOf]; omega
          · rw [if_neg ho] at HN2
            go_wp2
            go_roundw
            case rel => exact ⟨k + 1, _, rfl, by go_num, by omega, HPR.out.alloc _, HN2⟩
            case measure => simp [intOf]; omega
        · obtain rfl : k = ln := by omega
          have hacc : needOf xs 0 = acc := by rw [HN.out, List.drop_eq_nil_of_le (by rw [HL.out]; exact Nat.le_refl _)]; rfl
          clear HN
          have HACC := Lib.hid hacc
          clear hacc
          by_cases hbig : checkOk name regs xs 1048576 = true
          · have HB1 := Lib.hid hbig
            have e20 := chk_yes hbig
            have hnb := need_bounds hbig
            have e21 := chk_yes (need_ok hbig)
            rw [HACC.out] at hnb e21
            have E20 := Lib.hid e20; have E21 := Lib.hid e21
            clear hbig e20 e21
            have c0 := HPR.out.c0
            have c1 := HPR.out.c1
            have c2 := HPR.out.c2
            go_wp2_with fail
            refine (check_walk name regs _ _ wr xs (HC.out.below HPR.out.bel)).mono ?_
            rintro e w5 ⟨rfl, hb⟩
            rw [E20.out]
            have HP5 := Lib.hid (HPR.out.below hb)
            clear c0 c1 c2 hb
            have c0 := HP5.out.c0
            have c1 := HP5.out.c1
            have c2 := HP5.out.c2
            go_wp2_with fail
            refine (check_walk name regs _ _ w5 xs (HC.out.below HP5.out.bel)).mono ?_
            rintro e w6 ⟨rfl, hb⟩
            rw [E21.out]
            have HP6 := Lib.hid (HP5.out.below hb)
            clear c0 c1 c2 hb
            by_cases hz : acc = 0
            · subst hz
              go_wp2_with fail
              refine (awake09 w6 (HG.out.below HP6.out.bel)).mono ?_
              rintro e w9 ⟨rfl, hb⟩
              go_wp2
              go_ret
              exact ⟨rfl, HP6.out.bel.trans (hb.mono HP6.out.bel.size)⟩
            · have e22 := check_no (need_less HB1.out (by rw [HACC.out]; exact hz))
              rw [HACC.out] at e22
              have E22 := Lib.hid e22
              clear e22
              have c0 := HP6.out.c0
              have c1 := HP6.out.c1
              have c2 := HP6.out.c2
              go_wp2_with fail
              refine (check_walk name regs _ _ w6 xs (HC.out.below HP6.out.bel)).mono ?_
              rintro e w7 ⟨rfl, hb⟩
              rw [E22.out]
              have HP7 := Lib.hid (HP6.out.below hb)
              clear c0 c1 c2 hb
              go_wp2_with fail
              refine (awake09 w7 (HG.out.below HP7.out.bel)).mono ?_
              rintro e w9 ⟨rfl, hb⟩
              go_wp2
              go_ret
              exact ⟨rfl, HP7.out.bel.trans (hb.mono HP7.out.bel.size)⟩
          · rw [Bool.not_eq_true] at hbig
            have E20 := Lib.hid (check_no hbig)
            have E21 : Hid (checkN name regs xs lo = 100) := check_no (by
              cases hq : checkOk name regs xs lo with
              | false => rfl
              | true => rw [check_mono (by omega) hq] at hbig; cases hbig)
            clear hbig
            have c0 := HPR.out.c0
            have c1 := HPR.out.c1
            have c2 := HPR.out.c2
            go_wp2_with fail
            refine (check_walk name regs _ _ wr xs (HC.out.below HPR.out.bel)).mono ?_
            rintro e w5 ⟨rfl, hb⟩
            rw [E20.out]
            have HP5 := Lib.hid (HPR.out.below hb)
            clear c0 c1 c2 hb
            have c0 := HP5.out.c0
            have c1 := HP5.out.c1
            have c2 := HP5.out.c2
            go_wp2_with fail
            refine (check_walk name regs _ _ w5 xs (HC.out.below HP5.out.bel)).mono ?_
            rintro e w6 ⟨rfl, hb⟩
            rw [E21.out]
            have HP6 := Lib.hid (HP5.out.below hb)
            clear c0 c1 c2 hb
            go_wp2_with fail
            refine (awake09 w6 (HG.out.below HP6.out.bel)).mono ?_
            rintro e w9 ⟨rfl, hb⟩
            go_wp2
            go_ret
            exact ⟨rfl, HP6.out.bel.trans (hb.mono HP6.out.bel.size)⟩
end
theorem policies_any (name : ByteArray) (regs : Int) (cv : Value) (xs : List Ins) (a b : Int) (w : World) (hc : CodeAt w cv xs) (hg : POK w) (ha0 : 0 ≤ a) (ha1 : a < 256) (hb0 : 0 ≤ b) (hb1 : b < 256) :
    Calls Tryd.prog 4 #[.agg #[.string name, .int .i64 regs, cv], .int .u8 a, .int .u8 b] w fun e w' => e = .returned (.bool true) ∧ Below w.heap.size w w' := by
  obtain ⟨A, cp, rfl⟩ : ∃ A cp, cv = .slice A xs.length cp := by
    rcases hc with ⟨⟨A, c, rfl⟩, rfl⟩ | ⟨b, o, c, rfl, _⟩
    · exact ⟨A, c, rfl⟩
    · exact ⟨_, c, rfl⟩
  exact policies_walk name regs A xs.length cp xs rfl a b w hc hg ha0 ha1 hb0 hb1
end Go.Proofs.YtckooioikcenmaaDoor

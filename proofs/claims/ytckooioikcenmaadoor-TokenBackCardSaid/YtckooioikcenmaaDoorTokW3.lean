/- Walks of token.Read and of its closure. Conditions: texts of at most 3000 bytes; the library's variables read as they are laid. -/
import Derived.Test.YtckooioikcenmaaDoorTokW2
namespace Go.Proofs.YtckooioikcenmaaDoor
open Go.RowKit
theorem atoi_bounds {l : List UInt8} {v : Int} (h : Lib.atoiAll l = .ok v) : -9223372036854775808 ≤ v ∧ v ≤ 9223372036854775807 := by
  unfold Lib.atoiAll at h
  split at h
  · cases h
  · simp only at h
    split at h
    · cases h
    · cases h
    · split at h
      · cases h
      · split at h
        · cases h
        · injection h with h
          subst h
          rename_i h1 h2
          split <;> omega
theorem itoa_all (n : Int) (w : World) (h0 : -9223372036854775808 ≤ n) (h1 : n ≤ 9223372036854775807) (hg : GOK w) :
    Calls Tryd.prog 37 #[.int .i64 n] w fun e w' => e = .returned (.string (bs (Lib.itoa n))) ∧ Below w.heap.size w w' := by
  refine (Tryd.strconv_Itoa n (by omega) (by omega) w hg.tab).mono ?_
  rintro e w' ⟨rfl, k, os, rfl⟩
  exact ⟨rfl, (below_drewN (Below.refl _ _) k).trans (below_grow (w.drewN k) os)⟩
theorem bytesWorld_below (w : World) (t : ByteArray) : Below w.heap.size w (Lib.bytesWorld w 5 t) := by
  unfold Lib.bytesWorld
  have h1 : Below w.heap.size w (w.drew.alloc (Obj.cells (Lib.bytesCells w 5 t) 5)) := ((Below.refl _ _).drew).alloc (Nat.le_refl _) _
  refine h1.trans ⟨rfl, rfl, rfl, ?_, ?_⟩
  · simp [World.freeze]
  · intro k hk
    simp only [World.freeze, Nat.one_ne_zero, if_false, Array.getElem?_modify]
    rw [if_neg (by omega)]
theorem atoi_ok (d : ByteArray) (v : Int) (w : World) (hs : d.size ≤ 3000) (h : Lib.atoiAll d.data.toList = .ok v) :
    Calls Tryd.prog 40 #[.string d] w fun e w' => e = .returned (.tuple #[.int .i64 v, .nilIface]) ∧ Below w.heap.size w w' := by
  refine (Tryd.strconv_Atoi_ok d (by omega) v h w).mono ?_
  rintro e w' ⟨rfl, h | ⟨t, h⟩⟩
  · subst h; exact ⟨rfl, Below.refl _ _⟩
  · subst h; exact ⟨rfl, bytesWorld_below _ _⟩
theorem atoi_no (d : ByteArray) (w : World) (hs : d.size ≤ 3000) (h : ∀ v, Lib.atoiAll d.data.toList ≠ .ok v) (hg : GOK w) :
    Calls Tryd.prog 40 #[.string d] w fun e w' => (∃ n N, e = .returned (.tuple #[.int .i64 n, .iface 108 (.pointer (some ⟨N, 0, none⟩))])) ∧ Below w.heap.size w w' := by
  obtain ⟨e1, h1, h2⟩ := hg.syn
  obtain ⟨e2, h3, h4⟩ := hg.rng
  have a1 := fun hd => Any.strconv_Atoi_syntax Tryd.laysC172 d (by omega) hd e1 w h1 h2
  cases hd : Lib.atoiAll d.data.toList with
  | ok v => exact absurd hd (h v)
  | range =>
    refine (Tryd.strconv_Atoi_range d (by omega) hd e2 w h3 h4).mono ?_
    rintro e w' ⟨N, rfl, _, _, hb⟩
    exact ⟨⟨_, _, rfl⟩, hb⟩
  | _ =>
    refine Calls.mono (R := fun e w' => ∃ N, e = .returned (.tuple #[.int .i64 (0), .iface 108 (.pointer (some ⟨N, 0, none⟩))]) ∧ w.heap.size ≤ N ∧ w'.heap[N]? = some (.cells #[.string ⟨#[65, 116, 111, 105]⟩, .string d, e1] 123 (0, 0)) ∧ Below w.heap.size w w') (a1 hd) ?_
    rintro e w' ⟨N, rfl, _, _, hb⟩
    exact ⟨⟨_, _, rfl⟩, hb⟩
theorem toList_ne {a b : ByteArray} (h : a ≠ b) : (!a.toList == b.toList) = true := by
  simp only [Bool.not_eq_true', beq_eq_false_iff_ne, ne_eq]
  intro e
  rw [_root_.Go.ByteArray.toList_eq, _root_.Go.ByteArray.toList_eq] at e
  exact h (data_inj e)
theorem num_any (d : ByteArray) (w : World) (hs : d.size ≤ 3000) (hg : GOK w) :
    Calls Tryd.prog 39 #[.string d] w fun e w' => e = .returned (.int .i64 (numOf d.data.toList)) ∧ Below w.heap.size w w' := by
  by_cases hv : ∃ v, Lib.atoiAll d.data.toList = .ok v
  · obtain ⟨v, hv⟩ := hv
    have hb := atoi_bounds hv
    by_cases he : Lib.itoa v = d.data.toList
    · have hd := Lib.hid (show numOf d.data.toList = v by unfold numOf; rw [hv]; simp [he])
      have hne : (!(bs (Lib.itoa v)).toList == d.toList) = false := by rw [he, bs_data]; simp
      clear he
      go_enter Tryd.func39, Tryd.ntmps39
      go_wp2_with fail
      refine (atoi_ok d v _ hs hv).mono ?_
      have HV := Lib.hid hv; clear hv
      rintro e w1 ⟨rfl, hb1⟩
      go_wp2_with fail
      refine (itoa_all _ _ hb.1 hb.2 (hg.below hb1)).mono ?_
      rintro e w2 ⟨rfl, hb2⟩
      go_wp2
      go_ret
      exact ⟨by rw [hd.out]; rfl, below_on hb1 hb1.size hb2⟩
    · have hd := Lib.hid (show numOf d.data.toList = 0 by unfold numOf; rw [hv]; simp [he])
      have hne : (!(bs (Lib.itoa v)).toList == d.toList) = true := toList_ne (fun e => he (by rw [← e]; simp [bs]))
      clear he
      go_enter Tryd.func39, Tryd.ntmps39
      go_wp2_with fail
      refine (atoi_ok d v _ hs hv).mono ?_
      have HV := Lib.hid hv; clear hv
      rintro e w1 ⟨rfl, hb1⟩
      go_wp2_with fail
      refine (itoa_all _ _ hb.1 hb.2 (hg.below hb1)).mono ?_
      rintro e w2 ⟨rfl, hb2⟩
      go_wp2
      go_ret
      exact ⟨by rw [hd.out]; rfl, below_on hb1 hb1.size hb2⟩
  · have hd := Lib.hid (show numOf d.data.toList = 0 by
      unfold numOf
      cases h : Lib.atoiAll d.data.toList with
      | ok v => exact absurd ⟨v, h⟩ hv
      | _ => rfl)
    have hv' := Lib.hid hv; clear hv
    go_enter Tryd.func39, Tryd.ntmps39
    go_wp2_with fail
    refine (atoi_no d _ hs (fun v h => hv'.out ⟨v, h⟩) hg).mono ?_
    rintro e w1 ⟨⟨n, N, rfl⟩, hb1⟩
    go_wp2
    go_ret
    exact ⟨by rw [hd.out]; rfl, hb1⟩
end Go.Proofs.YtckooioikcenmaaDoor

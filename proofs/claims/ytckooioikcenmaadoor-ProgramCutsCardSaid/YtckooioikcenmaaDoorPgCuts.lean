/- ProgramCuts holds of the given program, for every input: of any beginning of a program's bytes, and with a byte more, no program is read; unlike programs have unlike bytes. Conditions: none beyond the card's own (the library's listed variables hold what the program's text lays). -/
import Derived.Test.YtckooioikcenmaaDoorPgL4
import Derived.Test.YtckooioikcenmaaDoorPgRow2
namespace Go.Proofs.YtckooioikcenmaaDoor
open Go.ChangeShapes Go.WideShapes Go.ChangeAt Go.RowKit Go.Joins
open Go.ChangeMaps (open_string)
set_option maxRecDepth 100000 in
theorem cuts_lifted (os : Os) (started : os.Started) (H : Type) (enc : TypeId × Value → H) :
    ReturnsInHanded {} Tryd.checked os 6 .any (fun w args => (Rows.programCutsSpec.pre enc Tryd.prog Tryd.f6 [] false w args ∧ laidMetH Tryd.prog Rows.programCutsRow.laid w) ∧ sizedMet enc Tryd.prog Tryd.f6 (OpenSpec.ofChange Rows.programCutsSpec) false w args)
      (Rows.programCutsSpec.post enc Tryd.prog Tryd.f6 false true false false) := by
  refine returnsInHanded_shaped_and (C := Tryd.checked) (X := fun w _ => laidMetH Tryd.prog Rows.programCutsRow.laid w) (fun _ _ _ hh h => h.of_heap hh) pown started (by kernel_rfl) Tryd.func6
    (ChangeSpec.witness_shaped (enc := enc) (C := Tryd.checked) (os := os) (X := fun w _ => laidMetH Tryd.prog Rows.programCutsRow.laid w) false (World.laidAll Tryd.prog os Rows.programCutsRow.laid) #[.agg #[.string ⟨#[]⟩, .int .i64 0, .slice none 0 0], .agg #[.string ⟨#[]⟩, .int .i64 0, .slice none 0 0], .int .u16 0] 8 (World.laidAll_os _ _ _)
      (World.shaped_of_ZipB (by kernel_rfl) (by kernel_rfl)) (by kernel_rfl) (by kernel_rfl) (by kernel_rfl)
      (by rw [MakeChecks.laidMetH_plain _ _ _ (by kernel_rfl)]; exact laidMet_laidAll _ (by kernel_rfl) (by kernel_rfl))) ?_
  intro W base args ds gs before hval0 hW _ hL hS
  have hval : ∀ (j : Nat) t v, Tryd.f6.params[j]? = some t → args[j]? = some v → Value.okWide Tryd.prog W .any base t v := hval0
  have hW' := hW
  obtain ⟨p, q, hA0, hV, rfl, _, _⟩ := hW
  have hA : DataW.TrodAll enc Tryd.prog W 0 (fun _ => true) true Tryd.f6.params.toList args.toList ds p := hA0
  rw [Tryd.params6] at hA hval
  obtain ⟨v0, v1, v2, d0, d1, d2, p0, p1, p2, rfl, rfl, rfl, h0, h1, h2⟩ := trodAll_three hA
  obtain ⟨c00, c01, c02, y00, y01, y02, m0, rfl, rfl, rfl, hy0, hy1, hy2⟩ := open_agg3 Tryd.underlying24 (by kernel_rfl) pcells24 (hval 0 24 v0 rfl rfl) h0
  obtain ⟨nm0, e0, _, _⟩ := DataW.trod_string Tryd.underlying9 hy0
  obtain ⟨rg0, e1, _, _⟩ := DataW.trod_int Tryd.underlying3 hy1
  simp at e0 e1
  subst e0 e1
  obtain ⟨xs0, hxs0, hnk0⟩ := open_code2 hy2
  obtain ⟨c10, c11, c12, y10, y11, y12, m1, rfl, rfl, rfl, hy0, hy1, hy2⟩ := open_agg3 Tryd.underlying24 (by kernel_rfl) pcells24 (hval 1 24 v1 rfl rfl) h1
  obtain ⟨nm1, e0, _, _⟩ := DataW.trod_string Tryd.underlying9 hy0
  obtain ⟨rg1, e1, _, _⟩ := DataW.trod_int Tryd.underlying3 hy1
  simp at e0 e1
  subst e0 e1
  obtain ⟨xs1, hxs1, hnk1⟩ := open_code2 hy2
  obtain ⟨ct, rfl, rfl, rfl, hct⟩ := open_int Tryd.underlying45 (hval 2 45 v2 rfl rfl) h2
  have hct' : 0 ≤ ct ∧ ct < 65536 := by
    simp [Lit.wf, IntKind.min, IntKind.max, IntKind.signed, IntKind.bits] at hct
    omega
  refine (cuts_any nm0 nm1 rg0 rg1 c02 c12 xs0 xs1 ct W hxs0 hxs1 hnk0 hnk1 (pok_of hL) hct'.1 hct'.2).mono fun e W' ⟨he, hb⟩ => ?_
  subst he
  exact ⟨_, rfl, law_post plaidOut (by kernel_rfl) (by kernel_rfl) Tryd.underlying4 rfl (fun ds h => by
    match ds, h with
    | [_, _, _], _ => rfl) hW' hb⟩
theorem cuts_holds : Rows.ProgramCutsSaid :=
  OpenClaim.holds_of_wide 6 Tryd.f6 rfl rfl rfl rfl rfl rfl rfl ⟨rfl, rfl, rfl, rfl, rfl⟩ rfl rfl rfl rfl rfl (by kernel_rfl) Tryd.func6 (by kernel_rfl)
    (of_decide_eq_true (by kernel_rfl)) (by unfold Func.isWrapper; first | (rw [if_pos (by decide +kernel)]; kernel_rfl) | (rw [if_neg (by decide +kernel)]; exact ⟨rfl, rfl⟩))
    (fun os started H enc _ => cuts_lifted os started H enc)
theorem cuts_card_holds : Rows.ProgramCutsCardSaid :=
  Claim7.holds_tied_plain_at .later [] [.data, .data, .data, .listed, .data] true (true, "b9166f50f7326e1967a9811a846eb31f6dd07020c9b3d3a822335514a9fa7c6a") true cuts_holds (fun _ h => by cases h) (by kernel_rfl) (fun _ h => by cases h) programCuts_row_tie rfl ⟨rfl, rfl⟩ (by kernel_rfl) rfl
    (fun f fn hf hfn => by
      obtain rfl : f = 6 := Option.some.inj ((show Tryd.prog.funcNamed "millwheel/millwheellaw09.ProgramCuts" = some 6 by kernel_rfl).symm.trans hf) |>.symm
      obtain rfl : fn = Tryd.f6 := (Option.some.inj (Tryd.func6.symm.trans hfn)).symm
      exact ⟨by kernel_rfl, fun j t ht => by
        rw [Tryd.params6] at ht
        have hm : t ∈ [24, 24, 45] := by simpa using Array.mem_of_getElem? ht
        have hall : ([24, 24, 45].all fun u => !Tryd.prog.wantsStandIn u) = true := by kernel_rfl
        exact (show Tryd.prog.wantsStandIn t = false by simpa using List.all_eq_true.1 hall t hm)⟩)
    (by kernel_rfl)
#print axioms cuts_card_holds
end Go.Proofs.YtckooioikcenmaaDoor

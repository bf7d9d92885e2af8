/- LogEnded holds of the given program, for every input: a log that is over stays over, and changes nothing. Conditions: none beyond the card's own (the library's listed variables hold what the program's text lays). -/
import Derived.Test.YthehpafkaefohaaGreatDoorCkLgA3
import Derived.Test.YthehpafkaefohaaGreatDoorCkM23
import Derived.Test.YthehpafkaefohaaGreatDoorCkLgOpen2
namespace Go.Proofs.YthehpafkaefohaaGreatDoor
open Go.ChangeShapes Go.WideShapes Go.ChangeAt Go.RowKit Go.Joins Go.Deep
set_option maxRecDepth 100000 in
theorem ended_lifted (os : Os) (started : os.Started) (H : Type) (enc : TypeId × Value → H) :
    ReturnsInHanded {} Tryz.checked os 4 .any (fun w args => (Rows.logEndedSpec.pre enc Tryz.prog Tryz.f4 [] false w args ∧ laidMetH Tryz.prog Rows.logEndedRow.laid w) ∧ sizedMet enc Tryz.prog Tryz.f4 (OpenSpec.ofChange Rows.logEndedSpec) false w args)
      (Rows.logEndedSpec.post enc Tryz.prog Tryz.f4 false true false false) := by
  refine returnsInHanded_shaped_and (C := Tryz.checked) (X := fun w _ => laidMetH Tryz.prog Rows.logEndedRow.laid w) (fun _ _ _ hh h => h.of_heap hh) own started (by kernel_rfl) Tryz.func4
    (ChangeSpec.witness_shaped (enc := enc) (C := Tryz.checked) (os := os) (X := fun w _ => laidMetH Tryz.prog Rows.logEndedRow.laid w) false (World.laidAll Tryz.prog os Rows.logEndedRow.laid) #[.slice none 0 0, .int .u16 0, .int .u16 0, .slice none 0 0] 8 (World.laidAll_os _ _ _)
      (World.shaped_of_ZipB (by kernel_rfl) (by kernel_rfl)) (by kernel_rfl) (by kernel_rfl) (by kernel_rfl)
      (by rw [MakeChecks.laidMetH_plain _ _ _ (by kernel_rfl)]; exact laidMet_laidAll _ (by kernel_rfl) (by kernel_rfl))) ?_
  intro W base args ds gs before hval0 hW _ hL hS
  have hval : ∀ (j : Nat) t v, Tryz.f4.params[j]? = some t → args[j]? = some v → Value.okWide Tryz.prog W .any base t v := hval0
  have hW' := hW
  obtain ⟨p, q, hA0, hV, rfl, _, _⟩ := hW
  have hA : DataW.TrodAll enc Tryz.prog W 0 (fun _ => true) true Tryz.f4.params.toList args.toList ds p := hA0
  rw [Tryz.params4] at hA hval
  obtain ⟨v0, v1, v2, v3, d0, d1, d2, d3, p0, p1, p2, p3, rfl, rfl, rfl, h0, h1, h2, h3⟩ := trodAll_four hA
  obtain ⟨bs, hb⟩ := arg_batches (hval 0 40 v0 rfl rfl) h0
  obtain ⟨mo, rfl, m0, m1⟩ := arg_u16 (hval 1 41 v1 rfl rfl) h1
  obtain ⟨ar, rfl, a0, a1⟩ := arg_u16 (hval 2 41 v2 rfl rfl) h2
  obtain ⟨mr, hm⟩ := arg_rows (hval 3 22 v3 rfl rfl) h3
  refine (logEnded_any mo ar m0 m1 a0 a1 v0 v3 bs mr W hb hm (gok_of hL)).mono fun e W' ⟨he, hbl⟩ => ?_
  subst he
  exact ⟨_, rfl, law_post laidOut (by kernel_rfl) (by kernel_rfl) Tryz.underlying4 rfl (fun ds h => by
    match ds, h with
    | [_, _, _, _], _ => rfl) hW' hbl⟩
theorem ended_holds : Rows.LogEndedSaid :=
  OpenClaim.holds_of_wide 4 Tryz.f4 rfl rfl rfl rfl rfl rfl rfl ⟨rfl, rfl, rfl, rfl, rfl⟩ rfl rfl rfl rfl rfl (by kernel_rfl) Tryz.func4 (by kernel_rfl)
    (of_decide_eq_true (by kernel_rfl)) (by unfold Func.isWrapper; first | (rw [if_pos (by decide +kernel)]; kernel_rfl) | (rw [if_neg (by decide +kernel)]; exact ⟨rfl, rfl⟩))
    (fun os started H enc _ => ended_lifted os started H enc)
theorem ended_card_holds : Rows.LogEndedCardSaid :=
  Claim7.holds_tied_plain_at .later [] [.data, .data, .data, .sentinel, .sentinel] true (true, "2b97f6555f9d44021ec738aa62248dcb8ad3ad849793fd0d84c8906d44535e82") true ended_holds (fun _ h => by cases h) (by kernel_rfl) (fun _ h => by cases h) logEnded_row_tie rfl ⟨rfl, rfl⟩ (by kernel_rfl) rfl
    (fun f fn hf hfn => by
      obtain rfl : f = 4 := Option.some.inj ((show Tryz.prog.funcNamed "millwheel/millwheellaw04.LogEnded" = some 4 by kernel_rfl).symm.trans hf) |>.symm
      obtain rfl : fn = Tryz.f4 := (Option.some.inj (Tryz.func4.symm.trans hfn)).symm
      exact ⟨by kernel_rfl, fun j t ht => by
        rw [Tryz.params4] at ht
        have hm : t ∈ [40, 41, 41, 22] := by simpa using Array.mem_of_getElem? ht
        have hall : ([40, 41, 41, 22].all fun u => !Tryz.prog.wantsStandIn u) = true := by kernel_rfl
        exact (show Tryz.prog.wantsStandIn t = false by simpa using List.all_eq_true.1 hall t hm)⟩)
    (by kernel_rfl)
#print axioms ended_card_holds
end Go.Proofs.YthehpafkaefohaaGreatDoor

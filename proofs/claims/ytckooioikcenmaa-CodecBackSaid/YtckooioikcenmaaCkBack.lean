/- CodecBack holds of the given program, for every input: an operation, and a shop, are read as they were written; what is read of any bytes, written again, is those bytes. Conditions: none beyond the statement's own. -/
import Derived.Test.YtckooioikcenmaaCkA1
import Derived.Test.YtckooioikcenmaaCkM8
namespace Go.Proofs.Ytckooioikcenmaa
open Go.ChangeShapes Go.WideShapes Go.ChangeAt Go.RowKit Go.Joins Go.Deep
set_option maxRecDepth 100000 in
theorem back_contract (H : Type) (enc : TypeId × Value → H) (W : World) (base : Nat) (args : Array Value) (ds gs : List (DataW H)) (before : List MemPlace)
    (hval0 : ∀ (j : Nat) t v, Try.f3.params[j]? = some t → args[j]? = some v → Value.okWide Try.prog W .any base t v)
    (hW : DataW.Whole enc Try.prog Try.f3.params.toList Rows.codecBackSpec.vars false W args.toList ds gs before)
    (hwt : (DataW.weightsEach Try.prog (Try.f3.params.toList ++ Rows.codecBackSpec.plain.varTypes Try.prog) (ds ++ gs)).all (· ≤ reachBytes) = true) :
    Calls Try.prog 3 args W fun e W' => ∃ v, e = .returned v ∧ Rows.codecBackSpec.post enc Try.prog Try.f3 false true false false W args v W' := by
  have hval : ∀ (j : Nat) t v, Try.f3.params[j]? = some t → args[j]? = some v → Value.okWide Try.prog W .any base t v := hval0
  have hW' := hW
  obtain ⟨p, q, hA0, hV, rfl, _, _⟩ := hW
  have hA : DataW.TrodAll enc Try.prog W 0 (fun _ => true) true Try.f3.params.toList args.toList ds p := hA0
  rw [Try.params3] at hA hval hwt
  obtain ⟨rfl, rfl⟩ := trodVars_none hV
  have hwk : ∀ k ∈ DataW.weightsEach Try.prog (Try.f3.params.toList) ds, k ≤ 140737488351232 := fun k hk => by
    have := List.all_eq_true.1 hwt k (by
      rw [List.append_nil]
      exact hk)
    exact of_decide_eq_true this
  rw [Try.params3] at hwk
  obtain ⟨v0, v1, v2, d0, d1, d2, p0, p1, p2, rfl, rfl, rfl, h0, h1, h2⟩ := trodAll_three hA
  obtain ⟨us, x, rfl, hx1, hx2, _⟩ := arg_struct (ts := [22, 9, 9, 9, 9, 2, 2, 3, 3, 3]) (by kernel_rfl) openOp (hval 0 _ v0 rfl rfl) h0
  obtain ⟨vs, y, rfl, hy1, hy2, hy3⟩ := arg_struct (ts := [2, 25, 31, 32, 3, 33, 4]) (by kernel_rfl) openShop (hval 1 _ v1 rfl rfl) h1
  obtain ⟨bs, hbs⟩ := open_bytes (hval 2 _ v2 rfl rfl) h2
  have hy4 := hy3 140737488351232 fun k hk => hwk k (by simp only [DataW.weightsEach]; exact List.mem_append_right _ (List.mem_append_left _ hk))
  refine (back23 x y bs us vs v2 W hx2 hy2 (shopSz_of hy4) hx1 hy1 hbs).mono fun e W' ⟨he, hb⟩ => ?_
  subst he
  exact ⟨_, rfl, law_post claidOut (by kernel_rfl) (by kernel_rfl) Try.underlying4 rfl (fun ds h => by
    match ds, h with
    | [_, _, _], _ => rfl) hW' hb⟩
set_option maxRecDepth 100000 in
theorem back_lifted (os : Os) (started : os.Started) (H : Type) (enc : TypeId × Value → H) :
    ReturnsInHanded {} Try.checked os 3 .any (Rows.codecBackSpec.pre6 enc Try.prog Try.f3 [] false) (Rows.codecBackSpec.post enc Try.prog Try.f3 false true false false) := by
  refine returnsInHanded_of_change_sized (C := Try.checked) cown started (by kernel_rfl) Try.func3
    (ChangeSpec.witness6 (enc := enc) (C := Try.checked) (s := Rows.codecBackSpec) (conds := []) false ⟨#[], #[.agg #[.int .u8 0, .string ⟨#[]⟩, .string ⟨#[]⟩, .string ⟨#[]⟩, .string ⟨#[]⟩, .int .i64 0, .int .i64 0, .int .i64 0, .int .i64 0, .int .i64 0], .agg #[.int .i64 0, .slice none 0 0, .int .i64 0, .slice none 0 0, .int .i64 0, .bool false, .slice none 0 0, .slice none 0 0, .int .i64 0, .slice none 0 0, .bool false], .slice none 0 0], []⟩ 8 (by kernel_rfl) (by kernel_rfl) (by kernel_rfl) (by kernel_rfl)) ?_
  intro W base args ds gs before hval hW _ hwt _
  exact back_contract H enc W base args ds gs before hval hW hwt
theorem back_holds : Rows.CodecBackSaid :=
  OpenClaim.holds_of_wide 3 Try.f3 rfl rfl rfl rfl rfl rfl rfl ⟨rfl, rfl, rfl, rfl, rfl⟩ rfl rfl rfl rfl rfl (by kernel_rfl) Try.func3 (by kernel_rfl)
    (of_decide_eq_true (by kernel_rfl)) (by unfold Func.isWrapper; first | (rw [if_pos (by decide +kernel)]; kernel_rfl) | (rw [if_neg (by decide +kernel)]; exact ⟨rfl, rfl⟩))
    (fun os started H enc _ => back_lifted os started H enc)
#print axioms back_holds
end Go.Proofs.Ytckooioikcenmaa

/- CodecCuts holds of the given program, for every input: of the bytes of an operation, or a shop, cut anywhere, and with a byte more, nothing is read; unlike operations have unlike bytes. Conditions: none beyond the statement's own. -/
import Derived.Test.YtckooioikcenmaaCkA2
import Derived.Test.YtckooioikcenmaaCkM8
namespace Go.Proofs.Ytckooioikcenmaa
open Go.ChangeShapes Go.WideShapes Go.ChangeAt Go.RowKit Go.Joins Go.Deep
abbrev DCut : Type := DShop × Int × Int
theorem openCut : Opens 51 (mSeq mShop (mSeq mI mB)) (cSeq cShop (cSeq cI cB)) (tSeq tShop (tSeq tN tN)) := opens_struct (ts := [35, 3, 5]) (by kernel_rfl) (ofs_cons openShop (ofs_cons (opens_i64 Try.underlying3) (ofs_one (opens_u8 Try.underlying5))))
set_option maxRecDepth 100000 in
theorem cuts_contract (H : Type) (enc : TypeId × Value → H) (W : World) (base : Nat) (args : Array Value) (ds gs : List (DataW H)) (before : List MemPlace)
    (hval0 : ∀ (j : Nat) t v, Try.f4.params[j]? = some t → args[j]? = some v → Value.okWide Try.prog W .any base t v)
    (hW : DataW.Whole enc Try.prog Try.f4.params.toList Rows.codecCutsSpec.vars false W args.toList ds gs before)
    (hwt : (DataW.weightsEach Try.prog (Try.f4.params.toList ++ Rows.codecCutsSpec.plain.varTypes Try.prog) (ds ++ gs)).all (· ≤ reachBytes) = true) :
    Calls Try.prog 4 args W fun e W' => ∃ v, e = .returned v ∧ Rows.codecCutsSpec.post enc Try.prog Try.f4 false true false false W args v W' := by
  have hval : ∀ (j : Nat) t v, Try.f4.params[j]? = some t → args[j]? = some v → Value.okWide Try.prog W .any base t v := hval0
  have hW' := hW
  obtain ⟨p, q, hA0, hV, rfl, _, _⟩ := hW
  have hA : DataW.TrodAll enc Try.prog W 0 (fun _ => true) true Try.f4.params.toList args.toList ds p := hA0
  rw [Try.params4] at hA hval hwt
  obtain ⟨rfl, rfl⟩ := trodVars_none hV
  have hwk : ∀ k ∈ DataW.weightsEach Try.prog (Try.f4.params.toList) ds, k ≤ 140737488351232 := fun k hk => by
    have := List.all_eq_true.1 hwt k (by
      rw [List.append_nil]
      exact hk)
    exact of_decide_eq_true this
  rw [Try.params4] at hwk
  obtain ⟨v0, v1, v2, d0, d1, d2, p0, p1, p2, rfl, rfl, rfl, h0, h1, h2⟩ := trodAll_three hA
  obtain ⟨us, x, rfl, hx1, hx2, hx3⟩ := arg_struct (ts := [22, 9, 9, 9, 9, 2, 2, 3, 3, 3]) (by kernel_rfl) openOp (hval 0 _ v0 rfl rfl) h0
  obtain ⟨us', x', rfl, hx1', hx2', hx3'⟩ := arg_struct (ts := [22, 9, 9, 9, 9, 2, 2, 3, 3, 3]) (by kernel_rfl) openOp (hval 1 _ v1 rfl rfl) h1
  obtain ⟨vs0, ⟨y, at', more⟩, rfl, hy1, ⟨hy2, _, hy5⟩, hy3⟩ := arg_struct (ts := [35, 3, 5]) (by kernel_rfl) openCut (hval 2 _ v2 rfl rfl) h2
  obtain ⟨vs, r, rfl, hs1, ua, ub, rfl, ha, hb⟩ := hy1
  have ha' : ua = [.int .i64 at'] := ha
  have hb' : ub = [.int .u8 more] := hb
  subst ha'; subst hb'
  obtain ⟨mo, rfl⟩ : ∃ mo : Nat, more = mo := ⟨more.toNat, by have h := hy5.1; simp only at h; omega⟩
  have hmo : mo < 256 := by have h := hy5.2; simp only at h; omega
  have hw0 := hx3 140737488351232 fun k hk => hwk k (by simp only [DataW.weightsEach]; exact List.mem_append_left _ hk)
  have hw1 := hx3' 140737488351232 fun k hk => hwk k (by simp only [DataW.weightsEach]; exact List.mem_append_right _ (List.mem_append_left _ hk))
  have hw2 := hy3 140737488351232 fun k hk => hwk k (by simp only [DataW.weightsEach]; exact List.mem_append_right _ (List.mem_append_right _ (List.mem_append_left _ hk)))
  refine (cuts23 x x' y at' mo hmo us us' vs W hx2 hx2' hy2 (shopSz_of hw2.1) ⟨hw0.2.1, hw0.2.2.1, hw0.2.2.2.1, hw0.2.2.2.2.1⟩ ⟨hw1.2.1, hw1.2.2.1, hw1.2.2.2.1, hw1.2.2.2.2.1⟩ hx1 hx1' hs1).mono fun e W' ⟨he, hb⟩ => ?_
  subst he
  exact ⟨_, rfl, law_post claidOut (by kernel_rfl) (by kernel_rfl) Try.underlying4 rfl (fun ds h => by
    match ds, h with
    | [_, _, _], _ => rfl) hW' hb⟩
set_option maxRecDepth 100000 in
theorem cuts_lifted (os : Os) (started : os.Started) (H : Type) (enc : TypeId × Value → H) :
    ReturnsInHanded {} Try.checked os 4 .any (Rows.codecCutsSpec.pre6 enc Try.prog Try.f4 [] false) (Rows.codecCutsSpec.post enc Try.prog Try.f4 false true false false) := by
  refine returnsInHanded_of_change_sized (C := Try.checked) cown started (by kernel_rfl) Try.func4
    (ChangeSpec.witness6 (enc := enc) (C := Try.checked) (s := Rows.codecCutsSpec) (conds := []) false ⟨#[], #[.agg #[.int .u8 0, .string ⟨#[]⟩, .string ⟨#[]⟩, .string ⟨#[]⟩, .string ⟨#[]⟩, .int .i64 0, .int .i64 0, .int .i64 0, .int .i64 0, .int .i64 0], .agg #[.int .u8 0, .string ⟨#[]⟩, .string ⟨#[]⟩, .string ⟨#[]⟩, .string ⟨#[]⟩, .int .i64 0, .int .i64 0, .int .i64 0, .int .i64 0, .int .i64 0], .agg #[.int .i64 0, .slice none 0 0, .int .i64 0, .slice none 0 0, .int .i64 0, .bool false, .slice none 0 0, .slice none 0 0, .int .i64 0, .slice none 0 0, .bool false, .int .i64 0, .int .u8 0]], []⟩ 8 (by kernel_rfl) (by kernel_rfl) (by kernel_rfl) (by kernel_rfl)) ?_
  intro W base args ds gs before hval hW _ hwt _
  exact cuts_contract H enc W base args ds gs before hval hW hwt
theorem cuts_holds : Rows.CodecCutsSaid :=
  OpenClaim.holds_of_wide 4 Try.f4 rfl rfl rfl rfl rfl rfl rfl ⟨rfl, rfl, rfl, rfl, rfl⟩ rfl rfl rfl rfl rfl (by kernel_rfl) Try.func4 (by kernel_rfl)
    (of_decide_eq_true (by kernel_rfl)) (by unfold Func.isWrapper; first | (rw [if_pos (by decide +kernel)]; kernel_rfl) | (rw [if_neg (by decide +kernel)]; exact ⟨rfl, rfl⟩))
    (fun os started H enc _ => cuts_lifted os started H enc)
#print axioms cuts_holds
end Go.Proofs.Ytckooioikcenmaa

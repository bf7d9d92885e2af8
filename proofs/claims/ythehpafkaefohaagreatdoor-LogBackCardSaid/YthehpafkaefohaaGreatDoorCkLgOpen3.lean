/- Rows of Booleans, and whole numbers, that come in are opened. Conditions: none. -/
import Derived.Test.YthehpafkaefohaaGreatDoorCkLgOpen2
import Derived.Test.YthehpafkaefohaaGreatDoorCkLgB7
namespace Go.Proofs.YthehpafkaefohaaGreatDoor
open Go.ChangeShapes Go.WideShapes Go.ChangeAt Go.RowKit Go.Joins Go.Deep
section
variable {H : Type} {enc : TypeId × Value → H} {W : World}
theorem cells_bool : Tryz.prog.cellsOf 4 = 1 := by kernel_rfl
set_option maxRecDepth 100000 in
/-- a row of Booleans that comes in itself -/
theorem arg_flags {base : Nat} {v : Value} {d : DataW H} {ps : List MemPlace} (hv : Value.okWide Tryz.prog W .any base 72 v) (hd : DataW.Trod enc Tryz.prog W 0 (fun _ => true) true 72 v d ps) : ∃ fl, RdFl W v fl := by
  obtain ⟨a, len, cap, rfl⟩ := okWide_slice Tryz.underlying72 hv
  obtain ⟨n, h⟩ := hd
  replace h : DataW.trod enc Tryz.prog W 0 (fun _ => true) true n 72 [.slice a len cap] = some (d, ps) := h
  obtain ⟨v', l, hv', hr⟩ := op_row (p := fun (u : Value) (x : Bool) => u = .bool x) Tryz.underlying72 cells_bool (fun _ _ _ h => by
    obtain ⟨z, rfl, _⟩ := DataW.trod_bool Tryz.underlying4 h
    exact ⟨_, z, rfl, rfl⟩) h
  injection hv' with hv' _
  subst hv'
  refine ⟨l, ?_⟩
  rcases hr with ⟨A, c, h1, _, h2⟩ | ⟨b, o, c, h1, h2, h3, _, h4⟩
  · exact .inl ⟨A, c, h1, h2⟩
  · refine .inr ⟨b, o, c, h1, ?_, fun j x hj => ?_⟩
    · simp only [maxLen] at h3; omega
    · obtain ⟨u, hu, rfl⟩ := h4 j x hj
      exact hu
set_option maxRecDepth 100000 in
theorem arg_i64 {base : Nat} {v : Value} {d : DataW H} {ps : List MemPlace} (hv : Value.okWide Tryz.prog W .any base 3 v) (hd : DataW.Trod enc Tryz.prog W 0 (fun _ => true) true 3 v d ps) : ∃ z : Int, v = .int .i64 z ∧ -9223372036854775808 ≤ z ∧ z ≤ 9223372036854775807 := by
  obtain ⟨n, rfl⟩ := okWide_int Tryz.underlying3 hv
  obtain ⟨m, h⟩ := hd
  replace h : DataW.trod enc Tryz.prog W 0 (fun _ => true) true m 3 [.int .i64 n] = some (d, ps) := h
  obtain ⟨z, hz, _, hw⟩ := DataW.trod_int Tryz.underlying3 h
  injection hz with hz
  injection hz with _ hz
  subst hz
  simp [Lit.wf, IntKind.min, IntKind.max, IntKind.signed, IntKind.bits] at hw
  exact ⟨n, rfl, by omega, by omega⟩
end
end Go.Proofs.YthehpafkaefohaaGreatDoor

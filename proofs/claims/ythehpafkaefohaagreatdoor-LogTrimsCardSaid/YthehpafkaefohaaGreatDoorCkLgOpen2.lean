/- Lists of batches, and numbers, that come in are opened. Conditions: none. -/
import Derived.Test.YthehpafkaefohaaGreatDoorCkM24
import Derived.Test.YthehpafkaefohaaGreatDoorCkM26
namespace Go.Proofs.YthehpafkaefohaaGreatDoor
open Go.ChangeShapes Go.WideShapes Go.ChangeAt Go.RowKit Go.Joins Go.Deep
section
variable {H : Type} {enc : TypeId × Value → H} {W : World}
set_option maxRecDepth 100000 in
/-- records that come in themselves -/
theorem arg_rows {base : Nat} {v : Value} {d : DataW H} {ps : List MemPlace} (hv : Value.okWide Tryz.prog W .any base 22 v) (hd : DataW.Trod enc Tryz.prog W 0 (fun _ => true) true 22 v d ps) : ∃ l, RdL W v l := by
  obtain ⟨a, len, cap, rfl⟩ := okWide_slice Tryz.underlying22 hv
  obtain ⟨n, h⟩ := hd
  replace h : DataW.trod enc Tryz.prog W 0 (fun _ => true) true n 22 [.slice a len cap] = some (d, ps) := h
  obtain ⟨v', l, hv', hr⟩ := op_rows h
  injection hv' with hv' _
  subst hv'
  exact ⟨l, hr⟩
set_option maxRecDepth 100000 in
/-- batches that come in themselves -/
theorem arg_batches {base : Nat} {v : Value} {d : DataW H} {ps : List MemPlace} (hv : Value.okWide Tryz.prog W .any base 40 v) (hd : DataW.Trod enc Tryz.prog W 0 (fun _ => true) true 40 v d ps) : ∃ bs, RdLL W v bs := by
  obtain ⟨a, len, cap, rfl⟩ := okWide_slice Tryz.underlying40 hv
  obtain ⟨n, h⟩ := hd
  replace h : DataW.trod enc Tryz.prog W 0 (fun _ => true) true n 40 [.slice a len cap] = some (d, ps) := h
  obtain ⟨v', l, hv', hr⟩ := op_row (p := RdL W) Tryz.underlying40 cells_rows (fun _ _ _ h => op_rows h) h
  injection hv' with hv' _
  subst hv'
  exact ⟨l, hr⟩
set_option maxRecDepth 100000 in
theorem arg_u16 {base : Nat} {v : Value} {d : DataW H} {ps : List MemPlace} (hv : Value.okWide Tryz.prog W .any base 41 v) (hd : DataW.Trod enc Tryz.prog W 0 (fun _ => true) true 41 v d ps) : ∃ z : Int, v = .int .u16 z ∧ 0 ≤ z ∧ z ≤ 65535 := by
  obtain ⟨n, rfl⟩ := okWide_int Tryz.underlying41 hv
  obtain ⟨m, h⟩ := hd
  replace h : DataW.trod enc Tryz.prog W 0 (fun _ => true) true m 41 [.int .u16 n] = some (d, ps) := h
  obtain ⟨z, hz, _, hw⟩ := DataW.trod_int Tryz.underlying41 h
  injection hz with hz
  injection hz with _ hz
  subst hz
  simp [Lit.wf, IntKind.min, IntKind.max, IntKind.signed, IntKind.bits] at hw
  exact ⟨n, rfl, by omega, by omega⟩
end
end Go.Proofs.YthehpafkaefohaaGreatDoor

/- Lists of batches, and numbers, that come in are opened. Conditions: none. -/
import Derived.Test.YthehpafkaefohaaDoorCkM24
import Derived.Test.YthehpafkaefohaaDoorCkM26
namespace Go.Proofs.YthehpafkaefohaaDoor
open Go.ChangeShapes Go.WideShapes Go.ChangeAt Go.RowKit Go.Joins Go.Deep
section
variable {H : Type} {enc : TypeId × Value → H} {W : World}
set_option maxRecDepth 100000 in
/-- records that come in themselves -/
theorem arg_rows {base : Nat} {v : Value} {d : DataW H} {ps : List MemPlace} (hv : Value.okWide Tryd.prog W .any base 33 v) (hd : DataW.Trod enc Tryd.prog W 0 (fun _ => true) true 33 v d ps) : ∃ l, RdL W v l := by
  obtain ⟨a, len, cap, rfl⟩ := okWide_slice Tryd.underlying33 hv
  obtain ⟨n, h⟩ := hd
  replace h : DataW.trod enc Tryd.prog W 0 (fun _ => true) true n 33 [.slice a len cap] = some (d, ps) := h
  obtain ⟨v', l, hv', hr⟩ := op_rows h
  injection hv' with hv' _
  subst hv'
  exact ⟨l, hr⟩
set_option maxRecDepth 100000 in
/-- batches that come in themselves -/
theorem arg_batches {base : Nat} {v : Value} {d : DataW H} {ps : List MemPlace} (hv : Value.okWide Tryd.prog W .any base 22 v) (hd : DataW.Trod enc Tryd.prog W 0 (fun _ => true) true 22 v d ps) : ∃ bs, RdLL W v bs := by
  obtain ⟨a, len, cap, rfl⟩ := okWide_slice Tryd.underlying22 hv
  obtain ⟨n, h⟩ := hd
  replace h : DataW.trod enc Tryd.prog W 0 (fun _ => true) true n 22 [.slice a len cap] = some (d, ps) := h
  obtain ⟨v', l, hv', hr⟩ := op_row (p := RdL W) Tryd.underlying22 cells_rows (fun _ _ _ h => op_rows h) h
  injection hv' with hv' _
  subst hv'
  exact ⟨l, hr⟩
end
end Go.Proofs.YthehpafkaefohaaDoor

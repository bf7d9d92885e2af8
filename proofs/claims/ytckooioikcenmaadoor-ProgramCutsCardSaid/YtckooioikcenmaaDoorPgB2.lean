/- A text's own bytes, to be read. Conditions: sizes a machine can have. -/
import Derived.Test.YtckooioikcenmaaDoorPgB1
import Derived.Test.YtckooioikcenmaaDoorPgL1
import Derived.Lib.ConvBytes
import Derived.Lib.SmallJoins
namespace Go.Proofs.YtckooioikcenmaaDoor
open Go.RowKit
theorem conv_run (w : World) (s : ByteArray) : Sem.run Tryd.prog (convert 9 35 (.string s)) w = .ok (.slice (some ⟨w.heap.size, 0, none⟩) s.size (grownCap w s.size 0 5)) (Lib.bytesWorld w 5 s) :=
  Lib.run_convert_string_bytes w 9 35 5 s Tryd.underlying9 Tryd.underlying35 Tryd.underlying5
theorem conv_read (w : World) (s : ByteArray) (hs : s.size ≤ 3000) : RdB (Lib.bytesWorld w 5 s) (.slice (some ⟨w.heap.size, 0, none⟩) s.size (grownCap w s.size 0 5)) s.data.toList := by
  have hl : s.data.toList.length = s.size := rfl
  refine .inr ⟨w.heap.size, 0, grownCap w s.size 0 5, by rw [hl], by rw [hl]; exact grownCap_ge _ _ _ _, grownCap_le_maxLen _ _ _ _ (by simp only [maxLen]; omega), by rw [Lib.bytesWorld_size]; omega, fun j x hx => ?_⟩
  have hj := (List.getElem?_eq_some_iff.1 hx).1
  have := Lib.bytesWorld_cell w 5 s j (by omega)
  rw [Nat.zero_add, this]
  simp only [List.getD_eq_getElem?_getD, hx, Option.getD_some]
theorem conv_below (B : Nat) (w : World) (s : ByteArray) (h : B ≤ w.heap.size) : Below B w (Lib.bytesWorld w 5 s) := Joins.below_bytesWorld B w 5 s h
end Go.Proofs.YtckooioikcenmaaDoor

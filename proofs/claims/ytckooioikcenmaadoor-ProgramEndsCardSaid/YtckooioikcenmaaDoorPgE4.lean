/- Forty-one noughts, as a text. Conditions: none. -/
import Derived.Test.YtckooioikcenmaaDoorPgE3
import Derived.Laws.BytesArg
namespace Go.Proofs.YtckooioikcenmaaDoor
open Go.RowKit
theorem infoZ : (Tryd.prog.info? 5).map (fun i => (i.zero, i.size, i.bytes)) = some (some (.int .u8 0), 1, 1) := by kernel_rfl
def noughtZ : Obj := .cells (madeCells (Value.int .u8 0).cells 41) 5
theorem nought_make (w : World) : Sem.run Tryd.prog (Instr.makeSlice 35 (.int .i64 41) (.int .i64 41)) w = .ok (.slice (some ⟨w.heap.size, 0, none⟩) 41 41) (w.alloc noughtZ) := by
  obtain ⟨i0, hi, hz0, hz1, hz2⟩ := info_parts infoZ
  have hmk := run_make (P := Tryd.prog) w 35 5 i0 (.int .u8 0) Tryd.underlying35 hi hz0 .i64 .i64 41 41 (by omega) (by omega) (by rw [hz2]; omega) (by omega)
  rw [hz1, show Int.toNat 41 = 41 from rfl, Nat.mul_one] at hmk
  exact hmk
theorem nought_cell (i : Nat) (h : i < 41) : (madeCells (Value.int .u8 0).cells 41)[i]? = some (.int .u8 0) := by
  simp [madeCells, Value.cells, h, Nat.mod_one]
theorem nought_text (w : World) : ∃ S : ByteArray, S.size = 41 ∧ Sem.run Tryd.prog (convert 35 9 (.slice (some ⟨w.heap.size, 0, none⟩) 41 41)) (w.alloc noughtZ) = .ok (Value.string S) (w.alloc noughtZ) := by
  have hc := run_convert_bytes_arg (P := Tryd.prog) (w := w.alloc noughtZ) 35 5 Tryd.underlying35 Tryd.underlying5 w.heap.size 0 41 41 (List.replicate 41 0) (List.length_replicate ..) (by
    intro i hi
    rw [Nat.zero_add, blk_cell (alloc_at w noughtZ), nought_cell i hi]
    rw [List.getD_eq_getElem?_getD, List.getElem?_replicate, if_pos hi]; rfl) 9 Tryd.underlying9
  refine ⟨_, ?_, hc⟩
  simp [strOfNums, ByteArray.size]
end Go.Proofs.YtckooioikcenmaaDoor

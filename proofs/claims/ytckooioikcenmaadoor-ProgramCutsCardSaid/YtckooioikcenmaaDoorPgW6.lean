/- program.Word and Show at the law's own examples. Conditions: the library's table of blanks reads as it is laid. -/
import Derived.Test.YtckooioikcenmaaDoorShelfB
import Derived.Test.YtckooioikcenmaaDoorPgW5
import Derived.LoopN
namespace Go.Proofs.YtckooioikcenmaaDoor
open Go.RowKit
def POK (w : World) : Prop := Lib.TabIs Tryd.prog w "strings.asciiSpace" .u8 Lib.asciiSpaceTab
def opsText : List UInt8 := [115, 101, 116, 32, 109, 111, 118, 101, 32, 97, 100, 100, 32, 115, 117, 98, 32, 109, 117, 108, 32, 108, 101, 115, 115, 32, 115, 97, 109, 101, 32, 106, 117, 109, 112, 32, 117, 110, 108, 101, 115, 115, 32, 97, 99, 116, 32, 115, 108, 101, 101, 112, 32, 99, 104, 105, 108, 100, 32, 119, 97, 105, 116, 32, 115, 105, 103, 110, 97, 108, 32, 100, 111, 110, 101, 32, 102, 97, 105, 108]
def opsWords : List (List UInt8) := [[115, 101, 116], [109, 111, 118, 101], [97, 100, 100], [115, 117, 98], [109, 117, 108], [108, 101, 115, 115], [115, 97, 109, 101], [106, 117, 109, 112], [117, 110, 108, 101, 115, 115], [97, 99, 116], [115, 108, 101, 101, 112], [99, 104, 105, 108, 100], [119, 97, 105, 116], [115, 105, 103, 110, 97, 108], [100, 111, 110, 101], [102, 97, 105, 108]]
theorem ops_fields : Lib.fields opsText = opsWords := by decide
theorem ops_ascii : ∀ (j : Nat) (b : UInt8), opsText[j]? = some b → b.toNat < 128 := fun j b h => by
  have : ∀ x ∈ opsText, x.toNat < 128 := by decide
  exact this b (List.mem_of_getElem? h)
theorem ops_call (w : World) (hg : POK w) : Calls Tryd.prog 56 #[.string ⟨opsText.toArray⟩] w fun e w' => e = .returned (.slice (some ⟨w.heap.size, 0, none⟩) 16 16) ∧ w' = w.alloc (.cells (opsWords.map fun l => Value.string ⟨l.toArray⟩).toArray 9) := by
  have h := Tryd.strings_Fields ⟨opsText.toArray⟩ w (by decide) ops_ascii hg
  rw [show (ByteArray.mk opsText.toArray).data.toList = opsText from rfl, ops_fields] at h
  exact h
set_option maxRecDepth 20000 in
theorem word_3 (w : World) (hg : POK w) : Calls Tryd.prog 46 #[.int .u8 3] w fun e w' => e = .returned (.string ⟨#[97, 100, 100]⟩) ∧ Below w.heap.size w w' := by
  have HC := Lib.hid (ops_call w hg)
  have hc : (w.alloc (.cells (opsWords.map fun l => Value.string ⟨l.toArray⟩).toArray 9)).cell? ⟨w.heap.size, 2, none⟩ = some (.string ⟨#[97, 100, 100]⟩) := by
    rw [blk_cell (alloc_at _ _)]; rfl
  have hb : Below w.heap.size w (w.alloc (.cells (opsWords.map fun l => Value.string ⟨l.toArray⟩).toArray 9)) := (Below.refl _ _).alloc (Nat.le_refl _) _
  generalize w.alloc (.cells (opsWords.map fun l => Value.string ⟨l.toArray⟩).toArray 9) = w2 at *
  go_enter Tryd.func46, Tryd.ntmps46
  go_wp2_with fail
  refine HC.out.mono ?_
  rintro e w' ⟨rfl, rfl⟩
  go_wp2
  go_ret
  exact ⟨rfl, hb⟩
set_option maxRecDepth 20000 in
theorem word_10 (w : World) (hg : POK w) : Calls Tryd.prog 46 #[.int .u8 10] w fun e w' => e = .returned (.string ⟨#[97, 99, 116]⟩) ∧ Below w.heap.size w w' := by
  have HC := Lib.hid (ops_call w hg)
  have hc : (w.alloc (.cells (opsWords.map fun l => Value.string ⟨l.toArray⟩).toArray 9)).cell? ⟨w.heap.size, 9, none⟩ = some (.string ⟨#[97, 99, 116]⟩) := by
    rw [blk_cell (alloc_at _ _)]; rfl
  have hb : Below w.heap.size w (w.alloc (.cells (opsWords.map fun l => Value.string ⟨l.toArray⟩).toArray 9)) := (Below.refl _ _).alloc (Nat.le_refl _) _
  generalize w.alloc (.cells (opsWords.map fun l => Value.string ⟨l.toArray⟩).toArray 9) = w2 at *
  go_enter Tryd.func46, Tryd.ntmps46
  go_wp2_with fail
  refine HC.out.mono ?_
  rintro e w' ⟨rfl, rfl⟩
  go_wp2
  go_ret
  exact ⟨rfl, hb⟩
theorem POK.below {w w' : World} (h : POK w) (hb : Below w.heap.size w w') : POK w' := by
  unfold POK Lib.TabIs World.var? at *
  cases hg : Tryd.prog.globalNamed "strings.asciiSpace" with
  | none => rw [hg] at h; simp at h
  | some g =>
    rw [hg] at h
    simp only [Option.bind_some] at h ⊢
    cases h9 : w.heap[g]? with
    | none => rw [h9] at h; simp at h
    | some o => rw [hb.block g (blk_lt h9), h9]; rw [h9] at h; exact h
theorem fmt_small (i : Nat) (hi : i < 10) (w : World) : Calls Tryd.prog 47 #[.int .i64 i, .int .i64 10] w fun e w' => e = .returned (.string ⟨#[UInt8.ofNat (48 + i)]⟩) ∧ w' = w := by
  have h := Tryd.strconv_FormatInt_10_small i (by omega) w
  have e : (Lib.decDigits i).toArray = #[UInt8.ofNat (48 + i)] := by
    have h9 : i = 0 ∨ i = 1 ∨ i = 2 ∨ i = 3 ∨ i = 4 ∨ i = 5 ∨ i = 6 ∨ i = 7 ∨ i = 8 ∨ i = 9 := by omega
    rcases h9 with rfl | rfl | rfl | rfl | rfl | rfl | rfl | rfl | rfl | rfl <;> (rw [Lib.decDigits]; rfl)
  rw [e] at h
  exact h
theorem fmt_0 (w : World) : Calls Tryd.prog 47 #[.int .i64 0, .int .i64 10] w fun e w' => e = .returned (.string ⟨#[48]⟩) ∧ w' = w := fmt_small 0 (by omega) w
theorem fmt_1 (w : World) : Calls Tryd.prog 47 #[.int .i64 1, .int .i64 10] w fun e w' => e = .returned (.string ⟨#[49]⟩) ∧ w' = w := fmt_small 1 (by omega) w
theorem fmt_2 (w : World) : Calls Tryd.prog 47 #[.int .i64 2, .int .i64 10] w fun e w' => e = .returned (.string ⟨#[50]⟩) ∧ w' = w := fmt_small 2 (by omega) w
set_option maxRecDepth 20000 in
theorem show_3 (w : World) (hg : POK w) : Calls Tryd.prog 27 #[.agg #[.int .u8 3, .int .i64 2, .int .i64 0, .int .i64 1, .int .i64 0, .string ⟨#[]⟩]] w fun e w' => e = .returned (.string ⟨#[97, 100, 100, 32, 50, 32, 48, 32, 49, 32, 48]⟩) ∧ Below w.heap.size w w' := by
  have hb0 : Below w.heap.size w (w.alloc (.cells #[.int .u8 3, .int .i64 2, .int .i64 0, .int .i64 1, .int .i64 0, .string ⟨#[]⟩] 34)) := (Below.refl _ _).alloc (Nat.le_refl _) _
  have hbx := alloc_at w (.cells #[.int .u8 3, .int .i64 2, .int .i64 0, .int .i64 1, .int .i64 0, .string ⟨#[]⟩] 34)
  have HW := Lib.hid (word_3 _ (hg.below hb0))
  have x0 : ∀ W : World, (Instr.index 90 (.agg #[.int .i64 2, .int .i64 0, .int .i64 1, .int .i64 0]) (.int .i64 0)).run Tryd.prog W = .ok (.int .i64 2) W := fun _ => by kernel_rfl
  have x1 : ∀ W : World, (Instr.index 90 (.agg #[.int .i64 2, .int .i64 0, .int .i64 1, .int .i64 0]) (.int .i64 1)).run Tryd.prog W = .ok (.int .i64 0) W := fun _ => by kernel_rfl
  have x2 : ∀ W : World, (Instr.index 90 (.agg #[.int .i64 2, .int .i64 0, .int .i64 1, .int .i64 0]) (.int .i64 2)).run Tryd.prog W = .ok (.int .i64 1) W := fun _ => by kernel_rfl
  have x3 : ∀ W : World, (Instr.index 90 (.agg #[.int .i64 2, .int .i64 0, .int .i64 1, .int .i64 0]) (.int .i64 3)).run Tryd.prog W = .ok (.int .i64 0) W := fun _ => by kernel_rfl
  go_enter Tryd.func27, Tryd.ntmps27
  go_wp2_with fail
  refine HW.out.mono ?_
  rintro e w' ⟨rfl, hb⟩
  have hbx' := blk_below hb hbx
  have d1 := blk_cell hbx' 1
  have d2 := blk_cell hbx' 2
  have d3 := blk_cell hbx' 3
  have d4 := blk_cell hbx' 4
  have d5 := blk_cell hbx' 5
  simp at d1 d2 d3 d4 d5
  have HB := Lib.hid (below_alloc (Below.refl _ _) (Nat.le_refl _) hb)
  clear hb hbx hbx' hb0
  go_wp2
  refine wp_loop_rounds 5 ?_
  rw [rounds_succ]
  go_wp2_with fail
  refine (fmt_2 _).mono ?_
  rintro e w2 ⟨rfl, rfl⟩
  go_wp2
  rw [rounds_succ]
  go_wp2_with fail
  refine (fmt_0 _).mono ?_
  rintro e w3 ⟨rfl, rfl⟩
  go_wp2
  rw [rounds_succ]
  go_wp2_with fail
  refine (fmt_1 _).mono ?_
  rintro e w4 ⟨rfl, rfl⟩
  go_wp2
  rw [rounds_succ]
  go_wp2_with fail
  refine (fmt_0 _).mono ?_
  rintro e w5 ⟨rfl, rfl⟩
  go_wp2
  rw [rounds_succ]
  go_wp2
  go_ret
  exact ⟨rfl, HB.out⟩
set_option maxRecDepth 20000 in
theorem show_10 (w : World) (hg : POK w) : Calls Tryd.prog 27 #[.agg #[.int .u8 10, .int .i64 1, .int .i64 0, .int .i64 2, .int .i64 0, .string ⟨#[112, 97, 121]⟩]] w fun e w' => e = .returned (.string ⟨#[97, 99, 116, 32, 49, 32, 48, 32, 50, 32, 48, 32, 112, 97, 121]⟩) ∧ Below w.heap.size w w' := by
  have hb0 : Below w.heap.size w (w.alloc (.cells #[.int .u8 10, .int .i64 1, .int .i64 0, .int .i64 2, .int .i64 0, .string ⟨#[112, 97, 121]⟩] 34)) := (Below.refl _ _).alloc (Nat.le_refl _) _
  have hbx := alloc_at w (.cells #[.int .u8 10, .int .i64 1, .int .i64 0, .int .i64 2, .int .i64 0, .string ⟨#[112, 97, 121]⟩] 34)
  have HW := Lib.hid (word_10 _ (hg.below hb0))
  have x0 : ∀ W : World, (Instr.index 90 (.agg #[.int .i64 1, .int .i64 0, .int .i64 2, .int .i64 0]) (.int .i64 0)).run Tryd.prog W = .ok (.int .i64 1) W := fun _ => by kernel_rfl
  have x1 : ∀ W : World, (Instr.index 90 (.agg #[.int .i64 1, .int .i64 0, .int .i64 2, .int .i64 0]) (.int .i64 1)).run Tryd.prog W = .ok (.int .i64 0) W := fun _ => by kernel_rfl
  have x2 : ∀ W : World, (Instr.index 90 (.agg #[.int .i64 1, .int .i64 0, .int .i64 2, .int .i64 0]) (.int .i64 2)).run Tryd.prog W = .ok (.int .i64 2) W := fun _ => by kernel_rfl
  have x3 : ∀ W : World, (Instr.index 90 (.agg #[.int .i64 1, .int .i64 0, .int .i64 2, .int .i64 0]) (.int .i64 3)).run Tryd.prog W = .ok (.int .i64 0) W := fun _ => by kernel_rfl
  go_enter Tryd.func27, Tryd.ntmps27
  go_wp2_with fail
  refine HW.out.mono ?_
  rintro e w' ⟨rfl, hb⟩
  have hbx' := blk_below hb hbx
  have d1 := blk_cell hbx' 1
  have d2 := blk_cell hbx' 2
  have d3 := blk_cell hbx' 3
  have d4 := blk_cell hbx' 4
  have d5 := blk_cell hbx' 5
  simp at d1 d2 d3 d4 d5
  have HB := Lib.hid (below_alloc (Below.refl _ _) (Nat.le_refl _) hb)
  clear hb hbx hbx' hb0
  go_wp2
  refine wp_loop_rounds 5 ?_
  rw [rounds_succ]
  go_wp2_with fail
  refine (fmt_1 _).mono ?_
  rintro e w2 ⟨rfl, rfl⟩
  go_wp2
  rw [rounds_succ]
  go_wp2_with fail
  refine (fmt_0 _).mono ?_
  rintro e w3 ⟨rfl, rfl⟩
  go_wp2
  rw [rounds_succ]
  go_wp2_with fail
  refine (fmt_2 _).mono ?_
  rintro e w4 ⟨rfl, rfl⟩
  go_wp2
  rw [rounds_succ]
  go_wp2_with fail
  refine (fmt_0 _).mono ?_
  rintro e w5 ⟨rfl, rfl⟩
  go_wp2
  rw [rounds_succ]
  go_wp2
  go_ret
  exact ⟨rfl, HB.out⟩
end Go.Proofs.YtckooioikcenmaaDoor

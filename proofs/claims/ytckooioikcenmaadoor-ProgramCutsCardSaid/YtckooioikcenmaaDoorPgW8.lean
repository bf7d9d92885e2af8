/- The program laws' helpers: Great, Pick. Conditions: none. -/
import Derived.Test.YtckooioikcenmaaDoorPgW7
namespace Go.Proofs.YtckooioikcenmaaDoor
open Go.RowKit
/-- the box of a program, in a world later on -/
structure PBox (w : World) (name : ByteArray) (regs : Int) (cv : Value) (W : World) : Prop where
  box : W.heap[w.heap.size]? = some (.cells #[.string name, .int .i64 regs, cv] 24)
  bel : Below w.heap.size w W
theorem PBox.first (w : World) (name : ByteArray) (regs : Int) (cv : Value) : PBox w name regs cv (w.alloc (.cells #[.string name, .int .i64 regs, cv] 24)) :=
  ⟨alloc_at _ _, (Below.refl _ _).alloc (Nat.le_refl _) _⟩
theorem PBox.below {w W W' : World} {name : ByteArray} {regs : Int} {cv : Value} (h : PBox w name regs cv W) (hb : Below W.heap.size W W') : PBox w name regs cv W' :=
  ⟨blk_below hb h.box, h.bel.trans (hb.mono h.bel.size)⟩
theorem PBox.alloc {w W : World} {name : ByteArray} {regs : Int} {cv : Value} (h : PBox w name regs cv W) (o : Obj) : PBox w name regs cv (W.alloc o) :=
  h.below ((Below.refl _ _).alloc (Nat.le_refl _) o)
theorem PBox.c0 {w W : World} {name : ByteArray} {regs : Int} {cv : Value} (h : PBox w name regs cv W) : W.cell? ⟨w.heap.size, 0, none⟩ = some (.string name) := by rw [blk_cell h.box]; rfl
theorem PBox.c1 {w W : World} {name : ByteArray} {regs : Int} {cv : Value} (h : PBox w name regs cv W) : W.cell? ⟨w.heap.size, 1, none⟩ = some (.int .i64 regs) := by rw [blk_cell h.box]; rfl
theorem PBox.c2 {w W : World} {name : ByteArray} {regs : Int} {cv : Value} (h : PBox w name regs cv W) : W.cell? ⟨w.heap.size, 2, none⟩ = some cv := by rw [blk_cell h.box]; rfl
def GreatPost (w : World) (e : Ending) (w' : World) : Prop := (∃ r : Bool, e = .returned (.bool r)) ∧ Below w.heap.size w w'
set_option maxRecDepth 20000 in
set_option maxHeartbeats 1000000 in
theorem great_tail (name : ByteArray) (regs : Int) (A : Option Addr) (cp : Nat) (w : World) (xs : List Ins) (hc : CodeAt w (.slice A xs.length cp) xs) (h1 : (xs.length : Int) ≤ 600) (h2 : (name.size : Int) ≤ 3000) :
    Calls Tryd.prog 10 #[.agg #[.string name, .int .i64 regs, .slice A xs.length cp]] w (GreatPost w) := by
  have HC := Lib.hid hc
  clear hc
  obtain ⟨ln, hln⟩ : ∃ ln, xs.length = ln := ⟨_, rfl⟩
  rw [hln] at h1 ⊢
  have HL := Lib.hid hln
  clear hln
  have HB0 := Lib.hid (PBox.first w name regs (.slice A ln cp))
  go_enter Tryd.func10, Tryd.ntmps10
  go_wp2
  go_loop [3, 4, 18] (fun n _ i => ∃ (k : Nat) (s : Int), n = .int .i64 s ∧ i = .int .i64 k ∧ k ≤ ln) (fun _ _ i => ln - (intOf i).toNat)
  case atStart => exact ⟨0, 0, rfl, rfl, by omega⟩
  case round =>
    obtain ⟨k, s, rfl, rfl, hk⟩ := hrel
    by_cases hk4 : k < ln
    · obtain ⟨x, hxk⟩ : ∃ x, xs[k]? = some x := ⟨xs[k]'(by rw [HL.out]; exact hk4), List.getElem?_eq_getElem _⟩
      obtain ⟨b, o, rfl, c5⟩ : ∃ b o, A = some ⟨b, o, none⟩ ∧ (w.alloc (.cells #[.string name, .int .i64 regs, .slice A ln cp] 24)).cell? ⟨b, o + k * 6 + 5, none⟩ = some (.string x.s) := by
        rcases HC.out with ⟨h9, h8⟩ | ⟨b, o, c, h9, h10, h11, h12, h13⟩
        · rw [h8] at hxk; simp at hxk
        · injection h9 with h9
          exact ⟨b, o, h9, cell_later ((Below.refl _ _).alloc (Nat.le_refl _) _) (h13 k x hxk).c5⟩
      clear hxk
      go_wp2
      go_round
      case rel => exact ⟨k + 1, _, rfl, by go_num, by omega⟩
      case measure => simp [intOf]; omega
    · go_wp2
      go_ret
      exact ⟨⟨_, rfl⟩, HB0.out.bel⟩
set_option maxRecDepth 20000 in
theorem great_any (name : ByteArray) (regs : Int) (cv : Value) (w : World) (xs : List Ins) (hc : CodeAt w cv xs) :
    Calls Tryd.prog 10 #[.agg #[.string name, .int .i64 regs, cv]] w (GreatPost w) := by
  obtain ⟨A, cp, rfl⟩ : ∃ A cp, cv = .slice A xs.length cp := by
    rcases hc with ⟨⟨A, c, rfl⟩, rfl⟩ | ⟨b, o, c, rfl, _⟩
    · exact ⟨A, c, rfl⟩
    · exact ⟨_, c, rfl⟩
  by_cases h1 : (xs.length : Int) ≤ 600
  · by_cases h2 : (name.size : Int) ≤ 3000
    · exact great_tail name regs A cp w xs hc h1 h2
    · have HB0 := Lib.hid (PBox.first w name regs (.slice A xs.length cp))
      clear hc
      go_enter Tryd.func10, Tryd.ntmps10
      go_wp2
      go_ret
      exact ⟨⟨_, rfl⟩, HB0.out.bel⟩
  · have HB0 := Lib.hid (PBox.first w name regs (.slice A xs.length cp))
    clear hc
    go_enter Tryd.func10, Tryd.ntmps10
    go_wp2
    go_ret
    exact ⟨⟨_, rfl⟩, HB0.out.bel⟩
/-- the place that a number stands for -/
theorem pick_any (x n : Int) (w : World) (h1 : 1 ≤ n) (hn : n ≤ 9223372036854775807) :
    ∃ r : Int, 0 ≤ r ∧ r < n ∧ Calls Tryd.prog 13 #[.int .i64 x, .int .i64 n] w fun e w' => e = .returned (.int .i64 r) ∧ w = w' := by
  have hr1 : x.tmod n < n := Int.tmod_lt_of_pos x (by omega)
  have hr2 : -n < x.tmod n := by
    have := Int.lt_tmod_of_pos x (b := n) (by omega)
    omega
  by_cases h0 : x.tmod n < 0
  · refine ⟨x.tmod n + n, by omega, by omega, ?_⟩
    go_enter Tryd.func13, Tryd.ntmps13
    go_wp2
    go_ret
    exact ⟨rfl, rfl⟩
  · refine ⟨x.tmod n, by omega, by omega, ?_⟩
    go_enter Tryd.func13, Tryd.ntmps13
    go_wp2
    go_ret
    exact ⟨rfl, rfl⟩
end Go.Proofs.YtckooioikcenmaaDoor

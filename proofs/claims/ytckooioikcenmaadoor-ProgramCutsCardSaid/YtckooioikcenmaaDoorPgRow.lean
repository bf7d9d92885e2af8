/- What the rows of the program laws share: a program that comes in is opened; what the library's table holds. Conditions: none. -/
import Derived.Test.YtckooioikcenmaaDoorPgW8
import Derived.Test.YtckooioikcenmaaDoorLaw
import Derived.Test.YtckooioikcenmaaDoorTie
import Derived.Test.YtckooioikcenmaaDoorCards
import Derived.Lib.SmallJoins
import Derived.LaidLaws
import Derived.MakeChecks
import Derived.Deep.Slices
import Derived.Deep.Fields
namespace Go.Proofs.YtckooioikcenmaaDoor
open Go.ChangeShapes Go.WideShapes Go.ChangeAt Go.RowKit Go.Joins Go.Deep
theorem pown : ownKnob Tryd.prog.godebug = none := by kernel_rfl
theorem plaidOut : laidOutB Tryd.prog = true := by kernel_rfl
theorem pcells9 : Tryd.prog.cellsOf 9 = 1 := by kernel_rfl
theorem pcells24 : Tryd.prog.cellsOf 24 = 3 := by kernel_rfl
theorem pcells32 : Tryd.prog.cellsOf 32 = 1 := by kernel_rfl
theorem pcells3 : Tryd.prog.cellsOf 3 = 1 := by kernel_rfl
theorem pcells2 : Tryd.prog.cellsOf 2 = 1 := by kernel_rfl
theorem pcells34 : Tryd.prog.cellsOf 34 = 6 := by kernel_rfl
theorem pgSpace : Tryd.prog.globalNamed "strings.asciiSpace" = some 0 := by kernel_rfl
theorem paddr_add (b o n : Nat) : (⟨b, o, none⟩ : Addr).add n = ⟨b, o + n, none⟩ := by simp [Addr.add]
theorem list_of {α : Type} : ∀ (n : Nat) (p : Nat → α → Prop), (∀ i, i < n → ∃ x, p i x) → ∃ xs : List α, xs.length = n ∧ ∀ (k : Nat) (x : α), xs[k]? = some x → p k x
  | 0, _, _ => ⟨[], rfl, fun k x h => by simp at h⟩
  | n + 1, p, h => by
    obtain ⟨x0, h0⟩ := h 0 (by omega)
    obtain ⟨xs, hl, hx⟩ := list_of n (fun i => p (i + 1)) (fun i hi => h (i + 1) (by omega))
    refine ⟨x0 :: xs, by simp [hl], fun k x hk => ?_⟩
    cases k with
    | zero => simp at hk; subst hk; exact h0
    | succ k => exact hx k x (by simpa using hk)
section
variable {H : Type} {enc : TypeId × Value → H} {W : World}
set_option maxRecDepth 20000 in
/-- a slice of instructions that comes in -/
theorem open_code {n : Nat} {v : Value} {y : DataW H × List MemPlace} (h : DataW.trod enc Tryd.prog W 0 (fun _ => true) true n 22 [v] = some y) : ∃ xs, CodeAt W v xs := by
  rcases open_slice Tryd.underlying22 h with ⟨h0, _⟩ | ⟨a, len, cap, m, n', D, Pl, hcs, hb, hl, hm, hmm, hx, hi⟩
  · injection h0 with h0
    exact ⟨[], .inl ⟨⟨_, _, h0⟩, rfl⟩⟩
  · injection hcs with hcs
    subst hcs
    simp only [if_true] at hmm
    subst hmm
    have key : ∀ i, i < m → ∃ x : Ins, W.cell? (a.add (i * 6)) = some (.int .u8 x.op) ∧ W.cell? (a.add (i * 6 + 1)) = some (.int .i64 x.a) ∧ W.cell? (a.add (i * 6 + 2)) = some (.int .i64 x.b) ∧ W.cell? (a.add (i * 6 + 3)) = some (.int .i64 x.c) ∧
        W.cell? (a.add (i * 6 + 4)) = some (.int .i64 x.n) ∧ W.cell? (a.add (i * 6 + 5)) = some (.string x.s) := by
      intro i him
      obtain ⟨cs', hc, ht⟩ := hi i him
      rw [pcells34] at hc
      obtain ⟨_, hcl, hat⟩ := World.cells?_some hc
      match cs', hcl with
      | [v0, v1, v2, v3, v4, v5], _ =>
        obtain ⟨ys, n2, _, _, _, hyl, hf⟩ := DataW.trod_struct Tryd.underlying34 ht
        have hyl : ys.length = 6 := hyl
        match ys, hyl with
        | [y0, y1, y2, y3, y4, y5], _ =>
          have g0 : DataW.trod enc Tryd.prog W 0 (fun _ => true) true n2 32 (List.take (Tryd.prog.cellsOf 32) (List.drop 0 [v0, v1, v2, v3, v4, v5])) = some y0 := hf 0 _ rfl
          rw [pcells32] at g0
          replace g0 : DataW.trod enc Tryd.prog W 0 (fun _ => true) true n2 32 [v0] = some y0 := g0
          have g1 : DataW.trod enc Tryd.prog W 0 (fun _ => true) true n2 3 (List.take (Tryd.prog.cellsOf 3) (List.drop 1 [v0, v1, v2, v3, v4, v5])) = some y1 := hf 1 _ rfl
          rw [pcells3] at g1
          replace g1 : DataW.trod enc Tryd.prog W 0 (fun _ => true) true n2 3 [v1] = some y1 := g1
          have g2 : DataW.trod enc Tryd.prog W 0 (fun _ => true) true n2 3 (List.take (Tryd.prog.cellsOf 3) (List.drop 2 [v0, v1, v2, v3, v4, v5])) = some y2 := hf 2 _ rfl
          rw [pcells3] at g2
          replace g2 : DataW.trod enc Tryd.prog W 0 (fun _ => true) true n2 3 [v2] = some y2 := g2
          have g3 : DataW.trod enc Tryd.prog W 0 (fun _ => true) true n2 3 (List.take (Tryd.prog.cellsOf 3) (List.drop 3 [v0, v1, v2, v3, v4, v5])) = some y3 := hf 3 _ rfl
          rw [pcells3] at g3
          replace g3 : DataW.trod enc Tryd.prog W 0 (fun _ => true) true n2 3 [v3] = some y3 := g3
          have g4 : DataW.trod enc Tryd.prog W 0 (fun _ => true) true n2 2 (List.take (Tryd.prog.cellsOf 2) (List.drop 4 [v0, v1, v2, v3, v4, v5])) = some y4 := hf 4 _ rfl
          rw [pcells2] at g4
          replace g4 : DataW.trod enc Tryd.prog W 0 (fun _ => true) true n2 2 [v4] = some y4 := g4
          have g5 : DataW.trod enc Tryd.prog W 0 (fun _ => true) true n2 9 (List.take (Tryd.prog.cellsOf 9) (List.drop 5 [v0, v1, v2, v3, v4, v5])) = some y5 := hf 5 _ rfl
          rw [pcells9] at g5
          replace g5 : DataW.trod enc Tryd.prog W 0 (fun _ => true) true n2 9 [v5] = some y5 := g5
          obtain ⟨z0, e0, _, _⟩ := DataW.trod_int Tryd.underlying32 g0
          obtain ⟨z1, e1, _, _⟩ := DataW.trod_int Tryd.underlying3 g1
          obtain ⟨z2, e2, _, _⟩ := DataW.trod_int Tryd.underlying3 g2
          obtain ⟨z3, e3, _, _⟩ := DataW.trod_int Tryd.underlying3 g3
          obtain ⟨z4, e4, _, _⟩ := DataW.trod_int Tryd.underlying2 g4
          obtain ⟨z5, e5, _, _⟩ := DataW.trod_string Tryd.underlying9 g5
          simp at e0 e1 e2 e3 e4 e5
          subst e0 e1 e2 e3 e4 e5
          refine ⟨⟨z0, z1, z2, z3, z4, z5⟩, hat 0 (by omega), ?_, ?_, ?_, ?_, ?_⟩
          · rw [← Go.Deep.add_add]; exact hat 1 (by omega)
          · rw [← Go.Deep.add_add]; exact hat 2 (by omega)
          · rw [← Go.Deep.add_add]; exact hat 3 (by omega)
          · rw [← Go.Deep.add_add]; exact hat 4 (by omega)
          · rw [← Go.Deep.add_add]; exact hat 5 (by omega)
    rcases Nat.eq_zero_or_pos len with rfl | hpos
    · exact ⟨[], .inl ⟨⟨_, _, rfl⟩, rfl⟩⟩
    · obtain ⟨x0, h00, _⟩ := key 0 (by omega)
      obtain ⟨b, o, sp⟩ := a
      have hsp : sp = none := by
        cases sp with
        | none => rfl
        | some z =>
          exfalso
          simp only [World.cell?, Addr.add] at h00
          split at h00 <;> simp at h00
      subst hsp
      have hlt := World.block_lt_of_cell? W _ h00
      obtain ⟨xs, hxl, hxs⟩ := list_of len (fun i (x : Ins) => W.cell? ((⟨b, o, none⟩ : Addr).add (i * 6)) = some (.int .u8 x.op) ∧ W.cell? ((⟨b, o, none⟩ : Addr).add (i * 6 + 1)) = some (.int .i64 x.a) ∧ W.cell? ((⟨b, o, none⟩ : Addr).add (i * 6 + 2)) = some (.int .i64 x.b) ∧
        W.cell? ((⟨b, o, none⟩ : Addr).add (i * 6 + 3)) = some (.int .i64 x.c) ∧ W.cell? ((⟨b, o, none⟩ : Addr).add (i * 6 + 4)) = some (.int .i64 x.n) ∧ W.cell? ((⟨b, o, none⟩ : Addr).add (i * 6 + 5)) = some (.string x.s)) (fun i hi => key i (by omega))
      refine ⟨xs, .inr ⟨b, o, m, by rw [hxl], by omega, hm, hlt, fun k x hx => ?_⟩⟩
      obtain ⟨a0, a1, a2, a3, a4, a5⟩ := hxs k x hx
      rw [paddr_add] at a0 a1 a2 a3 a4 a5
      exact ⟨a0, by rw [← Nat.add_assoc] at a1; exact a1, by rw [← Nat.add_assoc] at a2; exact a2, by rw [← Nat.add_assoc] at a3; exact a3, by rw [← Nat.add_assoc] at a4; exact a4, by rw [← Nat.add_assoc] at a5; exact a5⟩
end
theorem pgSpaceType : (Tryd.prog.globals[0]?).map (·.type) = some 112 := by kernel_rfl
theorem pcells112 : Tryd.prog.cellsOf 112 = 256 := by kernel_rfl
theorem pcells5 : Tryd.prog.cellsOf 5 = 1 := by kernel_rfl
set_option maxRecDepth 100000 in
theorem pok_of {W : World} (hL : laidMetH Tryd.prog Rows.programPoliciesRow.laid W) : POK W := by
  rw [MakeChecks.laidMetH_plain _ _ _ (by kernel_rfl)] at hL
  have h1 : laidMet Tryd.prog (("math/bits.deBruijn32tab", Rows.laid_math_bits_deBruijn32tab) :: ("math/bits.deBruijn64tab", Rows.laid_math_bits_deBruijn64tab) :: ("internal/strconv.uint64pow10", Rows.laid_internal_strconv_uint64pow10) :: ("unicode.White_Space", Rows.laid_unicode_White_Space) :: ("strings.asciiSpace", Rows.laid_strings_asciiSpace) :: []) W := hL
  have h2 := laidMet.tail (laidMet.tail (laidMet.tail (laidMet.tail h1)))
  exact Lib.tabIs_of_head pgSpace pgSpaceType Tryd.underlying112 Tryd.underlying5 pcells5 pcells112 h2
end Go.Proofs.YtckooioikcenmaaDoor

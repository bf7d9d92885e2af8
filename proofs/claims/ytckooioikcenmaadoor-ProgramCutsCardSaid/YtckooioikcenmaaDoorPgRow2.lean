/- What the rows of ProgramBack and ProgramCuts share: a program, and bytes, that come in. Conditions: none. -/
import Derived.Test.YtckooioikcenmaaDoorPgRow
import Derived.Test.YtckooioikcenmaaDoorPgR0
import Derived.ChangeSlices
namespace Go.Proofs.YtckooioikcenmaaDoor
open Go.ChangeShapes Go.WideShapes Go.ChangeAt Go.RowKit Go.Joins Go.Deep
section
variable {H : Type} {enc : TypeId × Value → H} {W : World}
set_option maxRecDepth 20000 in
/-- a slice of instructions that comes in -/
theorem open_code2 {n : Nat} {v : Value} {y : DataW H × List MemPlace} (h : DataW.trod enc Tryd.prog W 0 (fun _ => true) true n 22 [v] = some y) : ∃ xs, CodeAt W v xs ∧ NOk xs := by
  rcases open_slice Tryd.underlying22 h with ⟨h0, _⟩ | ⟨a, len, cap, m, n', D, Pl, hcs, hb, hl, hm, hmm, hx, hi⟩
  · injection h0 with h0
    exact ⟨[], .inl ⟨⟨_, _, h0⟩, rfl⟩, fun x hx => by cases hx⟩
  · injection hcs with hcs
    subst hcs
    simp only [if_true] at hmm
    subst hmm
    have key : ∀ i, i < m → ∃ x : Ins, W.cell? (a.add (i * 6)) = some (.int .u8 x.op) ∧ W.cell? (a.add (i * 6 + 1)) = some (.int .i64 x.a) ∧ W.cell? (a.add (i * 6 + 2)) = some (.int .i64 x.b) ∧ W.cell? (a.add (i * 6 + 3)) = some (.int .i64 x.c) ∧
        W.cell? (a.add (i * 6 + 4)) = some (.int .i64 x.n) ∧ W.cell? (a.add (i * 6 + 5)) = some (.string x.s) ∧ (-9223372036854775808 ≤ x.n ∧ x.n ≤ 9223372036854775807) := by
      intro i him
      obtain ⟨cs', hc, ht⟩ := hi i him
      rw [pcells34] at hc
      obtain ⟨_, hcl, hat⟩ := World.cells?_some hc
      match cs', hcl with
      | [v0, v1, v2, v3, v4, v5], _ =>
        obtain ⟨ys, n2, _, _, _, hyl, hf⟩ := DataW.trod_struct Tryd.underlying34 ht
        have hyl : ys.length = 6 := hyl
        match ys, hyl with
        | [y0, y1, y2, y3, y4, y5], _ =>
          have g0 : DataW.trod enc Tryd.prog W 0 (fun _ => true) true n2 32 (List.take (Tryd.prog.cellsOf 32) (List.drop 0 [v0, v1, v2, v3, v4, v5])) = some y0 := hf 0 _ rfl
          rw [pcells32] at g0
          replace g0 : DataW.trod enc Tryd.prog W 0 (fun _ => true) true n2 32 [v0] = some y0 := g0
          have g1 : DataW.trod enc Tryd.prog W 0 (fun _ => true) true n2 3 (List.take (Tryd.prog.cellsOf 3) (List.drop 1 [v0, v1, v2, v3, v4, v5])) = some y1 := hf 1 _ rfl
          rw [pcells3] at g1
          replace g1 : DataW.trod enc Tryd.prog W 0 (fun _ => true) true n2 3 [v1] = some y1 := g1
          have g2 : DataW.trod enc Tryd.prog W 0 (fun _ => true) true n2 3 (List.take (Tryd.prog.cellsOf 3) (List.drop 2 [v0, v1, v2, v3, v4, v5])) = some y2 := hf 2 _ rfl
          rw [pcells3] at g2
          replace g2 : DataW.trod enc Tryd.prog W 0 (fun _ => true) true n2 3 [v2] = some y2 := g2
          have g3 : DataW.trod enc Tryd.prog W 0 (fun _ => true) true n2 3 (List.take (Tryd.prog.cellsOf 3) (List.drop 3 [v0, v1, v2, v3, v4, v5])) = some y3 := hf 3 _ rfl
          rw [pcells3] at g3
          replace g3 : DataW.trod enc Tryd.prog W 0 (fun _ => true) true n2 3 [v3] = some y3 := g3
          have g4 : DataW.trod enc Tryd.prog W 0 (fun _ => true) true n2 2 (List.take (Tryd.prog.cellsOf 2) (List.drop 4 [v0, v1, v2, v3, v4, v5])) = some y4 := hf 4 _ rfl
          rw [pcells2] at g4
          replace g4 : DataW.trod enc Tryd.prog W 0 (fun _ => true) true n2 2 [v4] = some y4 := g4
          have g5 : DataW.trod enc Tryd.prog W 0 (fun _ => true) true n2 9 (List.take (Tryd.prog.cellsOf 9) (List.drop 5 [v0, v1, v2, v3, v4, v5])) = some y5 := hf 5 _ rfl
          rw [pcells9] at g5
          replace g5 : DataW.trod enc Tryd.prog W 0 (fun _ => true) true n2 9 [v5] = some y5 := g5
          obtain ⟨z0, e0, _, _⟩ := DataW.trod_int Tryd.underlying32 g0
          obtain ⟨z1, e1, _, _⟩ := DataW.trod_int Tryd.underlying3 g1
          obtain ⟨z2, e2, _, _⟩ := DataW.trod_int Tryd.underlying3 g2
          obtain ⟨z3, e3, _, _⟩ := DataW.trod_int Tryd.underlying3 g3
          obtain ⟨z4, e4, _, hz4⟩ := DataW.trod_int Tryd.underlying2 g4
          have hz4' : -9223372036854775808 ≤ z4 ∧ z4 ≤ 9223372036854775807 := by
            simp [Lit.wf, IntKind.min, IntKind.max, IntKind.signed, IntKind.bits] at hz4
            omega
          obtain ⟨z5, e5, _, _⟩ := DataW.trod_string Tryd.underlying9 g5
          simp at e0 e1 e2 e3 e4 e5
          subst e0 e1 e2 e3 e4 e5
          refine ⟨⟨z0, z1, z2, z3, z4, z5⟩, hat 0 (by omega), ?_, ?_, ?_, ?_, ?_, hz4'⟩
          · rw [← Go.Deep.add_add]; exact hat 1 (by omega)
          · rw [← Go.Deep.add_add]; exact hat 2 (by omega)
          · rw [← Go.Deep.add_add]; exact hat 3 (by omega)
          · rw [← Go.Deep.add_add]; exact hat 4 (by omega)
          · rw [← Go.Deep.add_add]; exact hat 5 (by omega)
    rcases Nat.eq_zero_or_pos len with rfl | hpos
    · exact ⟨[], .inl ⟨⟨_, _, rfl⟩, rfl⟩, fun x hx => by cases hx⟩
    · obtain ⟨x0, h00, _⟩ := key 0 (by omega)
      obtain ⟨b, o, sp⟩ := a
      have hsp : sp = none := by
        cases sp with
        | none => rfl
        | some z =>
          exfalso
          simp only [World.cell?, Addr.add] at h00
          split at h00 <;> simp at h00
      subst hsp
      have hlt := World.block_lt_of_cell? W _ h00
      obtain ⟨xs, hxl, hxs⟩ := list_of len (fun i (x : Ins) => W.cell? ((⟨b, o, none⟩ : Addr).add (i * 6)) = some (.int .u8 x.op) ∧ W.cell? ((⟨b, o, none⟩ : Addr).add (i * 6 + 1)) = some (.int .i64 x.a) ∧ W.cell? ((⟨b, o, none⟩ : Addr).add (i * 6 + 2)) = some (.int .i64 x.b) ∧
        W.cell? ((⟨b, o, none⟩ : Addr).add (i * 6 + 3)) = some (.int .i64 x.c) ∧ W.cell? ((⟨b, o, none⟩ : Addr).add (i * 6 + 4)) = some (.int .i64 x.n) ∧ W.cell? ((⟨b, o, none⟩ : Addr).add (i * 6 + 5)) = some (.string x.s) ∧ (-9223372036854775808 ≤ x.n ∧ x.n ≤ 9223372036854775807)) (fun i hi => key i (by omega))
      refine ⟨xs, .inr ⟨b, o, m, by rw [hxl], by omega, hm, hlt, fun k x hx => ?_⟩, fun x hx => by
        obtain ⟨j, hj⟩ := List.mem_iff_getElem?.1 hx
        exact (hxs j x hj).2.2.2.2.2.2⟩
      obtain ⟨a0, a1, a2, a3, a4, a5, _⟩ := hxs k x hx
      rw [paddr_add] at a0 a1 a2 a3 a4 a5
      exact ⟨a0, by rw [← Nat.add_assoc] at a1; exact a1, by rw [← Nat.add_assoc] at a2; exact a2, by rw [← Nat.add_assoc] at a3; exact a3, by rw [← Nat.add_assoc] at a4; exact a4, by rw [← Nat.add_assoc] at a5; exact a5⟩

set_option maxRecDepth 100000 in
theorem slice_ok {base len cap : Nat} {a : Addr} (h : Value.okWide Tryd.prog W .any base 35 (.slice (some a) len cap)) : a.spot = none ∧ a.block < W.heap.size := by
  unfold Value.okWide at h
  rw [Tryd.underlying35] at h
  simp only [Cell.okWide, Cell.ok, Tryd.underlying35] at h
  obtain ⟨_, _, h3⟩ := h
  obtain ⟨_, hs, row, cells, hsh, _⟩ := h3
  refine ⟨hs, ?_⟩
  by_cases hl : a.block < W.heap.size
  · exact hl
  · exfalso
    unfold World.shape? at hsh
    rw [Array.getElem?_eq_none (by omega)] at hsh
    simp at hsh
set_option maxRecDepth 100000 in
/-- bytes that come in -/
theorem open_bytes {base : Nat} {v : Value} {d : DataW H} {ps : List MemPlace} (hv : Value.okWide Tryd.prog W .any base 35 v) (hd : DataW.Trod enc Tryd.prog W 0 (fun _ => true) true 35 v d ps) : ∃ ys, RdB W v ys := by
  obtain ⟨a, len, cap, rfl⟩ := okWide_slice Tryd.underlying35 hv
  obtain ⟨n, h⟩ := hd
  replace h : DataW.trod enc Tryd.prog W 0 (fun _ => true) true n 35 [.slice a len cap] = some (d, ps) := h
  rcases open_ints Tryd.underlying35 Tryd.underlying5 pcells5 h with ⟨h0, _⟩ | ⟨a, len, cap, zs, hcs, hb, hl, hm, hz, _, hc, hw⟩
  · injection h0 with h0
    exact ⟨[], .inl ⟨h0, rfl⟩⟩
  · injection hcs with hcs
    injection hcs with q1 q2 q3
    subst q1; subst q2; subst q3
    simp only [if_true] at hz
    obtain ⟨hsp, hlt⟩ := slice_ok hv
    obtain ⟨b, o, sp⟩ := a
    simp only at hsp hlt
    subst hsp
    have hlen : ((zs.take len).map fun z => UInt8.ofNat z.toNat).length = len := by rw [List.length_map, List.length_take]; omega
    refine ⟨(zs.take len).map fun z => UInt8.ofNat z.toNat, .inr ⟨b, o, cap, by rw [hlen], by rw [hlen]; exact hl, hm, hlt, fun j x hx => ?_⟩⟩
    rw [List.getElem?_map] at hx
    cases hz9 : (zs.take len)[j]? with
    | none => rw [hz9] at hx; simp at hx
    | some z =>
      rw [hz9] at hx
      simp only [Option.map_some, Option.some.injEq] at hx
      subst hx
      have hj : j < len := by
        have := (List.getElem?_eq_some_iff.1 hz9).1
        rw [List.length_take] at this; omega
      rw [List.getElem?_take, if_pos hj] at hz9
      have h1 := hc j (by omega)
      rw [paddr_add] at h1
      rw [h1]
      have h2 := hw z (List.mem_of_getElem? hz9)
      have h3 : 0 ≤ z ∧ z < 256 := by
        simp [Lit.wf, IntKind.min, IntKind.max, IntKind.signed, IntKind.bits] at h2
        omega
      have h4 : zs.getD j 0 = z := by simp [List.getD, hz9]
      rw [h4]
      have : ((UInt8.ofNat z.toNat).toNat : Int) = z := by simp; omega
      rw [this]
end
end Go.Proofs.YtckooioikcenmaaDoor

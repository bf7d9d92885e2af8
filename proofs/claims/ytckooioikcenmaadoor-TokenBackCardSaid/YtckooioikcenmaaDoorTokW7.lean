/- The chapter's examples of tokens come out as written: closed facts, and the walk of awake. Conditions: the library's variables read as they are laid. -/
import Derived.Test.YtckooioikcenmaaDoorTokW6
import Derived.KernelRfl
namespace Go.Proofs.YtckooioikcenmaaDoor
open Go.RowKit
attribute [local go_sem] frozen?_alloc_cells World.cell?_alloc_some
theorem read_yes {s f : ByteArray} {n t : Int} (h : readT s = some (f, n, t)) (w : World) (hs : s.size ≤ 3000) (hg : GOK w) :
    Calls Tryd.prog 23 #[.string s] w fun e w' => e = .returned (.tuple #[.agg #[.string f, .int .i64 n, .int .i64 t], .int .i64 0]) ∧ Below w.heap.size w w' := by
  have := read_any s w hs hg; rw [h] at this; exact this
theorem read_no {s : ByteArray} (h : readT s = none) (w : World) (hs : s.size ≤ 3000) (hg : GOK w) :
    Calls Tryd.prog 23 #[.string s] w fun e w' => e = .returned (.tuple #[.agg #[.string ⟨#[]⟩, .int .i64 0, .int .i64 0], .int .i64 109]) ∧ Below w.heap.size w w' := by
  have := read_any s w hs hg; rw [h] at this; exact this
theorem dgs_lit (k : Nat) (h : k < 1000) : dgs (k : Int) = bs (dg3 k) := by
  unfold dgs bs; rw [Int.toNat_natCast, dec_dg3 k h]
theorem mk_lit1 : mkT ⟨#[102]⟩ 3 1 = ⟨#[51, 46, 49, 46, 102]⟩ := by
  unfold mkT; rw [show (3 : Int) = ((3 : Nat) : Int) from rfl, show (1 : Int) = ((1 : Nat) : Int) from rfl, dgs_lit 3 (by decide), dgs_lit 1 (by decide)]; rfl
theorem mk_lit2 : mkT ⟨#[97, 46, 98]⟩ 12 2 = ⟨#[49, 50, 46, 50, 46, 97, 46, 98]⟩ := by
  unfold mkT; rw [show (12 : Int) = ((12 : Nat) : Int) from rfl, show (2 : Int) = ((2 : Nat) : Int) from rfl, dgs_lit 12 (by decide), dgs_lit 2 (by decide)]; rfl
theorem numOf_calc {d : List UInt8} {k : Nat} (h : Lib.atoiAll d = .ok (k : Int)) (hk : k < 1000) : numOf d = if dg3 k = d then (k : Int) else 0 := by
  unfold numOf Lib.itoa
  rw [h]
  show (if (if (k : Int) < 0 then 45 :: Lib.decDigits (k : Int).natAbs else Lib.decDigits (k : Int).toNat) = d then (k : Int) else 0) = _
  rw [if_neg (by omega : ¬ (k : Int) < 0), Int.toNat_natCast, dec_dg3 k hk]
theorem readT_calc {s : ByteArray} {a r b f : List UInt8} {one two : Bool} (h1 : cutD s.data.toList = (a, r, one)) (h2 : cutD r = (b, f, two)) (h3 : rightB (bs f) (numOf a) (numOf b) = false ∨ two = false) : readT s = none := by
  unfold readT
  simp only [h1, h2]
  rw [if_neg]
  rintro ⟨_, x, y⟩
  rcases h3 with h | h
  · rw [h] at y; cases y
  · rw [h] at x; cases x
theorem no_lit1 : readT ⟨#[48, 51, 46, 49, 46, 102]⟩ = none :=
  readT_calc (a := [48, 51]) (r := [49, 46, 102]) (b := [49]) (f := [102]) (one := true) (two := true) (by decide) (by decide)
    (.inl (by rw [numOf_calc (k := 3) (by decide) (by decide)]; simp [dg3, rightB]))
theorem no_lit2 : readT ⟨#[51, 46, 49, 46]⟩ = none :=
  readT_calc (a := [51]) (r := [49, 46]) (b := [49]) (f := []) (one := true) (two := true) (by decide) (by decide) (.inl (by simp [rightB, bs, ByteArray.size]))
theorem no_lit3 : readT ⟨#[51, 46, 102]⟩ = none :=
  readT_calc (a := [51]) (r := [102]) (b := [102]) (f := []) (one := true) (two := false) (by decide) (by decide) (.inr rfl)
theorem no_lit4 : readT ⟨#[50, 48, 49, 46, 49, 46, 102]⟩ = none :=
  readT_calc (a := [50, 48, 49]) (r := [49, 46, 102]) (b := [49]) (f := [102]) (one := true) (two := true) (by decide) (by decide)
    (.inl (by rw [numOf_calc (k := 201) (by decide) (by decide)]; simp [dg3, rightB]))
theorem no_lit0 : readT ⟨#[]⟩ = none :=
  readT_calc (a := []) (r := []) (b := []) (f := []) (one := false) (two := false) (by decide) (by decide) (.inr rfl)
theorem right_lit1 : rightB ⟨#[102]⟩ 3 1 = true := by decide
theorem right_lit2 : rightB ⟨#[97, 46, 98]⟩ 12 2 = true := by decide
set_option maxRecDepth 20000 in
set_option maxHeartbeats 4000000 in
theorem awake_any (w : World) (hg : GOK w) :
    Calls Tryd.prog 20 #[] w fun e w' => e = .returned (.bool true) ∧ Below w.heap.size w w' := by
  have y1 := Lib.hid (fun w hg => mk_lit1 ▸ make_yes ⟨#[102]⟩ 3 1 w right_lit1 hg)
  have y2 := Lib.hid (read_yes (mk_lit2 ▸ readT_mk right_lit2))
  have i0 : ∀ w, (Instr.index 76 (.agg #[.string ⟨#[48, 51, 46, 49, 46, 102]⟩, .string ⟨#[51, 46, 49, 46]⟩, .string ⟨#[51, 46, 102]⟩, .string ⟨#[50, 48, 49, 46, 49, 46, 102]⟩]) (.int .i64 0)).run Tryd.prog w = .ok (.string ⟨#[48, 51, 46, 49, 46, 102]⟩) w := fun _ => by kernel_rfl
  have i1 : ∀ w, (Instr.index 76 (.agg #[.string ⟨#[48, 51, 46, 49, 46, 102]⟩, .string ⟨#[51, 46, 49, 46]⟩, .string ⟨#[51, 46, 102]⟩, .string ⟨#[50, 48, 49, 46, 49, 46, 102]⟩]) (.int .i64 1)).run Tryd.prog w = .ok (.string ⟨#[51, 46, 49, 46]⟩) w := fun _ => by kernel_rfl
  have i2 : ∀ w, (Instr.index 76 (.agg #[.string ⟨#[48, 51, 46, 49, 46, 102]⟩, .string ⟨#[51, 46, 49, 46]⟩, .string ⟨#[51, 46, 102]⟩, .string ⟨#[50, 48, 49, 46, 49, 46, 102]⟩]) (.int .i64 2)).run Tryd.prog w = .ok (.string ⟨#[51, 46, 102]⟩) w := fun _ => by kernel_rfl
  have i3 : ∀ w, (Instr.index 76 (.agg #[.string ⟨#[48, 51, 46, 49, 46, 102]⟩, .string ⟨#[51, 46, 49, 46]⟩, .string ⟨#[51, 46, 102]⟩, .string ⟨#[50, 48, 49, 46, 49, 46, 102]⟩]) (.int .i64 3)).run Tryd.prog w = .ok (.string ⟨#[50, 48, 49, 46, 49, 46, 102]⟩) w := fun _ => by kernel_rfl
  go_enter Tryd.func20, Tryd.ntmps20
  go_wp2_with fail
  refine (y1.out _ hg).mono ?_
  rintro e w1 ⟨rfl, hb1⟩
  have hg1 := hg.below hb1
  have hs1 := hb1.size
  go_wp2_with fail
  refine (y2.out _ (by decide) hg1).mono ?_
  rintro e w2 ⟨rfl, hb2⟩
  have hg2 := hg1.below hb2
  have hs2 := hb2.size
  have HB := below_on hb1 hs1 hb2
  clear hb1 hb2 hg1
  go_wp2_with fail
  go_loopw [34] (fun i wr => ∃ k : Nat, k ≤ 4 ∧ i = .int .i64 k ∧ Below w.heap.size w wr ∧ GOK wr) (fun i _ => 4 - (intOf i).toNat)
  case atStart => exact ⟨0, by omega, rfl, HB.alloc (by omega) _, hg2.below ((Below.refl _ _).alloc (Nat.le_refl _) _)⟩
  case round =>
    obtain ⟨k, hk, rfl, hB1, hg1⟩ := hrel
    have hz1 := hB1.size
    clear HB hg2
    have hk5 : k = 0 ∨ k = 1 ∨ k = 2 ∨ k = 3 ∨ k = 4 := by omega
    rcases hk5 with rfl | rfl | rfl | rfl | rfl
    · go_wp2_with fail
      refine (read_no no_lit1 _ (by decide) hg1).mono ?_
      rintro e w3 ⟨rfl, hb3⟩
      go_wp2
      go_roundw
      case rel => exact ⟨1, by omega, rfl, (below_on hB1 (by omega) hb3).alloc (by have := hb3.size; omega) _, (hg1.below hb3).below ((Below.refl _ _).alloc (Nat.le_refl _) _)⟩
      case measure => simp [intOf]
    · go_wp2_with fail
      refine (read_no no_lit2 _ (by decide) hg1).mono ?_
      rintro e w3 ⟨rfl, hb3⟩
      go_wp2
      go_roundw
      case rel => exact ⟨2, by omega, rfl, (below_on hB1 (by omega) hb3).alloc (by have := hb3.size; omega) _, (hg1.below hb3).below ((Below.refl _ _).alloc (Nat.le_refl _) _)⟩
      case measure => simp [intOf]
    · go_wp2_with fail
      refine (read_no no_lit3 _ (by decide) hg1).mono ?_
      rintro e w3 ⟨rfl, hb3⟩
      go_wp2
      go_roundw
      case rel => exact ⟨3, by omega, rfl, (below_on hB1 (by omega) hb3).alloc (by have := hb3.size; omega) _, (hg1.below hb3).below ((Below.refl _ _).alloc (Nat.le_refl _) _)⟩
      case measure => simp [intOf]
    · go_wp2_with fail
      refine (read_no no_lit4 _ (by decide) hg1).mono ?_
      rintro e w3 ⟨rfl, hb3⟩
      go_wp2
      go_roundw
      case rel => exact ⟨4, by omega, rfl, (below_on hB1 (by omega) hb3).alloc (by have := hb3.size; omega) _, (hg1.below hb3).below ((Below.refl _ _).alloc (Nat.le_refl _) _)⟩
      case measure => simp [intOf]
    · go_wp2_with fail
      go_ret
      exact ⟨rfl, hB1⟩
end Go.Proofs.YtckooioikcenmaaDoor

/- The walk of token.Read. Conditions: texts of at most 3000 bytes; the library's variables read as they are laid. -/
import Derived.Test.YtckooioikcenmaaDoorTokW3
namespace Go.Proofs.YtckooioikcenmaaDoor
open Go.RowKit
attribute [local go_sem] frozen?_alloc_cells World.cell?_alloc_some
/-- what Read answers, as a value -/
def tokV : Option (ByteArray × Int × Int) → Value
  | some (f, n, t) => .tuple #[.agg #[.string f, .int .i64 n, .int .i64 t], .int .i64 0]
  | none => .tuple #[.agg #[.string ⟨#[]⟩, .int .i64 0, .int .i64 0], .int .i64 109]
theorem cutD_size (l : List UInt8) : (cutD l).1.length ≤ l.length ∧ (cutD l).2.1.length ≤ l.length := by
  unfold cutD Lib.cut
  split
  · simp; omega
  · simp
theorem cut_any (s : ByteArray) (w : World) (hs : s.size ≤ 3000) (hg : GOK w) :
    Calls Tryd.prog 41 #[.string s, .string ⟨#[46]⟩] w fun e w' =>
      e = .returned (.tuple #[.string (bs (cutD s.data.toList).1), .string (bs (cutD s.data.toList).2.1), .bool (cutD s.data.toList).2.2]) ∧ Below w.heap.size w w' := by
  obtain ⟨m, hm⟩ := hg.mx
  refine (Tryd.strings_Cut s ⟨#[46]⟩ m w (by omega) hm).mono ?_
  rintro e w' ⟨rfl, n, rfl⟩
  exact ⟨rfl, below_drewN (Below.refl _ _) n⟩
theorem bs_size (l : List UInt8) : (bs l).size = l.length := by simp [bs, ByteArray.size]
theorem bs_list (l : List UInt8) : (bs l).data.toList = l := by simp [bs]
set_option maxHeartbeats 4000000 in
theorem read_any (s : ByteArray) (w : World) (hs : s.size ≤ 3000) (hg : GOK w) :
    Calls Tryd.prog 23 #[.string s] w fun e w' => e = .returned (tokV (readT s)) ∧ Below w.heap.size w w' := by
  obtain ⟨a, rest, one, h1⟩ : ∃ a rest one, cutD s.data.toList = (a, rest, one) := ⟨_, _, _, rfl⟩
  obtain ⟨b, flow, two, h2⟩ : ∃ b flow two, cutD rest = (b, flow, two) := ⟨_, _, _, rfl⟩
  have z1 := cutD_size s.data.toList
  have z2 := cutD_size rest
  have hl : s.data.toList.length = s.size := by show _ = s.data.size; rw [Array.length_toList]
  rw [h1] at z1; rw [h2] at z2
  simp only at z1 z2
  have b1 : (bs a).size ≤ 3000 := by rw [bs_size]; omega
  have b2 : (bs b).size ≤ 3000 := by rw [bs_size]; omega
  have b3 : (bs rest).size ≤ 3000 := by rw [bs_size]; omega
  have c1 := cut_any s (w.alloc (.cells #[.string ⟨#[]⟩, .int .i64 0, .int .i64 0] 49)) hs (hg.below ((Below.refl _ _).alloc (Nat.le_refl _) _))
  rw [h1] at c1
  have c2 := fun w hg => cut_any (bs rest) w b3 hg
  rw [bs_list, h2] at c2
  have c3 := fun w hg => num_any (bs a) w b1 hg
  have c4 := fun w hg => num_any (bs b) w b2 hg
  rw [bs_list] at c3 c4
  have hd : readT s = if one = true ∧ two = true ∧ rightB (bs flow) (numOf a) (numOf b) = true then some (bs flow, numOf a, numOf b) else none := by
    unfold readT; simp only [h1, h2]
  clear h1 h2 z1 z2 hl
  generalize numOf a = n at *
  generalize numOf b = t at *
  generalize bs flow = f at *
  have C1 := Lib.hid c1; clear c1
  have C2 := Lib.hid c2; clear c2
  have C3 := Lib.hid c3; clear c3
  have C4 := Lib.hid c4; clear c4
  have hr0 : ∃ r, rightB f n t = r := ⟨_, rfl⟩
  obtain ⟨r, hr⟩ := hr0
  have CR := Lib.hid (fun w => right_any f n t w)
  rw [hr] at hd CR
  clear hr
  cases one
  · have HD := Lib.hid (hd.trans (if_neg (by simp)))
    clear hd
    go_enter Tryd.func23, Tryd.ntmps23
    go_wp2_with fail
    refine C1.out.mono ?_
    rintro e w1 ⟨rfl, hb1⟩
    have HB1 : Below w.heap.size w w1 := below_alloc (Below.refl _ _) (Nat.le_refl _) hb1
    have HG1 := hg.below HB1
    have HS1 := size_alloc hb1
    have k1 := blk_below hb1 (alloc_at w _)
    clear hb1
    go_wp2_with fail
    refine (C2.out _ HG1).mono ?_
    rintro e w2 ⟨rfl, hb2⟩
    have HG2 := HG1.below hb2
    have HS2 := hb2.size
    go_wp2_with fail
    refine (C3.out _ HG2).mono ?_
    rintro e w3 ⟨rfl, hb3⟩
    have HG3 := HG2.below hb3
    have HS3 := hb3.size
    go_wp2_with fail
    refine (C4.out _ HG3).mono ?_
    rintro e w4 ⟨rfl, hb4⟩
    have HS4 := hb4.size
    have k4 := blk_below hb4 (blk_below hb3 (blk_below hb2 k1))
    have HB4 : Below w.heap.size w w4 := below_on (below_on (below_on HB1 (by omega) hb2) (by omega) hb3) (by omega) hb4
    have q0 : w4.cell? ⟨w.heap.size, 0, none⟩ = some (.string ⟨#[]⟩) := blk_cell k4 0
    have q1 : w4.cell? ⟨w.heap.size, 1, none⟩ = some (.int .i64 0) := blk_cell k4 1
    have q2 : w4.cell? ⟨w.heap.size, 2, none⟩ = some (.int .i64 0) := blk_cell k4 2
    have f0 := blk_free k4 0
    have f1 := blk_free k4 1
    have f2 := blk_free k4 2
    have k4b := Lib.hid k4
    clear hb2 hb3 hb4 k1 k4 HG1 HG2 HG3 C1 C2 C3 C4
    go_wp2_with fail
    exact bodyPost_ret (v := .tuple #[.agg #[.string ⟨#[]⟩, .int .i64 0, .int .i64 0], .int .i64 109]) (by simp [results, Tryd.results23, go_sem, q0, q1, q2]) rfl ⟨by rw [HD.out]; rfl, (((HB4.alloc (by omega) _).setCell (Nat.le_refl _) _).setCell (Nat.le_refl _) _).setCell (Nat.le_refl _) _⟩
  · cases two
    · have HD := Lib.hid (hd.trans (if_neg (by simp)))
      clear hd
      go_enter Tryd.func23, Tryd.ntmps23
      go_wp2_with fail
      refine C1.out.mono ?_
      rintro e w1 ⟨rfl, hb1⟩
      have HB1 : Below w.heap.size w w1 := below_alloc (Below.refl _ _) (Nat.le_refl _) hb1
      have HG1 := hg.below HB1
      have HS1 := size_alloc hb1
      have k1 := blk_below hb1 (alloc_at w _)
      clear hb1
      go_wp2_with fail
      refine (C2.out _ HG1).mono ?_
      rintro e w2 ⟨rfl, hb2⟩
      have HG2 := HG1.below hb2
      have HS2 := hb2.size
      go_wp2_with fail
      refine (C3.out _ HG2).mono ?_
      rintro e w3 ⟨rfl, hb3⟩
      have HG3 := HG2.below hb3
      have HS3 := hb3.size
      go_wp2_with fail
      refine (C4.out _ HG3).mono ?_
      rintro e w4 ⟨rfl, hb4⟩
      have HS4 := hb4.size
      have k4 := blk_below hb4 (blk_below hb3 (blk_below hb2 k1))
      have HB4 : Below w.heap.size w w4 := below_on (below_on (below_on HB1 (by omega) hb2) (by omega) hb3) (by omega) hb4
      have q0 : w4.cell? ⟨w.heap.size, 0, none⟩ = some (.string ⟨#[]⟩) := blk_cell k4 0
      have q1 : w4.cell? ⟨w.heap.size, 1, none⟩ = some (.int .i64 0) := blk_cell k4 1
      have q2 : w4.cell? ⟨w.heap.size, 2, none⟩ = some (.int .i64 0) := blk_cell k4 2
      have f0 := blk_free k4 0
      have f1 := blk_free k4 1
      have f2 := blk_free k4 2
      have k4b := Lib.hid k4
      clear hb2 hb3 hb4 k1 k4 HG1 HG2 HG3 C1 C2 C3 C4
      go_wp2_with fail
      exact bodyPost_ret (v := .tuple #[.agg #[.string ⟨#[]⟩, .int .i64 0, .int .i64 0], .int .i64 109]) (by simp [results, Tryd.results23, go_sem, q0, q1, q2]) rfl ⟨by rw [HD.out]; rfl, (((HB4.alloc (by omega) _).setCell (Nat.le_refl _) _).setCell (Nat.le_refl _) _).setCell (Nat.le_refl _) _⟩
    · cases r
      · have HD := Lib.hid (hd.trans (if_neg (by simp)))
        clear hd
        go_enter Tryd.func23, Tryd.ntmps23
        go_wp2_with fail
        refine C1.out.mono ?_
        rintro e w1 ⟨rfl, hb1⟩
        have HB1 : Below w.heap.size w w1 := below_alloc (Below.refl _ _) (Nat.le_refl _) hb1
        have HG1 := hg.below HB1
        have HS1 := size_alloc hb1
        have k1 := blk_below hb1 (alloc_at w _)
        clear hb1
        go_wp2_with fail
        refine (C2.out _ HG1).mono ?_
        rintro e w2 ⟨rfl, hb2⟩
        have HG2 := HG1.below hb2
        have HS2 := hb2.size
        go_wp2_with fail
        refine (C3.out _ HG2).mono ?_
        rintro e w3 ⟨rfl, hb3⟩
        have HG3 := HG2.below hb3
        have HS3 := hb3.size
        go_wp2_with fail
        refine (C4.out _ HG3).mono ?_
        rintro e w4 ⟨rfl, hb4⟩
        have HS4 := hb4.size
        have k4 := blk_below hb4 (blk_below hb3 (blk_below hb2 k1))
        have HB4 : Below w.heap.size w w4 := below_on (below_on (below_on HB1 (by omega) hb2) (by omega) hb3) (by omega) hb4
        have q0 : w4.cell? ⟨w.heap.size, 0, none⟩ = some (.string ⟨#[]⟩) := blk_cell k4 0
        have q1 : w4.cell? ⟨w.heap.size, 1, none⟩ = some (.int .i64 0) := blk_cell k4 1
        have q2 : w4.cell? ⟨w.heap.size, 2, none⟩ = some (.int .i64 0) := blk_cell k4 2
        have f0 := blk_free k4 0
        have f1 := blk_free k4 1
        have f2 := blk_free k4 2
        have k4b := Lib.hid k4
        clear hb2 hb3 hb4 k1 k4 HG1 HG2 HG3 C1 C2 C3 C4
        go_wp2_with fail
        refine (CR.out _).mono ?_
        rintro e w5 ⟨rfl, hb5⟩
        have HS5 := size_alloc hb5
        have HB5 := below_alloc HB4 (by omega) hb5
        have k5 := blk_below hb5 (blk_alloc k4b.out (.cells #[.string f, .int .i64 n, .int .i64 t] 49))
        have j5 := blk_below hb5 (alloc_at w4 _)
        have r0 : w5.cell? ⟨w.heap.size, 0, none⟩ = some (.string ⟨#[]⟩) := blk_cell k5 0
        have r1 : w5.cell? ⟨w.heap.size, 1, none⟩ = some (.int .i64 0) := blk_cell k5 1
        have r2 : w5.cell? ⟨w.heap.size, 2, none⟩ = some (.int .i64 0) := blk_cell k5 2
        have g0 := blk_free k5 0
        have g1 := blk_free k5 1
        have g2 := blk_free k5 2
        have t0 : w5.cell? ⟨w4.heap.size, 0, none⟩ = some (.string f) := blk_cell j5 0
        have t1 : w5.cell? ⟨w4.heap.size, 1, none⟩ = some (.int .i64 n) := blk_cell j5 1
        have t2 : w5.cell? ⟨w4.heap.size, 2, none⟩ = some (.int .i64 t) := blk_cell j5 2
        clear k5 j5 hb5
        go_wp2_with fail
        exact bodyPost_ret (v := .tuple #[.agg #[.string ⟨#[]⟩, .int .i64 0, .int .i64 0], .int .i64 109]) (by simp [results, Tryd.results23, go_sem, r0, r1, r2]) rfl ⟨by rw [HD.out]; rfl, ((HB5.setCell (Nat.le_refl _) _).setCell (Nat.le_refl _) _).setCell (Nat.le_refl _) _⟩
      · have HD := Lib.hid (hd.trans (if_pos ⟨rfl, rfl, rfl⟩))
        clear hd
        go_enter Tryd.func23, Tryd.ntmps23
        go_wp2_with fail
        refine C1.out.mono ?_
        rintro e w1 ⟨rfl, hb1⟩
        have HB1 : Below w.heap.size w w1 := below_alloc (Below.refl _ _) (Nat.le_refl _) hb1
        have HG1 := hg.below HB1
        have HS1 := size_alloc hb1
        have k1 := blk_below hb1 (alloc_at w _)
        clear hb1
        go_wp2_with fail
        refine (C2.out _ HG1).mono ?_
        rintro e w2 ⟨rfl, hb2⟩
        have HG2 := HG1.below hb2
        have HS2 := hb2.size
        go_wp2_with fail
        refine (C3.out _ HG2).mono ?_
        rintro e w3 ⟨rfl, hb3⟩
        have HG3 := HG2.below hb3
        have HS3 := hb3.size
        go_wp2_with fail
        refine (C4.out _ HG3).mono ?_
        rintro e w4 ⟨rfl, hb4⟩
        have HS4 := hb4.size
        have k4 := blk_below hb4 (blk_below hb3 (blk_below hb2 k1))
        have HB4 : Below w.heap.size w w4 := below_on (below_on (below_on HB1 (by omega) hb2) (by omega) hb3) (by omega) hb4
        have q0 : w4.cell? ⟨w.heap.size, 0, none⟩ = some (.string ⟨#[]⟩) := blk_cell k4 0
        have q1 : w4.cell? ⟨w.heap.size, 1, none⟩ = some (.int .i64 0) := blk_cell k4 1
        have q2 : w4.cell? ⟨w.heap.size, 2, none⟩ = some (.int .i64 0) := blk_cell k4 2
        have f0 := blk_free k4 0
        have f1 := blk_free k4 1
        have f2 := blk_free k4 2
        have k4b := Lib.hid k4
        clear hb2 hb3 hb4 k1 k4 HG1 HG2 HG3 C1 C2 C3 C4
        go_wp2_with fail
        refine (CR.out _).mono ?_
        rintro e w5 ⟨rfl, hb5⟩
        have HS5 := size_alloc hb5
        have HB5 := below_alloc HB4 (by omega) hb5
        have k5 := blk_below hb5 (blk_alloc k4b.out (.cells #[.string f, .int .i64 n, .int .i64 t] 49))
        have j5 := blk_below hb5 (alloc_at w4 _)
        have r0 : w5.cell? ⟨w.heap.size, 0, none⟩ = some (.string ⟨#[]⟩) := blk_cell k5 0
        have r1 : w5.cell? ⟨w.heap.size, 1, none⟩ = some (.int .i64 0) := blk_cell k5 1
        have r2 : w5.cell? ⟨w.heap.size, 2, none⟩ = some (.int .i64 0) := blk_cell k5 2
        have g0 := blk_free k5 0
        have g1 := blk_free k5 1
        have g2 := blk_free k5 2
        have t0 : w5.cell? ⟨w4.heap.size, 0, none⟩ = some (.string f) := blk_cell j5 0
        have t1 : w5.cell? ⟨w4.heap.size, 1, none⟩ = some (.int .i64 n) := blk_cell j5 1
        have t2 : w5.cell? ⟨w4.heap.size, 2, none⟩ = some (.int .i64 t) := blk_cell j5 2
        clear k5 j5 hb5
        go_wp2_with fail
        exact bodyPost_ret (v := .tuple #[.agg #[.string f, .int .i64 n, .int .i64 t], .int .i64 0]) (by simp [results, Tryd.results23, go_sem, r0, r1, r2]) rfl ⟨by rw [HD.out]; rfl, ((HB5.setCell (Nat.le_refl _) _).setCell (Nat.le_refl _) _).setCell (Nat.le_refl _) _⟩
end Go.Proofs.YtckooioikcenmaaDoor

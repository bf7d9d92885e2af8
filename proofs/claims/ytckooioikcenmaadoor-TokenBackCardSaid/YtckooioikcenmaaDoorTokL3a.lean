/- TokenBack: the law's walk, what is read of the text. Conditions: the library's variables read as they are laid. -/
import Derived.Test.YtckooioikcenmaaDoorTokW7
namespace Go.Proofs.YtckooioikcenmaaDoor
open Go.RowKit
attribute [local go_sem] frozen?_alloc_cells World.cell?_alloc_some
theorem mkT_inj {f f' : ByteArray} {n t n' t' : Int} (h : rightB f n t = true) (h' : rightB f' n' t' = true) (e : mkT f n t = mkT f' n' t') : f = f' ∧ n = n' ∧ t = t' := by
  have h1 := readT_mk h
  rw [e, readT_mk h'] at h1
  injection h1 with h1
  injection h1 with a h1
  injection h1 with b c
  exact ⟨a.symm, b.symm, c.symm⟩
theorem mkT_long (f : ByteArray) (n t : Int) : (mkT f n t).size = (dgs n).size + 1 + (dgs t).size + 1 + f.size := by
  rw [mkT_head2, app_size, head2_size]
theorem mkT_small {f : ByteArray} {n t : Int} (h : rightB f n t = true) : (mkT f n t).size ≤ 3000 := by
  have r := rightB_iff.1 h
  have s1 := dgs_size (n := n) (by omega)
  have s2 := dgs_size (n := t) (by omega)
  rw [mkT_long]; omega
theorem same_list {a b : ByteArray} (h : a ≠ b) : (a.toList == b.toList) = false := by
  have := toList_ne h
  simpa using this
set_option maxRecDepth 20000 in
set_option maxHeartbeats 4000000 in
theorem back_11same1 (f : ByteArray) (n t : Int) (s : ByteArray) (z1 : f.size ≤ 3000) (z3 : s.size ≤ 3000) (h1 : rightB f n t = true) (f3 : ByteArray) (n3 t3 : Int) (hr : readT s = some (f3, n3, t3)) (w : World) (hg : GOK w) :
    Calls Tryd.prog 8 #[.agg #[.string f, .int .i64 n, .int .i64 t], .agg #[.string f, .int .i64 n, .int .i64 t], .string s] w fun e w' => e = .returned (.bool true) ∧ Below w.heap.size w w' := by
  have hg0 := hg.below (((Below.refl w.heap.size w).alloc (Nat.le_refl _) (.cells #[.string f, .int .i64 n, .int .i64 t] 49)).alloc (by simp) (.cells #[.string f, .int .i64 n, .int .i64 t] 49))
  have M1 := Lib.hid (fun w hg => make_yes f n t w h1 hg)
  have M2 := Lib.hid (fun w hg => make_yes f n t w h1 hg)
  have R1 := Lib.hid (fun w hg => read_yes (readT_mk h1) w (mkT_small h1) hg)
  have R2 := Lib.hid (fun w hg => read_yes hr w z3 hg)
  have M3 := Lib.hid (fun w hg => make_yes f3 n3 t3 w (readT_some hr).1 hg)
  rw [← (readT_some hr).2] at M3
  clear hr h1
  generalize mkT f n t = m1 at *
  go_enter Tryd.func8, Tryd.ntmps8
  go_wp2_with fail
  refine (M1.out _ hg0).mono ?_
  rintro e w1 ⟨rfl, hb⟩
  have hB1 : Below w.heap.size w w1 := (((Below.refl w.heap.size w).alloc (Nat.le_refl _) _).alloc (by simp) _).trans (hb.mono (by simp; omega))
  have hg1 := hg0.below hb
  have kp := blk_below hb (blk_alloc (alloc_at w (.cells #[.string f, .int .i64 n, .int .i64 t] 49)) _)
  have kq' := blk_below hb (alloc_at _ _)
  have kq : w1.heap[w.heap.size + 1]? = some (.cells #[.string f, .int .i64 n, .int .i64 t] 49) := by rw [← kq']; simp
  have hs1 : w.heap.size + 1 < w1.heap.size := blk_lt kq
  clear hb kq'
  have p0 : w1.cell? ⟨w.heap.size, 0, none⟩ = some (.string f) := blk_cell kp 0
  have p1 : w1.cell? ⟨w.heap.size, 1, none⟩ = some (.int .i64 n) := blk_cell kp 1
  have p2 : w1.cell? ⟨w.heap.size, 2, none⟩ = some (.int .i64 t) := blk_cell kp 2
  have q0 : w1.cell? ⟨(w.heap.size + 1), 0, none⟩ = some (.string f) := blk_cell kq 0
  have q1 : w1.cell? ⟨(w.heap.size + 1), 1, none⟩ = some (.int .i64 n) := blk_cell kq 1
  have q2 : w1.cell? ⟨(w.heap.size + 1), 2, none⟩ = some (.int .i64 t) := blk_cell kq 2
  have KP := Lib.hid kp; have KQ := Lib.hid kq; clear kp kq
  go_wp2_with fail
  refine (M2.out _ hg1).mono ?_
  rintro e w2 ⟨rfl, hb⟩
  have hB2 := below_on hB1 hB1.size hb
  have hs2 := Nat.lt_of_lt_of_le hs1 hb.size
  have hg2 := hg1.below hb
  have kp := blk_below hb KP.out; have kq := blk_below hb KQ.out
  clear hb p0 p1 p2 q0 q1 q2 KP KQ
  have p0 : w2.cell? ⟨w.heap.size, 0, none⟩ = some (.string f) := blk_cell kp 0
  have p1 : w2.cell? ⟨w.heap.size, 1, none⟩ = some (.int .i64 n) := blk_cell kp 1
  have p2 : w2.cell? ⟨w.heap.size, 2, none⟩ = some (.int .i64 t) := blk_cell kp 2
  have q0 : w2.cell? ⟨(w.heap.size + 1), 0, none⟩ = some (.string f) := blk_cell kq 0
  have q1 : w2.cell? ⟨(w.heap.size + 1), 1, none⟩ = some (.int .i64 n) := blk_cell kq 1
  have q2 : w2.cell? ⟨(w.heap.size + 1), 2, none⟩ = some (.int .i64 t) := blk_cell kq 2
  clear kp kq
  go_wp2_with fail
  refine (R1.out _ hg2).mono ?_
  rintro e w3 ⟨rfl, hb⟩
  have hB3 := below_on hB2 hB2.size hb
  have hg3 := hg2.below hb
  have hs3 := Nat.lt_of_lt_of_le hs2 hb.size
  have p0' := cell_later hb p0; have p1' := cell_later hb p1; have p2' := cell_later hb p2; have q0' := cell_later hb q0; have q1' := cell_later hb q1; have q2' := cell_later hb q2
  clear hb p0 p1 p2 q0 q1 q2
  go_wp2_with fail
  have hg3' := hg3.below ((Below.refl w3.heap.size w3).alloc (Nat.le_refl _) (.cells #[.string f, .int .i64 n, .int .i64 t] 49))
  refine (R2.out _ hg3').mono ?_
  rintro e w4 ⟨rfl, hb⟩
  have hB4 := below_alloc hB3 hB3.size hb
  have hg4 := hg3'.below hb
  clear hb
  go_wp2_with fail
  have hg4' := hg4.below ((Below.refl w4.heap.size w4).alloc (Nat.le_refl _) (.cells #[.string f3, .int .i64 n3, .int .i64 t3] 49))
  refine (M3.out _ hg4').mono ?_
  rintro e w5 ⟨rfl, hb⟩
  have hB5 := below_alloc hB4 hB4.size hb
  have hg5 := hg4'.below hb
  clear hb
  go_wp2_with fail
  refine (awake_any _ hg5).mono ?_
  rintro e w6 ⟨rfl, hb⟩
  go_wp2_with fail
  go_ret
  exact ⟨rfl, below_on hB5 hB5.size hb⟩
set_option maxRecDepth 20000 in
set_option maxHeartbeats 4000000 in
theorem back_11f1 (f : ByteArray) (n t : Int) (f2 : ByteArray) (n2 t2 : Int) (s : ByteArray) (z1 : f.size ≤ 3000) (z2 : f2.size ≤ 3000) (z3 : s.size ≤ 3000) (h1 : rightB f n t = true) (hne : f ≠ f2) (h2 : rightB f2 n2 t2 = true) (f3 : ByteArray) (n3 t3 : Int) (hr : readT s = some (f3, n3, t3)) (w : World) (hg : GOK w) :
    Calls Tryd.prog 8 #[.agg #[.string f, .int .i64 n, .int .i64 t], .agg #[.string f2, .int .i64 n2, .int .i64 t2], .string s] w fun e w' => e = .returned (.bool true) ∧ Below w.heap.size w w' := by
  have hg0 := hg.below (((Below.refl w.heap.size w).alloc (Nat.le_refl _) (.cells #[.string f, .int .i64 n, .int .i64 t] 49)).alloc (by simp) (.cells #[.string f2, .int .i64 n2, .int .i64 t2] 49))
  have M1 := Lib.hid (fun w hg => make_yes f n t w h1 hg)
  have M2 := Lib.hid (fun w hg => make_yes f2 n2 t2 w h2 hg)
  have R1 := Lib.hid (fun w hg => read_yes (readT_mk h1) w (mkT_small h1) hg)
  have R2 := Lib.hid (fun w hg => read_yes hr w z3 hg)
  have M3 := Lib.hid (fun w hg => make_yes f3 n3 t3 w (readT_some hr).1 hg)
  rw [← (readT_some hr).2] at M3
  have hm := same_list (a := mkT f n t) (b := mkT f2 n2 t2) (fun e => hne (by have := mkT_inj h1 h2 e; simp_all))
  have hs := same_list hne
  clear hne
  clear hr h1 h2
  generalize mkT f n t = m1 at *
  generalize mkT f2 n2 t2 = m2 at *
  go_enter Tryd.func8, Tryd.ntmps8
  go_wp2_with fail
  refine (M1.out _ hg0).mono ?_
  rintro e w1 ⟨rfl, hb⟩
  have hB1 : Below w.heap.size w w1 := (((Below.refl w.heap.size w).alloc (Nat.le_refl _) _).alloc (by simp) _).trans (hb.mono (by simp; omega))
  have hg1 := hg0.below hb
  have kp := blk_below hb (blk_alloc (alloc_at w (.cells #[.string f, .int .i64 n, .int .i64 t] 49)) _)
  have kq' := blk_below hb (alloc_at _ _)
  have kq : w1.heap[w.heap.size + 1]? = some (.cells #[.string f2, .int .i64 n2, .int .i64 t2] 49) := by rw [← kq']; simp
  have hs1 : w.heap.size + 1 < w1.heap.size := blk_lt kq
  clear hb kq'
  have p0 : w1.cell? ⟨w.heap.size, 0, none⟩ = some (.string f) := blk_cell kp 0
  have p1 : w1.cell? ⟨w.heap.size, 1, none⟩ = some (.int .i64 n) := blk_cell kp 1
  have p2 : w1.cell? ⟨w.heap.size, 2, none⟩ = some (.int .i64 t) := blk_cell kp 2
  have q0 : w1.cell? ⟨(w.heap.size + 1), 0, none⟩ = some (.string f2) := blk_cell kq 0
  have q1 : w1.cell? ⟨(w.heap.size + 1), 1, none⟩ = some (.int .i64 n2) := blk_cell kq 1
  have q2 : w1.cell? ⟨(w.heap.size + 1), 2, none⟩ = some (.int .i64 t2) := blk_cell kq 2
  have KP := Lib.hid kp; have KQ := Lib.hid kq; clear kp kq
  go_wp2_with fail
  refine (M2.out _ hg1).mono ?_
  rintro e w2 ⟨rfl, hb⟩
  have hB2 := below_on hB1 hB1.size hb
  have hs2 := Nat.lt_of_lt_of_le hs1 hb.size
  have hg2 := hg1.below hb
  have kp := blk_below hb KP.out; have kq := blk_below hb KQ.out
  clear hb p0 p1 p2 q0 q1 q2 KP KQ
  have p0 : w2.cell? ⟨w.heap.size, 0, none⟩ = some (.string f) := blk_cell kp 0
  have p1 : w2.cell? ⟨w.heap.size, 1, none⟩ = some (.int .i64 n) := blk_cell kp 1
  have p2 : w2.cell? ⟨w.heap.size, 2, none⟩ = some (.int .i64 t) := blk_cell kp 2
  have q0 : w2.cell? ⟨(w.heap.size + 1), 0, none⟩ = some (.string f2) := blk_cell kq 0
  have q1 : w2.cell? ⟨(w.heap.size + 1), 1, none⟩ = some (.int .i64 n2) := blk_cell kq 1
  have q2 : w2.cell? ⟨(w.heap.size + 1), 2, none⟩ = some (.int .i64 t2) := blk_cell kq 2
  clear kp kq
  go_wp2_with fail
  refine (R1.out _ hg2).mono ?_
  rintro e w3 ⟨rfl, hb⟩
  have hB3 := below_on hB2 hB2.size hb
  have hg3 := hg2.below hb
  have hs3 := Nat.lt_of_lt_of_le hs2 hb.size
  have p0' := cell_later hb p0; have p1' := cell_later hb p1; have p2' := cell_later hb p2; have q0' := cell_later hb q0; have q1' := cell_later hb q1; have q2' := cell_later hb q2
  clear hb p0 p1 p2 q0 q1 q2
  go_wp2_with fail
  have hg3' := hg3.below ((Below.refl w3.heap.size w3).alloc (Nat.le_refl _) (.cells #[.string f, .int .i64 n, .int .i64 t] 49))
  refine (R2.out _ hg3').mono ?_
  rintro e w4 ⟨rfl, hb⟩
  have hB4 := below_alloc hB3 hB3.size hb
  have hg4 := hg3'.below hb
  clear hb
  go_wp2_with fail
  have hg4' := hg4.below ((Below.refl w4.heap.size w4).alloc (Nat.le_refl _) (.cells #[.string f3, .int .i64 n3, .int .i64 t3] 49))
  refine (M3.out _ hg4').mono ?_
  rintro e w5 ⟨rfl, hb⟩
  have hB5 := below_alloc hB4 hB4.size hb
  have hg5 := hg4'.below hb
  clear hb
  go_wp2_with fail
  refine (awake_any _ hg5).mono ?_
  rintro e w6 ⟨rfl, hb⟩
  go_wp2_with fail
  go_ret
  exact ⟨rfl, below_on hB5 hB5.size hb⟩
set_option maxRecDepth 20000 in
set_option maxHeartbeats 4000000 in
theorem back_11n1 (f : ByteArray) (n t : Int) (n2 t2 : Int) (s : ByteArray) (z1 : f.size ≤ 3000) (z3 : s.size ≤ 3000) (h1 : rightB f n t = true) (hne : n ≠ n2) (h2 : rightB f n2 t2 = true) (f3 : ByteArray) (n3 t3 : Int) (hr : readT s = some (f3, n3, t3)) (w : World) (hg : GOK w) :
    Calls Tryd.prog 8 #[.agg #[.string f, .int .i64 n, .int .i64 t], .agg #[.string f, .int .i64 n2, .int .i64 t2], .string s] w fun e w' => e = .returned (.bool true) ∧ Below w.heap.size w w' := by
  have hg0 := hg.below (((Below.refl w.heap.size w).alloc (Nat.le_refl _) (.cells #[.string f, .int .i64 n, .int .i64 t] 49)).alloc (by simp) (.cells #[.string f, .int .i64 n2, .int .i64 t2] 49))
  have M1 := Lib.hid (fun w hg => make_yes f n t w h1 hg)
  have M2 := Lib.hid (fun w hg => make_yes f n2 t2 w h2 hg)
  have R1 := Lib.hid (fun w hg => read_yes (readT_mk h1) w (mkT_small h1) hg)
  have R2 := Lib.hid (fun w hg => read_yes hr w z3 hg)
  have M3 := Lib.hid (fun w hg => make_yes f3 n3 t3 w (readT_some hr).1 hg)
  rw [← (readT_some hr).2] at M3
  have hm := same_list (a := mkT f n t) (b := mkT f n2 t2) (fun e => hne (by have := mkT_inj h1 h2 e; simp_all))
  have hs : (n == n2) = false := by simpa using hne
  clear hne
  clear hr h1 h2
  generalize mkT f n t = m1 at *
  generalize mkT f n2 t2 = m2 at *
  go_enter Tryd.func8, Tryd.ntmps8
  go_wp2_with fail
  refine (M1.out _ hg0).mono ?_
  rintro e w1 ⟨rfl, hb⟩
  have hB1 : Below w.heap.size w w1 := (((Below.refl w.heap.size w).alloc (Nat.le_refl _) _).alloc (by simp) _).trans (hb.mono (by simp; omega))
  have hg1 := hg0.below hb
  have kp := blk_below hb (blk_alloc (alloc_at w (.cells #[.string f, .int .i64 n, .int .i64 t] 49)) _)
  have kq' := blk_below hb (alloc_at _ _)
  have kq : w1.heap[w.heap.size + 1]? = some (.cells #[.string f, .int .i64 n2, .int .i64 t2] 49) := by rw [← kq']; simp
  have hs1 : w.heap.size + 1 < w1.heap.size := blk_lt kq
  clear hb kq'
  have p0 : w1.cell? ⟨w.heap.size, 0, none⟩ = some (.string f) := blk_cell kp 0
  have p1 : w1.cell? ⟨w.heap.size, 1, none⟩ = some (.int .i64 n) := blk_cell kp 1
  have p2 : w1.cell? ⟨w.heap.size, 2, none⟩ = some (.int .i64 t) := blk_cell kp 2
  have q0 : w1.cell? ⟨(w.heap.size + 1), 0, none⟩ = some (.string f) := blk_cell kq 0
  have q1 : w1.cell? ⟨(w.heap.size + 1), 1, none⟩ = some (.int .i64 n2) := blk_cell kq 1
  have q2 : w1.cell? ⟨(w.heap.size + 1), 2, none⟩ = some (.int .i64 t2) := blk_cell kq 2
  have KP := Lib.hid kp; have KQ := Lib.hid kq; clear kp kq
  go_wp2_with fail
  refine (M2.out _ hg1).mono ?_
  rintro e w2 ⟨rfl, hb⟩
  have hB2 := below_on hB1 hB1.size hb
  have hs2 := Nat.lt_of_lt_of_le hs1 hb.size
  have hg2 := hg1.below hb
  have kp := blk_below hb KP.out; have kq := blk_below hb KQ.out
  clear hb p0 p1 p2 q0 q1 q2 KP KQ
  have p0 : w2.cell? ⟨w.heap.size, 0, none⟩ = some (.string f) := blk_cell kp 0
  have p1 : w2.cell? ⟨w.heap.size, 1, none⟩ = some (.int .i64 n) := blk_cell kp 1
  have p2 : w2.cell? ⟨w.heap.size, 2, none⟩ = some (.int .i64 t) := blk_cell kp 2
  have q0 : w2.cell? ⟨(w.heap.size + 1), 0, none⟩ = some (.string f) := blk_cell kq 0
  have q1 : w2.cell? ⟨(w.heap.size + 1), 1, none⟩ = some (.int .i64 n2) := blk_cell kq 1
  have q2 : w2.cell? ⟨(w.heap.size + 1), 2, none⟩ = some (.int .i64 t2) := blk_cell kq 2
  clear kp kq
  go_wp2_with fail
  refine (R1.out _ hg2).mono ?_
  rintro e w3 ⟨rfl, hb⟩
  have hB3 := below_on hB2 hB2.size hb
  have hg3 := hg2.below hb
  have hs3 := Nat.lt_of_lt_of_le hs2 hb.size
  have p0' := cell_later hb p0; have p1' := cell_later hb p1; have p2' := cell_later hb p2; have q0' := cell_later hb q0; have q1' := cell_later hb q1; have q2' := cell_later hb q2
  clear hb p0 p1 p2 q0 q1 q2
  go_wp2_with fail
  have hg3' := hg3.below ((Below.refl w3.heap.size w3).alloc (Nat.le_refl _) (.cells #[.string f, .int .i64 n, .int .i64 t] 49))
  refine (R2.out _ hg3').mono ?_
  rintro e w4 ⟨rfl, hb⟩
  have hB4 := below_alloc hB3 hB3.size hb
  have hg4 := hg3'.below hb
  clear hb
  go_wp2_with fail
  have hg4' := hg4.below ((Below.refl w4.heap.size w4).alloc (Nat.le_refl _) (.cells #[.string f3, .int .i64 n3, .int .i64 t3] 49))
  refine (M3.out _ hg4').mono ?_
  rintro e w5 ⟨rfl, hb⟩
  have hB5 := below_alloc hB4 hB4.size hb
  have hg5 := hg4'.below hb
  clear hb
  go_wp2_with fail
  refine (awake_any _ hg5).mono ?_
  rintro e w6 ⟨rfl, hb⟩
  go_wp2_with fail
  go_ret
  exact ⟨rfl, below_on hB5 hB5.size hb⟩
set_option maxRecDepth 20000 in
set_option maxHeartbeats 4000000 in
theorem back_11t1 (f : ByteArray) (n t : Int) (t2 : Int) (s : ByteArray) (z1 : f.size ≤ 3000) (z3 : s.size ≤ 3000) (h1 : rightB f n t = true) (hne : t ≠ t2) (h2 : rightB f n t2 = true) (f3 : ByteArray) (n3 t3 : Int) (hr : readT s = some (f3, n3, t3)) (w : World) (hg : GOK w) :
    Calls Tryd.prog 8 #[.agg #[.string f, .int .i64 n, .int .i64 t], .agg #[.string f, .int .i64 n, .int .i64 t2], .string s] w fun e w' => e = .returned (.bool true) ∧ Below w.heap.size w w' := by
  have hg0 := hg.below (((Below.refl w.heap.size w).alloc (Nat.le_refl _) (.cells #[.string f, .int .i64 n, .int .i64 t] 49)).alloc (by simp) (.cells #[.string f, .int .i64 n, .int .i64 t2] 49))
  have M1 := Lib.hid (fun w hg => make_yes f n t w h1 hg)
  have M2 := Lib.hid (fun w hg => make_yes f n t2 w h2 hg)
  have R1 := Lib.hid (fun w hg => read_yes (readT_mk h1) w (mkT_small h1) hg)
  have R2 := Lib.hid (fun w hg => read_yes hr w z3 hg)
  have M3 := Lib.hid (fun w hg => make_yes f3 n3 t3 w (readT_some hr).1 hg)
  rw [← (readT_some hr).2] at M3
  have hm := same_list (a := mkT f n t) (b := mkT f n t2) (fun e => hne (by have := mkT_inj h1 h2 e; simp_all))
  have hs : (t == t2) = false := by simpa using hne
  clear hne
  clear hr h1 h2
  generalize mkT f n t = m1 at *
  generalize mkT f n t2 = m2 at *
  go_enter Tryd.func8, Tryd.ntmps8
  go_wp2_with fail
  refine (M1.out _ hg0).mono ?_
  rintro e w1 ⟨rfl, hb⟩
  have hB1 : Below w.heap.size w w1 := (((Below.refl w.heap.size w).alloc (Nat.le_refl _) _).alloc (by simp) _).trans (hb.mono (by simp; omega))
  have hg1 := hg0.below hb
  have kp := blk_below hb (blk_alloc (alloc_at w (.cells #[.string f, .int .i64 n, .int .i64 t] 49)) _)
  have kq' := blk_below hb (alloc_at _ _)
  have kq : w1.heap[w.heap.size + 1]? = some (.cells #[.string f, .int .i64 n, .int .i64 t2] 49) := by rw [← kq']; simp
  have hs1 : w.heap.size + 1 < w1.heap.size := blk_lt kq
  clear hb kq'
  have p0 : w1.cell? ⟨w.heap.size, 0, none⟩ = some (.string f) := blk_cell kp 0
  have p1 : w1.cell? ⟨w.heap.size, 1, none⟩ = some (.int .i64 n) := blk_cell kp 1
  have p2 : w1.cell? ⟨w.heap.size, 2, none⟩ = some (.int .i64 t) := blk_cell kp 2
  have q0 : w1.cell? ⟨(w.heap.size + 1), 0, none⟩ = some (.string f) := blk_cell kq 0
  have q1 : w1.cell? ⟨(w.heap.size + 1), 1, none⟩ = some (.int .i64 n) := blk_cell kq 1
  have q2 : w1.cell? ⟨(w.heap.size + 1), 2, none⟩ = some (.int .i64 t2) := blk_cell kq 2
  have KP := Lib.hid kp; have KQ := Lib.hid kq; clear kp kq
  go_wp2_with fail
  refine (M2.out _ hg1).mono ?_
  rintro e w2 ⟨rfl, hb⟩
  have hB2 := below_on hB1 hB1.size hb
  have hs2 := Nat.lt_of_lt_of_le hs1 hb.size
  have hg2 := hg1.below hb
  have kp := blk_below hb KP.out; have kq := blk_below hb KQ.out
  clear hb p0 p1 p2 q0 q1 q2 KP KQ
  have p0 : w2.cell? ⟨w.heap.size, 0, none⟩ = some (.string f) := blk_cell kp 0
  have p1 : w2.cell? ⟨w.heap.size, 1, none⟩ = some (.int .i64 n) := blk_cell kp 1
  have p2 : w2.cell? ⟨w.heap.size, 2, none⟩ = some (.int .i64 t) := blk_cell kp 2
  have q0 : w2.cell? ⟨(w.heap.size + 1), 0, none⟩ = some (.string f) := blk_cell kq 0
  have q1 : w2.cell? ⟨(w.heap.size + 1), 1, none⟩ = some (.int .i64 n) := blk_cell kq 1
  have q2 : w2.cell? ⟨(w.heap.size + 1), 2, none⟩ = some (.int .i64 t2) := blk_cell kq 2
  clear kp kq
  go_wp2_with fail
  refine (R1.out _ hg2).mono ?_
  rintro e w3 ⟨rfl, hb⟩
  have hB3 := below_on hB2 hB2.size hb
  have hg3 := hg2.below hb
  have hs3 := Nat.lt_of_lt_of_le hs2 hb.size
  have p0' := cell_later hb p0; have p1' := cell_later hb p1; have p2' := cell_later hb p2; have q0' := cell_later hb q0; have q1' := cell_later hb q1; have q2' := cell_later hb q2
  clear hb p0 p1 p2 q0 q1 q2
  go_wp2_with fail
  have hg3' := hg3.below ((Below.refl w3.heap.size w3).alloc (Nat.le_refl _) (.cells #[.string f, .int .i64 n, .int .i64 t] 49))
  refine (R2.out _ hg3').mono ?_
  rintro e w4 ⟨rfl, hb⟩
  have hB4 := below_alloc hB3 hB3.size hb
  have hg4 := hg3'.below hb
  clear hb
  go_wp2_with fail
  have hg4' := hg4.below ((Below.refl w4.heap.size w4).alloc (Nat.le_refl _) (.cells #[.string f3, .int .i64 n3, .int .i64 t3] 49))
  refine (M3.out _ hg4').mono ?_
  rintro e w5 ⟨rfl, hb⟩
  have hB5 := below_alloc hB4 hB4.size hb
  have hg5 := hg4'.below hb
  clear hb
  go_wp2_with fail
  refine (awake_any _ hg5).mono ?_
  rintro e w6 ⟨rfl, hb⟩
  go_wp2_with fail
  go_ret
  exact ⟨rfl, below_on hB5 hB5.size hb⟩
set_option maxRecDepth 20000 in
set_option maxHeartbeats 4000000 in
theorem back_101 (f : ByteArray) (n t : Int) (f2 : ByteArray) (n2 t2 : Int) (s : ByteArray) (z1 : f.size ≤ 3000) (z2 : f2.size ≤ 3000) (z3 : s.size ≤ 3000) (h1 : rightB f n t = true) (h2 : rightB f2 n2 t2 = false) (f3 : ByteArray) (n3 t3 : Int) (hr : readT s = some (f3, n3, t3)) (w : World) (hg : GOK w) :
    Calls Tryd.prog 8 #[.agg #[.string f, .int .i64 n, .int .i64 t], .agg #[.string f2, .int .i64 n2, .int .i64 t2], .string s] w fun e w' => e = .returned (.bool true) ∧ Below w.heap.size w w' := by
  have hg0 := hg.below (((Below.refl w.heap.size w).alloc (Nat.le_refl _) (.cells #[.string f, .int .i64 n, .int .i64 t] 49)).alloc (by simp) (.cells #[.string f2, .int .i64 n2, .int .i64 t2] 49))
  have M1 := Lib.hid (fun w hg => make_yes f n t w h1 hg)
  have M2 := Lib.hid (fun w (_ : GOK w) => make_no f2 n2 t2 w h2)
  have R1 := Lib.hid (fun w hg => read_yes (readT_mk h1) w (mkT_small h1) hg)
  have R2 := Lib.hid (fun w hg => read_yes hr w z3 hg)
  have M3 := Lib.hid (fun w hg => make_yes f3 n3 t3 w (readT_some hr).1 hg)
  rw [← (readT_some hr).2] at M3
  clear hr h1 h2
  generalize mkT f n t = m1 at *
  go_enter Tryd.func8, Tryd.ntmps8
  go_wp2_with fail
  refine (M1.out _ hg0).mono ?_
  rintro e w1 ⟨rfl, hb⟩
  have hB1 : Below w.heap.size w w1 := (((Below.refl w.heap.size w).alloc (Nat.le_refl _) _).alloc (by simp) _).trans (hb.mono (by simp; omega))
  have hg1 := hg0.below hb
  have kp := blk_below hb (blk_alloc (alloc_at w (.cells #[.string f, .int .i64 n, .int .i64 t] 49)) _)
  have kq' := blk_below hb (alloc_at _ _)
  have kq : w1.heap[w.heap.size + 1]? = some (.cells #[.string f2, .int .i64 n2, .int .i64 t2] 49) := by rw [← kq']; simp
  have hs1 : w.heap.size + 1 < w1.heap.size := blk_lt kq
  clear hb kq'
  have p0 : w1.cell? ⟨w.heap.size, 0, none⟩ = some (.string f) := blk_cell kp 0
  have p1 : w1.cell? ⟨w.heap.size, 1, none⟩ = some (.int .i64 n) := blk_cell kp 1
  have p2 : w1.cell? ⟨w.heap.size, 2, none⟩ = some (.int .i64 t) := blk_cell kp 2
  have q0 : w1.cell? ⟨(w.heap.size + 1), 0, none⟩ = some (.string f2) := blk_cell kq 0
  have q1 : w1.cell? ⟨(w.heap.size + 1), 1, none⟩ = some (.int .i64 n2) := blk_cell kq 1
  have q2 : w1.cell? ⟨(w.heap.size + 1), 2, none⟩ = some (.int .i64 t2) := blk_cell kq 2
  have KP := Lib.hid kp; have KQ := Lib.hid kq; clear kp kq
  go_wp2_with fail
  refine (M2.out _ hg1).mono ?_
  rintro e w2 ⟨rfl, hb⟩
  have hB2 := below_on hB1 hB1.size hb
  have hs2 := Nat.lt_of_lt_of_le hs1 hb.size
  have hg2 := hg1.below hb
  have kp := blk_below hb KP.out; have kq := blk_below hb KQ.out
  clear hb p0 p1 p2 q0 q1 q2 KP KQ
  have p0 : w2.cell? ⟨w.heap.size, 0, none⟩ = some (.string f) := blk_cell kp 0
  have p1 : w2.cell? ⟨w.heap.size, 1, none⟩ = some (.int .i64 n) := blk_cell kp 1
  have p2 : w2.cell? ⟨w.heap.size, 2, none⟩ = some (.int .i64 t) := blk_cell kp 2
  have q0 : w2.cell? ⟨(w.heap.size + 1), 0, none⟩ = some (.string f2) := blk_cell kq 0
  have q1 : w2.cell? ⟨(w.heap.size + 1), 1, none⟩ = some (.int .i64 n2) := blk_cell kq 1
  have q2 : w2.cell? ⟨(w.heap.size + 1), 2, none⟩ = some (.int .i64 t2) := blk_cell kq 2
  clear kp kq
  go_wp2_with fail
  refine (R1.out _ hg2).mono ?_
  rintro e w3 ⟨rfl, hb⟩
  have hB3 := below_on hB2 hB2.size hb
  have hg3 := hg2.below hb
  have hs3 := Nat.lt_of_lt_of_le hs2 hb.size
  have p0' := cell_later hb p0; have p1' := cell_later hb p1; have p2' := cell_later hb p2; have q0' := cell_later hb q0; have q1' := cell_later hb q1; have q2' := cell_later hb q2
  clear hb p0 p1 p2 q0 q1 q2
  go_wp2_with fail
  have hg3' := hg3.below ((Below.refl w3.heap.size w3).alloc (Nat.le_refl _) (.cells #[.string f, .int .i64 n, .int .i64 t] 49))
  refine (R2.out _ hg3').mono ?_
  rintro e w4 ⟨rfl, hb⟩
  have hB4 := below_alloc hB3 hB3.size hb
  have hg4 := hg3'.below hb
  clear hb
  go_wp2_with fail
  have hg4' := hg4.below ((Below.refl w4.heap.size w4).alloc (Nat.le_refl _) (.cells #[.string f3, .int .i64 n3, .int .i64 t3] 49))
  refine (M3.out _ hg4').mono ?_
  rintro e w5 ⟨rfl, hb⟩
  have hB5 := below_alloc hB4 hB4.size hb
  have hg5 := hg4'.below hb
  clear hb
  go_wp2_with fail
  refine (awake_any _ hg5).mono ?_
  rintro e w6 ⟨rfl, hb⟩
  go_wp2_with fail
  go_ret
  exact ⟨rfl, below_on hB5 hB5.size hb⟩
set_option maxRecDepth 20000 in
set_option maxHeartbeats 4000000 in
theorem back_011 (f : ByteArray) (n t : Int) (f2 : ByteArray) (n2 t2 : Int) (s : ByteArray) (z1 : f.size ≤ 3000) (z2 : f2.size ≤ 3000) (z3 : s.size ≤ 3000) (h1 : rightB f n t = false) (h2 : rightB f2 n2 t2 = true) (f3 : ByteArray) (n3 t3 : Int) (hr : readT s = some (f3, n3, t3)) (w : World) (hg : GOK w) :
    Calls Tryd.prog 8 #[.agg #[.string f, .int .i64 n, .int .i64 t], .agg #[.string f2, .int .i64 n2, .int .i64 t2], .string s] w fun e w' => e = .returned (.bool true) ∧ Below w.heap.size w w' := by
  have hg0 := hg.below (((Below.refl w.heap.size w).alloc (Nat.le_refl _) (.cells #[.string f, .int .i64 n, .int .i64 t] 49)).alloc (by simp) (.cells #[.string f2, .int .i64 n2, .int .i64 t2] 49))
  have M1 := Lib.hid (fun w (_ : GOK w) => make_no f n t w h1)
  have M2 := Lib.hid (fun w hg => make_yes f2 n2 t2 w h2 hg)
  have R2 := Lib.hid (fun w hg => read_yes hr w z3 hg)
  have M3 := Lib.hid (fun w hg => make_yes f3 n3 t3 w (readT_some hr).1 hg)
  rw [← (readT_some hr).2] at M3
  clear hr h1 h2
  generalize mkT f2 n2 t2 = m2 at *
  go_enter Tryd.func8, Tryd.ntmps8
  go_wp2_with fail
  refine (M1.out _ hg0).mono ?_
  rintro e w1 ⟨rfl, hb⟩
  have hB1 : Below w.heap.size w w1 := (((Below.refl w.heap.size w).alloc (Nat.le_refl _) _).alloc (by simp) _).trans (hb.mono (by simp; omega))
  have hg1 := hg0.below hb
  have kp := blk_below hb (blk_alloc (alloc_at w (.cells #[.string f, .int .i64 n, .int .i64 t] 49)) _)
  have kq' := blk_below hb (alloc_at _ _)
  have kq : w1.heap[w.heap.size + 1]? = some (.cells #[.string f2, .int .i64 n2, .int .i64 t2] 49) := by rw [← kq']; simp
  have hs1 : w.heap.size + 1 < w1.heap.size := blk_lt kq
  clear hb kq'
  have p0 : w1.cell? ⟨w.heap.size, 0, none⟩ = some (.string f) := blk_cell kp 0
  have p1 : w1.cell? ⟨w.heap.size, 1, none⟩ = some (.int .i64 n) := blk_cell kp 1
  have p2 : w1.cell? ⟨w.heap.size, 2, none⟩ = some (.int .i64 t) := blk_cell kp 2
  have q0 : w1.cell? ⟨(w.heap.size + 1), 0, none⟩ = some (.string f2) := blk_cell kq 0
  have q1 : w1.cell? ⟨(w.heap.size + 1), 1, none⟩ = some (.int .i64 n2) := blk_cell kq 1
  have q2 : w1.cell? ⟨(w.heap.size + 1), 2, none⟩ = some (.int .i64 t2) := blk_cell kq 2
  have KP := Lib.hid kp; have KQ := Lib.hid kq; clear kp kq
  go_wp2_with fail
  refine (M2.out _ hg1).mono ?_
  rintro e w2 ⟨rfl, hb⟩
  have hB2 := below_on hB1 hB1.size hb
  have hs2 := Nat.lt_of_lt_of_le hs1 hb.size
  have hg2 := hg1.below hb
  have kp := blk_below hb KP.out; have kq := blk_below hb KQ.out
  clear hb p0 p1 p2 q0 q1 q2 KP KQ
  have p0 : w2.cell? ⟨w.heap.size, 0, none⟩ = some (.string f) := blk_cell kp 0
  have p1 : w2.cell? ⟨w.heap.size, 1, none⟩ = some (.int .i64 n) := blk_cell kp 1
  have p2 : w2.cell? ⟨w.heap.size, 2, none⟩ = some (.int .i64 t) := blk_cell kp 2
  have q0 : w2.cell? ⟨(w.heap.size + 1), 0, none⟩ = some (.string f2) := blk_cell kq 0
  have q1 : w2.cell? ⟨(w.heap.size + 1), 1, none⟩ = some (.int .i64 n2) := blk_cell kq 1
  have q2 : w2.cell? ⟨(w.heap.size + 1), 2, none⟩ = some (.int .i64 t2) := blk_cell kq 2
  clear kp kq
  go_wp2_with fail
  refine (R2.out _ hg2).mono ?_
  rintro e w4 ⟨rfl, hb⟩
  have hB4 := below_on hB2 hB2.size hb
  have hg4 := hg2.below hb
  clear hb
  go_wp2_with fail
  have hg4' := hg4.below ((Below.refl w4.heap.size w4).alloc (Nat.le_refl _) (.cells #[.string f3, .int .i64 n3, .int .i64 t3] 49))
  refine (M3.out _ hg4').mono ?_
  rintro e w5 ⟨rfl, hb⟩
  have hB5 := below_alloc hB4 hB4.size hb
  have hg5 := hg4'.below hb
  clear hb
  go_wp2_with fail
  refine (awake_any _ hg5).mono ?_
  rintro e w6 ⟨rfl, hb⟩
  go_wp2_with fail
  go_ret
  exact ⟨rfl, below_on hB5 hB5.size hb⟩
set_option maxRecDepth 20000 in
set_option maxHeartbeats 4000000 in
theorem back_001 (f : ByteArray) (n t : Int) (f2 : ByteArray) (n2 t2 : Int) (s : ByteArray) (z1 : f.size ≤ 3000) (z2 : f2.size ≤ 3000) (z3 : s.size ≤ 3000) (h1 : rightB f n t = false) (h2 : rightB f2 n2 t2 = false) (f3 : ByteArray) (n3 t3 : Int) (hr : readT s = some (f3, n3, t3)) (w : World) (hg : GOK w) :
    Calls Tryd.prog 8 #[.agg #[.string f, .int .i64 n, .int .i64 t], .agg #[.string f2, .int .i64 n2, .int .i64 t2], .string s] w fun e w' => e = .returned (.bool true) ∧ Below w.heap.size w w' := by
  have hg0 := hg.below (((Below.refl w.heap.size w).alloc (Nat.le_refl _) (.cells #[.string f, .int .i64 n, .int .i64 t] 49)).alloc (by simp) (.cells #[.string f2, .int .i64 n2, .int .i64 t2] 49))
  have M1 := Lib.hid (fun w (_ : GOK w) => make_no f n t w h1)
  have M2 := Lib.hid (fun w (_ : GOK w) => make_no f2 n2 t2 w h2)
  have R2 := Lib.hid (fun w hg => read_yes hr w z3 hg)
  have M3 := Lib.hid (fun w hg => make_yes f3 n3 t3 w (readT_some hr).1 hg)
  rw [← (readT_some hr).2] at M3
  clear hr h1 h2
  go_enter Tryd.func8, Tryd.ntmps8
  go_wp2_with fail
  refine (M1.out _ hg0).mono ?_
  rintro e w1 ⟨rfl, hb⟩
  have hB1 : Below w.heap.size w w1 := (((Below.refl w.heap.size w).alloc (Nat.le_refl _) _).alloc (by simp) _).trans (hb.mono (by simp; omega))
  have hg1 := hg0.below hb
  have kp := blk_below hb (blk_alloc (alloc_at w (.cells #[.string f, .int .i64 n, .int .i64 t] 49)) _)
  have kq' := blk_below hb (alloc_at _ _)
  have kq : w1.heap[w.heap.size + 1]? = some (.cells #[.string f2, .int .i64 n2, .int .i64 t2] 49) := by rw [← kq']; simp
  have hs1 : w.heap.size + 1 < w1.heap.size := blk_lt kq
  clear hb kq'
  have p0 : w1.cell? ⟨w.heap.size, 0, none⟩ = some (.string f) := blk_cell kp 0
  have p1 : w1.cell? ⟨w.heap.size, 1, none⟩ = some (.int .i64 n) := blk_cell kp 1
  have p2 : w1.cell? ⟨w.heap.size, 2, none⟩ = some (.int .i64 t) := blk_cell kp 2
  have q0 : w1.cell? ⟨(w.heap.size + 1), 0, none⟩ = some (.string f2) := blk_cell kq 0
  have q1 : w1.cell? ⟨(w.heap.size + 1), 1, none⟩ = some (.int .i64 n2) := blk_cell kq 1
  have q2 : w1.cell? ⟨(w.heap.size + 1), 2, none⟩ = some (.int .i64 t2) := blk_cell kq 2
  have KP := Lib.hid kp; have KQ := Lib.hid kq; clear kp kq
  go_wp2_with fail
  refine (M2.out _ hg1).mono ?_
  rintro e w2 ⟨rfl, hb⟩
  have hB2 := below_on hB1 hB1.size hb
  have hs2 := Nat.lt_of_lt_of_le hs1 hb.size
  have hg2 := hg1.below hb
  have kp := blk_below hb KP.out; have kq := blk_below hb KQ.out
  clear hb p0 p1 p2 q0 q1 q2 KP KQ
  have p0 : w2.cell? ⟨w.heap.size, 0, none⟩ = some (.string f) := blk_cell kp 0
  have p1 : w2.cell? ⟨w.heap.size, 1, none⟩ = some (.int .i64 n) := blk_cell kp 1
  have p2 : w2.cell? ⟨w.heap.size, 2, none⟩ = some (.int .i64 t) := blk_cell kp 2
  have q0 : w2.cell? ⟨(w.heap.size + 1), 0, none⟩ = some (.string f2) := blk_cell kq 0
  have q1 : w2.cell? ⟨(w.heap.size + 1), 1, none⟩ = some (.int .i64 n2) := blk_cell kq 1
  have q2 : w2.cell? ⟨(w.heap.size + 1), 2, none⟩ = some (.int .i64 t2) := blk_cell kq 2
  clear kp kq
  go_wp2_with fail
  refine (R2.out _ hg2).mono ?_
  rintro e w4 ⟨rfl, hb⟩
  have hB4 := below_on hB2 hB2.size hb
  have hg4 := hg2.below hb
  clear hb
  go_wp2_with fail
  have hg4' := hg4.below ((Below.refl w4.heap.size w4).alloc (Nat.le_refl _) (.cells #[.string f3, .int .i64 n3, .int .i64 t3] 49))
  refine (M3.out _ hg4').mono ?_
  rintro e w5 ⟨rfl, hb⟩
  have hB5 := below_alloc hB4 hB4.size hb
  have hg5 := hg4'.below hb
  clear hb
  go_wp2_with fail
  refine (awake_any _ hg5).mono ?_
  rintro e w6 ⟨rfl, hb⟩
  go_wp2_with fail
  go_ret
  exact ⟨rfl, below_on hB5 hB5.size hb⟩
end Go.Proofs.YtckooioikcenmaaDoor

/- The program law's own examples. Conditions: the library's table of blanks reads as it is laid. -/
import Derived.Test.YtckooioikcenmaaDoorPgW6
namespace Go.Proofs.YtckooioikcenmaaDoor
open Go.RowKit
def insOf (o : Int) : Obj := .cells #[.int .u8 o, .int .i64 0, .int .i64 0, .int .i64 0, .int .i64 0, .string ⟨#[]⟩] 34
def oneOf (b : Nat) : Obj := .cells #[.string ⟨#[112]⟩, .int .i64 1, .slice (some ⟨b, 0, none⟩) 1 1] 24
def nopIns (o : Int) : Ins := ⟨o, 0, 0, 0, 0, ⟨#[]⟩⟩
theorem code_one {w : World} {b : Nat} {o : Int} (h : w.heap[b]? = some (insOf o)) : CodeAt w (.slice (some ⟨b, 0, none⟩) 1 1) [nopIns o] := by
  refine .inr ⟨b, 0, 1, rfl, by simp, by simp only [maxLen]; omega, blk_lt h, fun k x hx => ?_⟩
  have hk : k = 0 := by
    have := (List.getElem?_eq_some_iff.1 hx).1
    simp at this; exact this
  subst hk
  simp at hx
  subst hx
  exact ⟨blk_cell h 0, blk_cell h 1, blk_cell h 2, blk_cell h 3, blk_cell h 4, blk_cell h 5⟩
structure Tail (w : World) (n2 n3 m2 m3 : Nat) (W : World) : Prop where
  h0 : W.heap[w.heap.size]? = some (insOf 15)
  h1 : W.heap[w.heap.size + 1]? = some (oneOf w.heap.size)
  h2 : W.heap[n2]? = some (oneOf m2)
  h3 : W.heap[n3]? = some (oneOf m3)
  h4 : W.heap[m2]? = some (insOf 1)
  h5 : W.heap[m3]? = some (insOf 8)
  bel : Below w.heap.size w W
theorem Tail.below {w W W' : World} {n2 n3 m2 m3 : Nat} (h : Tail w n2 n3 m2 m3 W) (hb : Below W.heap.size W W') : Tail w n2 n3 m2 m3 W' :=
  ⟨blk_below hb h.h0, blk_below hb h.h1, blk_below hb h.h2, blk_below hb h.h3, blk_below hb h.h4, blk_below hb h.h5, h.bel.trans (hb.mono h.bel.size)⟩
theorem below_setCell {B : Nat} {w0 w : World} (h : Below B w0 w) {a : Addr} (ha : B ≤ a.block) (v : Value) : Below B w0 (w.setCell a v) :=
  ⟨h.os, h.tape, h.output, by simpa using h.size, fun r hr => (Below.heap_setCell w a v r (by omega)).trans (h.block r hr)⟩
theorem tail_world {w wc : World} {n2 n3 : Nat} (hne : n2 ≠ n3) (hl2 : w.heap.size + 1 < n2) (hl3 : w.heap.size + 1 < n3) (H0 : wc.heap[w.heap.size]? = some (insOf 15)) (H1 : wc.heap[w.heap.size + 1]? = some (oneOf w.heap.size))
    (H2 : wc.heap[n2]? = some (oneOf w.heap.size)) (H3 : wc.heap[n3]? = some (oneOf w.heap.size)) (HB : Below w.heap.size w wc) :
    Tail w n2 n3 wc.heap.size (wc.heap.size + 1) ((((wc.alloc (insOf 1)).setCell ⟨n2, 2, none⟩ (.slice (some ⟨wc.heap.size, 0, none⟩) 1 1)).alloc (insOf 8)).setCell ⟨n3, 2, none⟩ (.slice (some ⟨wc.heap.size + 1, 0, none⟩) 1 1)) := by
  have z2 := blk_lt H2
  have z3 := blk_lt H3
  have e5 := alloc_at ((wc.alloc (insOf 1)).setCell ⟨n2, 2, none⟩ (.slice (some ⟨wc.heap.size, 0, none⟩) 1 1)) (insOf 8)
  rw [show ((wc.alloc (insOf 1)).setCell ⟨n2, 2, none⟩ (.slice (some ⟨wc.heap.size, 0, none⟩) 1 1)).heap.size = wc.heap.size + 1 by simp] at e5
  refine ⟨blk_set_ne (blk_alloc (blk_set_ne (blk_alloc H0 _) _ (by simp; omega)) _) _ (by simp; omega), blk_set_ne (blk_alloc (blk_set_ne (blk_alloc H1 _) _ (by simp; omega)) _) _ (by simp; omega),
    blk_set_ne (blk_alloc (blk_set (blk_alloc H2 _) 2 _) _) _ (by simpa using hne), blk_set (blk_alloc (blk_set_ne (blk_alloc H3 _) _ (by simpa using hne.symm)) _) 2 _,
    blk_set_ne (blk_alloc (blk_set_ne (alloc_at _ _) _ (by simp; omega)) _) _ (by simp; omega), blk_set_ne e5 _ (by simp; omega),
    below_setCell (Below.alloc (below_setCell (HB.alloc (by have := HB.size; omega) _) (by simp; omega) _) (by have := HB.size; simp; omega) _) (by simp; omega) _⟩
theorem chk_15 : checkN ⟨#[112]⟩ 1 [nopIns 15] 0 = 0 := by decide
theorem chk_1 : checkN ⟨#[112]⟩ 1 [nopIns 1] 0 = 100 := by decide
theorem chk_8 : checkN ⟨#[112]⟩ 1 [nopIns 8] 0 = 0 := by decide
set_option maxRecDepth 20000 in
set_option maxHeartbeats 1000000 in
theorem awake09 (w : World) (hg : POK w) : Calls Tryd.prog 12 #[] w fun e w' => e = .returned (.bool true) ∧ Below w.heap.size w w' := by
  go_enter Tryd.func12, Tryd.ntmps12
  go_upto_region 2 with (fail)
  go_cut [1, 2, 3] from 4 to 8 (fun s1 s2 s3 wx => ∃ n2 n3, s1 = .pointer (some ⟨w.heap.size + 1, 0, none⟩) ∧ s2 = .pointer (some ⟨n2, 0, none⟩) ∧ s3 = .pointer (some ⟨n3, 0, none⟩) ∧ n2 ≠ n3 ∧ w.heap.size + 1 < n2 ∧ w.heap.size + 1 < n3 ∧
    Hid (wx.heap[w.heap.size]? = some (insOf 15)) ∧ Hid (wx.heap[w.heap.size + 1]? = some (oneOf w.heap.size)) ∧ Hid (wx.heap[n2]? = some (oneOf w.heap.size)) ∧ Hid (wx.heap[n3]? = some (oneOf w.heap.size)) ∧ Hid (Below w.heap.size w wx))
  case first =>
    have e0 : ((((w.alloc (insOf 15)).alloc (oneOf w.heap.size)).alloc (oneOf w.heap.size)).alloc (oneOf w.heap.size)).drew.heap[w.heap.size]? = some (insOf 15) := blk_alloc (blk_alloc (blk_alloc (alloc_at _ _) _) _) _
    have e1 : ((((w.alloc (insOf 15)).alloc (oneOf w.heap.size)).alloc (oneOf w.heap.size)).alloc (oneOf w.heap.size)).drew.heap[w.heap.size + 1]? = some (oneOf w.heap.size) := by
      have := blk_alloc (blk_alloc (alloc_at (w.alloc (insOf 15)) (oneOf w.heap.size)) (oneOf w.heap.size)) (oneOf w.heap.size)
      rw [show (w.alloc (insOf 15)).heap.size = w.heap.size + 1 by simp] at this
      exact this
    have e2 : ((((w.alloc (insOf 15)).alloc (oneOf w.heap.size)).alloc (oneOf w.heap.size)).alloc (oneOf w.heap.size)).drew.heap[w.heap.size + 1 + 1]? = some (oneOf w.heap.size) := by
      have := blk_alloc (alloc_at ((w.alloc (insOf 15)).alloc (oneOf w.heap.size)) (oneOf w.heap.size)) (oneOf w.heap.size)
      rw [show ((w.alloc (insOf 15)).alloc (oneOf w.heap.size)).heap.size = w.heap.size + 1 + 1 by simp] at this
      exact this
    have e3 : ((((w.alloc (insOf 15)).alloc (oneOf w.heap.size)).alloc (oneOf w.heap.size)).alloc (oneOf w.heap.size)).drew.heap[w.heap.size + 1 + 1 + 1]? = some (oneOf w.heap.size) := by
      have := alloc_at (((w.alloc (insOf 15)).alloc (oneOf w.heap.size)).alloc (oneOf w.heap.size)) (oneOf w.heap.size)
      rw [show (((w.alloc (insOf 15)).alloc (oneOf w.heap.size)).alloc (oneOf w.heap.size)).heap.size = w.heap.size + 1 + 1 + 1 by simp] at this
      exact this
    have eb : Below w.heap.size w ((((w.alloc (insOf 15)).alloc (oneOf w.heap.size)).alloc (oneOf w.heap.size)).alloc (oneOf w.heap.size)).drew := by
      have := ((((Below.refl w.heap.size w).alloc (Nat.le_refl _) (insOf 15)).alloc (by simp) (oneOf w.heap.size)).alloc (by simp; omega) (oneOf w.heap.size)).alloc (by simp; omega) (oneOf w.heap.size)
      exact ⟨this.os, this.tape, this.output, this.size, this.block⟩
    have E0 := Lib.hid e0; have E1 := Lib.hid e1; have E2 := Lib.hid e2; have E3 := Lib.hid e3; have EB := Lib.hid eb
    clear e0 e1 e2 e3 eb
    go_region
    · go_wp2_with fail
      go_meet
      exact ⟨_, _, rfl, rfl, rfl, by omega, by omega, by omega, E0, E1, E2, E3, EB⟩
    · go_wp2_with fail
      go_meet
      exact ⟨_, _, rfl, rfl, rfl, by omega, by omega, by omega, E0, E1, E3, E2, EB⟩
  case rest =>
    obtain ⟨n2, n3, rfl, rfl, rfl, hne, hl2, hl3, H0, H1, H2, H3, HB⟩ := hcut
    have HT := tail_world hne hl2 hl3 H0.out H1.out H2.out H3.out HB.out
    unfold insOf at HT
    have k2 : ∀ cs T, (wc.alloc (.cells cs T)).cell? ⟨n2, 2, none⟩ = some (.slice (some ⟨w.heap.size, 0, none⟩) 1 1) := fun cs T => by rw [blk_cell (blk_alloc H2.out _)]; rfl
    have f2 : ∀ cs T, (wc.alloc (.cells cs T)).frozen? ⟨n2, 2, none⟩ = false := fun cs T => blk_free (blk_alloc H2.out _) 2
    have k3 : ∀ cs T v cs' T', (((wc.alloc (.cells cs T)).setCell ⟨n2, 2, none⟩ v).alloc (.cells cs' T')).cell? ⟨n3, 2, none⟩ = some (.slice (some ⟨w.heap.size, 0, none⟩) 1 1) := fun cs T v cs' T' => by
      rw [blk_cell (blk_alloc (blk_set_ne (blk_alloc H3.out _) _ (by simpa using hne.symm)) _)]; rfl
    have f3 : ∀ cs T v cs' T', (((wc.alloc (.cells cs T)).setCell ⟨n2, 2, none⟩ v).alloc (.cells cs' T')).frozen? ⟨n3, 2, none⟩ = false := fun cs T v cs' T' => 
      blk_free (blk_alloc (blk_set_ne (blk_alloc H3.out _) _ (by simpa using hne.symm)) _) 2
    clear H0 H1 H2 H3
    replace HT := Lib.hid HT
    go_wp2_with fail
    generalize wc.heap.size + 1 = m3 at HT ⊢
    generalize wc.heap.size = m2 at HT ⊢
    clear k2 f2 k3 f3
    generalize (((wc.alloc _).setCell _ _).alloc _).setCell _ _ = W at HT ⊢
    refine (show_3 W (hg.below HT.out.bel)).mono ?_
    rintro e w2 ⟨rfl, hb2⟩
    have HT2 := Lib.hid (HT.out.below hb2)
    clear HT hb2
    go_wp2_with fail
    refine (show_10 w2 (hg.below HT2.out.bel)).mono ?_
    rintro e w3 ⟨rfl, hb3⟩
    have HT3 := Lib.hid (HT2.out.below hb3)
    clear HT2 hb3
    have c1 := HT3.out.h1
    unfold oneOf at c1
    have c10 := blk_cell c1 0
    have c11 := blk_cell c1 1
    have c12 := blk_cell c1 2
    simp at c10 c11 c12
    clear c1
    go_wp2_with fail
    refine (check_walk _ _ _ _ w3 _ (code_one HT3.out.h0)).mono ?_
    rintro e w4 ⟨rfl, hb4⟩
    rw [chk_15]
    have HT4 := Lib.hid (HT3.out.below hb4)
    clear HT3 hb4 c10 c11 c12
    have c1 := HT4.out.h2
    unfold oneOf at c1
    have c10 := blk_cell c1 0
    have c11 := blk_cell c1 1
    have c12 := blk_cell c1 2
    simp at c10 c11 c12
    clear c1
    go_wp2_with fail
    refine (check_walk _ _ _ _ w4 _ (code_one HT4.out.h4)).mono ?_
    rintro e w5 ⟨rfl, hb5⟩
    rw [chk_1]
    have HT5 := Lib.hid (HT4.out.below hb5)
    clear HT4 hb5 c10 c11 c12
    have c1 := HT5.out.h3
    unfold oneOf at c1
    have c10 := blk_cell c1 0
    have c11 := blk_cell c1 1
    have c12 := blk_cell c1 2
    simp at c10 c11 c12
    clear c1
    go_wp2_with fail
    refine (check_walk _ _ _ _ w5 _ (code_one HT5.out.h5)).mono ?_
    rintro e w6 ⟨rfl, hb6⟩
    rw [chk_8]
    have HT6 := Lib.hid (HT5.out.below hb6)
    go_wp2
    go_ret
    exact ⟨rfl, HT6.out.bel⟩
end Go.Proofs.YtckooioikcenmaaDoor

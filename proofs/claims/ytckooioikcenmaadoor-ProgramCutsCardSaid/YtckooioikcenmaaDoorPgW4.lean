/- program.fits. Conditions: none. -/
import Derived.Test.YtckooioikcenmaaDoorPgW3
import Derived.Deep.DeepCutAuto
namespace Go.Proofs.YtckooioikcenmaaDoor
open Go.RowKit
theorem first_of (j : Nat) (h2 : j < 22) (h1 : 0 < j) (h3 : 12 ∈ fitsSlots.getD j []) : j = 5 ∨ j = 11 ∨ j = 15 ∨ j = 16 ∨ j = 19 ∨ j = 20 ∨ j = 21 := by
  have h6 : ∀ j < 22, 12 ∈ fitsSlots.getD j [] → j ∈ [0, 5, 11, 15, 16, 19, 20, 21] := by decide
  have := h6 j h2 h3
  simp only [List.mem_cons, List.not_mem_nil, or_false] at this
  omega
theorem letters (o : Int) (h : shapeOf o ≠ ⟨#[]⟩) : (shapeOf o).size = 5 ∧ (∀ k < 4, letter (shapeOf o) k ∈ [114, 106, 112, 110, 45]) ∧ letter (shapeOf o) 4 ∈ [115, 45] ∧ (shapeOf o).toList.isEmpty = false := by
  by_cases h1 : 1 ≤ o ∧ o ≤ 16
  · have : o = 1 ∨ o = 2 ∨ o = 3 ∨ o = 4 ∨ o = 5 ∨ o = 6 ∨ o = 7 ∨ o = 8 ∨ o = 9 ∨ o = 10 ∨ o = 11 ∨ o = 12 ∨ o = 13 ∨ o = 14 ∨ o = 15 ∨ o = 16 := by omega
    rcases this with rfl | rfl | rfl | rfl | rfl | rfl | rfl | rfl | rfl | rfl | rfl | rfl | rfl | rfl | rfl | rfl <;> exact ⟨by decide, by decide, by decide, by kernel_rfl⟩
  · exfalso
    apply h
    unfold shapeOf
    repeat (rw [if_neg (by omega)])
theorem idx_str (s : ByteArray) (k : Nat) (h : k < s.size) (w : World) : (Instr.index 9 (.string s) (.int .i64 k)).run Tryd.prog w = .ok (.int .u8 (letter s k)) w := by
  have e : s[k]? = some s[k] := getElem?_pos s k h
  have e2 : (s.data[k]?.getD 0) = s[k] := by
    have : k < s.data.size := h
    rw [Array.getElem?_eq_getElem this]; rfl
  simp [Instr.index, go_sem, letter, e, e2]
theorem size_list (s : ByteArray) : decide (s.size = 0) = s.toList.isEmpty := by
  rw [_root_.Go.ByteArray.toList_eq]
  obtain ⟨⟨l⟩⟩ := s
  cases l <;> simp [ByteArray.size]
def nth (a b c n : Int) : Nat → Int
  | 0 => a
  | 1 => b
  | 2 => c
  | _ => n
theorem May.keep {w w' : World} {m : Nat} {regs len pol : Int} (h : May w m regs len pol) (hb : Below w.heap.size w w') : May w' m regs len pol := by
  obtain ⟨b1, b2, b3, b4, x1, x2, x3, x4, hM⟩ := h
  exact ⟨b1, b2, b3, b4, blk_below hb x1, blk_below hb x2, blk_below hb x3, blk_below hb x4, hM.keep (hb.block _ hM.lt)⟩
theorem fits_unfold {regs len pol op a b c n : Int} {s sh : ByteArray} (hsh : shapeOf op = sh) (hne : sh.size = 5) : fitsOk regs len pol ⟨op, a, b, c, n, s⟩ =
    (mayOk regs len pol (letter sh 0) a && mayOk regs len pol (letter sh 1) b && mayOk regs len pol (letter sh 2) c && mayOk regs len pol (letter sh 3) n &&
    (if letter sh 4 = 115 then namedOk s else decide (s.size = 0))) := by
  unfold fitsOk
  simp only [hsh]
  rw [if_neg (by omega)]
theorem fits_false {regs len pol op a b c n : Int} {s sh : ByteArray} {k : Nat} (hsh : shapeOf op = sh) (hne : sh.size = 5) (hk : k < 4) (h : mayOk regs len pol (letter sh k) (nth a b c n k) = false) : fitsOk regs len pol ⟨op, a, b, c, n, s⟩ = false := by
  rw [fits_unfold hsh hne]
  rcases k with _ | _ | _ | _ | k
  · simp only [nth] at h; simp [h]
  · simp only [nth] at h; simp [h]
  · simp only [nth] at h; simp [h]
  · simp only [nth] at h; simp [h]
  · omega
set_option linter.unusedSimpArgs false in
set_option maxRecDepth 20000 in
set_option maxHeartbeats 1000000 in
theorem fits_walk (name : ByteArray) (regs : Int) (A : Option Addr) (ln cp : Nat) (op a b c n : Int) (s : ByteArray) (pol : Int) (w : World) (_hln : ln ≤ 9223372036854775807) :
    Calls Tryd.prog 26 #[.agg #[.string name, .int .i64 regs, .slice A ln cp], .agg #[.int .u8 op, .int .i64 a, .int .i64 b, .int .i64 c, .int .i64 n, .string s], .int .i64 pol] w fun e w' => e = .returned (.bool (fitsOk regs ln pol ⟨op, a, b, c, n, s⟩)) ∧ Below w.heap.size w w' := by
  go_enter Tryd.func26, Tryd.ntmps26
  go_upto_region 2 with (fail)
  go_cut [8] from 12 to 27 (fun s8 wx => ∃ m, s8 = .map (some m) ∧ May wx m regs ln pol ∧ wx.heap[w.heap.size + 1]? = some (.cells #[.int .u8 op, .int .i64 a, .int .i64 b, .int .i64 c, .int .i64 n, .string s] 34) ∧ Below w.heap.size w wx)
  case first =>
    have hpb : ((w.alloc (.cells #[.string name, .int .i64 regs, .slice A ln cp] 24)).alloc (.cells #[.int .u8 op, .int .i64 a, .int .i64 b, .int .i64 c, .int .i64 n, .string s] 34)).drew.heap[w.heap.size]? = some (.cells #[.string name, .int .i64 regs, .slice A ln cp] 24) := blk_alloc (alloc_at _ _) _
    have hib : ((w.alloc (.cells #[.string name, .int .i64 regs, .slice A ln cp] 24)).alloc (.cells #[.int .u8 op, .int .i64 a, .int .i64 b, .int .i64 c, .int .i64 n, .string s] 34)).drew.heap[w.heap.size + 1]? = some (.cells #[.int .u8 op, .int .i64 a, .int .i64 b, .int .i64 c, .int .i64 n, .string s] 34) := by
      have := alloc_at (w.alloc (.cells #[.string name, .int .i64 regs, .slice A ln cp] 24)) (.cells #[.int .u8 op, .int .i64 a, .int .i64 b, .int .i64 c, .int .i64 n, .string s] 34)
      rw [show (w.alloc (.cells #[.string name, .int .i64 regs, .slice A ln cp] 24)).heap.size = w.heap.size + 1 by simp] at this
      exact this
    have hbel : Below w.heap.size w ((w.alloc (.cells #[.string name, .int .i64 regs, .slice A ln cp] 24)).alloc (.cells #[.int .u8 op, .int .i64 a, .int .i64 b, .int .i64 c, .int .i64 n, .string s] 34)).drew := by
      have := ((Below.refl w.heap.size w).alloc (Nat.le_refl _) (.cells #[.string name, .int .i64 regs, .slice A ln cp] 24)).alloc (by simp) (.cells #[.int .u8 op, .int .i64 a, .int .i64 b, .int .i64 c, .int .i64 n, .string s] 34)
      exact ⟨this.os, this.tape, this.output, this.size, this.block⟩
    generalize hW : (w.alloc (.cells #[.string name, .int .i64 regs, .slice A ln cp] 24)).alloc (.cells #[.int .u8 op, .int .i64 a, .int .i64 b, .int .i64 c, .int .i64 n, .string s] 34) = w0 at *
    clear hW
    generalize hbase : (#[_, _, _, _, _, _, _, _, _, _, _, _, _, _, _, _, _, _, _, _, _, _, _, _, _, _, _, _, _, _, _, _, _, _, _, _, _, _, _, _, _, _, _, _, _, _, _, _, _, _, _, _, _, _, _, _, _, _, _, _, _, _, _, _, _, _, _, _, _, _, _, _, _] : Array Value) = base
    have hb2 : base[2]? = some (.int .i64 pol) := by rw [← hbase]; rfl
    have hb3 : base[3]? = some (.pointer (some ⟨w.heap.size, 0, none⟩)) := by rw [← hbase]; rfl
    have hb7 : base[7]? = some f42 := by rw [← hbase]; rfl
    have hbs : base.size = 73 := by rw [← hbase]; rfl
    have hB := Lib.hid hbase
    clear hbase
    refine wp_region_inv (FI base w0.drew (fitsLeft w.heap.size regs ln pol (.slice A ln cp))) (by kernel_rfl) (by kernel_rfl) ?_ ?_ ?_ ?_
    · intro L L' a w hLL h
      exact ⟨h.size, h.defers, h.same, h.bel, fun i l hi hl => h.fact i l hi (by rw [hLL i (by have := (List.getElem?_eq_some_iff.1 hi).1; simpa [fitsLeft] using this)]; exact hl)⟩
    · exact ⟨rfl, rfl, fun d _ => rfl, Below.refl _ _, fun _ _ _ h => by cases h⟩
    · refine ⟨?_, ?_, ?_, ?_, ?_, ?_, ?_, ?_, ?_, ?_, ?_, ?_, ?_, ?_, ?_, ?_, ?_, ?_, ?_, ?_, ?_, ?_, trivial⟩
      · intro L a1 w1 hI hcl hpre hL K' hK'
        rw [if_pos (by rfl)]
        unfold Oper.wp
        have vc : ∀ v, a1.eval (.const v) = v := fun _ => rfl
        have vf : ∀ f, a1.eval (.func f) = .func (.func f) #[] #[] := fun _ => rfl
        generalize a1.eval = E at *
        simp [execOp, run_makeMap, go_sem, vc, vf, Result.andThen, Oper.upon]
        refine hK' _ _ (hI.next (i := 0) (l := .own) (by omega) (hI.bel.alloc hI.bel.size _) (fun _ _ h => blk_alloc h _) rfl (slots_first ?_ hL) hL ⟨_, At.mk _ (by rw [hI.size, hbs]; decide), hI.bel.size, (MapR.empty w1).weaken (fun _ _ => trivial) (fun _ _ h => h)⟩)
        intro j h1 h2 h3 h4
        have h5 := first_of j h2 h1 h3
        rcases h5 with rfl | rfl | rfl | rfl | rfl | rfl | rfl
        · exact hcl _ _ ⟨0, .data⟩ rfl h4 (by simp) rfl
        · exact hcl _ _ ⟨0, .data⟩ rfl h4 (by simp) rfl
        · exact hcl _ _ ⟨0, .data⟩ rfl h4 (by simp) rfl
        · exact hcl _ _ ⟨0, .data⟩ rfl h4 (by simp) rfl
        · exact hcl _ _ ⟨0, .data⟩ rfl h4 (by simp) rfl
        · exact hcl _ _ ⟨0, .data⟩ rfl h4 (by simp) rfl
        · exact hcl _ _ ⟨0, .phase⟩ rfl h4 (by simp) rfl
      · intro L a1 w1 hI hcl hpre hL K' hK'
        rw [if_pos (by rfl)]
        unfold Oper.wp
        have e7 : At a1 7 f42 := (hI.same 7 (by omega)).trans hb7
        have ve7 := e7.eval
        have vc : ∀ v, a1.eval (.const v) = v := fun _ => rfl
        have vf : ∀ f, a1.eval (.func f) = .func (.func f) #[] #[] := fun _ => rfl
        generalize a1.eval = E at *
        simp [execOp, ve7, go_sem, vc, vf, Result.andThen, Oper.upon]
        exact hK' _ _ (hI.next (i := 1) (l := .val 13 f42) (by omega) hI.bel (fun _ _ h => h) rfl (slots_alone 1 13 (by decide)) hL (At.mk _ (by rw [hI.size, hbs]; decide)))
      · intro L a1 w1 hI hcl hpre hL K' hK'
        rw [if_pos (by rfl)]
        unfold Oper.wp
        have e3 : At a1 3 (.pointer (some ⟨w.heap.size, 0, none⟩)) := (hI.same 3 (by omega)).trans hb3
        have ve3 := e3.eval
        have vc : ∀ v, a1.eval (.const v) = v := fun _ => rfl
        have vf : ∀ f, a1.eval (.func f) = .func (.func f) #[] #[] := fun _ => rfl
        generalize a1.eval = E at *
        simp [execOp, ve3, go_sem, vc, vf, Result.andThen, Oper.upon]
        exact hK' _ _ (hI.next (i := 2) (l := .val 14 (.pointer (some ⟨w.heap.size, 1, none⟩))) (by omega) hI.bel (fun _ _ h => h) rfl (slots_alone 2 14 (by decide)) hL (At.mk _ (by rw [hI.size, hbs]; decide)))
      · intro L a1 w1 hI hcl hpre hL K' hK'
        rw [if_pos (by rfl)]
        unfold Oper.wp
        have e1 : At a1 14 _ := hI.fact 2 (.val 14 (.pointer (some ⟨w.heap.size, 1, none⟩))) rfl (hpre ⟨2, .data⟩ (by simp) rfl)
        have hc := blk_cell (blk_below hI.bel hpb) 1
        simp at hc
        have ve1 := e1.eval
        have vc : ∀ v, a1.eval (.const v) = v := fun _ => rfl
        have vf : ∀ f, a1.eval (.func f) = .func (.func f) #[] #[] := fun _ => rfl
        generalize a1.eval = E at *
        simp [execOp, ve1, hc, go_sem, vc, vf, Result.andThen, Oper.upon]
        exact hK' _ _ (hI.next (i := 3) (l := .val 15 (.int .i64 regs)) (by omega) hI.bel (fun _ _ h => h) rfl (slots_alone 3 15 (by decide)) hL (At.mk _ (by rw [hI.size, hbs]; decide)))
      · intro L a1 w1 hI hcl hpre hL K' hK'
        rw [if_pos (by rfl)]
        unfold Oper.wp
        have e1 : At a1 13 _ := hI.fact 1 (.val 13 f42) rfl (hpre ⟨1, .data⟩ (by simp) rfl)
        have e2 : At a1 15 _ := hI.fact 3 (.val 15 (.int .i64 regs)) rfl (hpre ⟨3, .data⟩ (by simp) rfl)
        have ve1 := e1.eval
        have ve2 := e2.eval
        have vc : ∀ v, a1.eval (.const v) = v := fun _ => rfl
        have vf : ∀ f, a1.eval (.func f) = .func (.func f) #[] #[] := fun _ => rfl
        generalize a1.eval = E at *
        simp [execOp, ve1, ve2, f42, go_sem, vc, vf, Result.andThen, Oper.upon]
        refine (fits1_walk _ _).mono ?_
        rintro e w2 ⟨rfl, rfl⟩
        exact hK' _ _ (hI.next (i := 4) (l := .box 16 regs) (by omega) (hI.bel.alloc hI.bel.size _) (fun _ _ h => blk_alloc h _) rfl (slots_alone 4 16 (by decide)) hL ⟨_, At.mk _ (by rw [hI.size, hbs]; decide), alloc_at _ _⟩)
      · intro L a1 w1 hI hcl hpre hL K' hK'
        rw [if_pos (by rfl)]
        unfold Oper.wp
        obtain ⟨b1, e1, hx⟩ := hI.fact 4 (.box 16 regs) rfl (hpre ⟨4, .data⟩ (by simp) rfl)
        obtain ⟨m, w2, e12, hrun, hF⟩ := hI.lay (i := 5) (k := 114) (v := below43 b1) (l := .ins 114 regs) (hI.fact 0 (.own) rfl (hpre ⟨0, .data⟩ (by simp) rfl)) rfl (keys_alone 5 114 (by decide)) (fun m w' h1 h2 h3 => ⟨m, b1, h1, h3 _ _ hx, h2⟩)
        have ve12 := e12.eval
        have ve1 := e1.eval
        have vc : ∀ v, a1.eval (.const v) = v := fun _ => rfl
        have vf : ∀ f, a1.eval (.func f) = .func (.func f) #[] #[] := fun _ => rfl
        generalize a1.eval = E at *
        simp [execOp, ve12, ve1, hrun, go_sem, vc, vf, Result.andThen, Oper.upon]
        exact hK' _ _ hF
      · intro L a1 w1 hI hcl hpre hL K' hK'
        rw [if_pos (by rfl)]
        unfold Oper.wp
        have e7 : At a1 7 f42 := (hI.same 7 (by omega)).trans hb7
        have ve7 := e7.eval
        have vc : ∀ v, a1.eval (.const v) = v := fun _ => rfl
        have vf : ∀ f, a1.eval (.func f) = .func (.func f) #[] #[] := fun _ => rfl
        generalize a1.eval = E at *
        simp [execOp, ve7, go_sem, vc, vf, Result.andThen, Oper.upon]
        exact hK' _ _ (hI.next (i := 6) (l := .val 17 f42) (by omega) hI.bel (fun _ _ h => h) rfl (slots_alone 6 17 (by decide)) hL (At.mk _ (by rw [hI.size, hbs]; decide)))
      · intro L a1 w1 hI hcl hpre hL K' hK'
        rw [if_pos (by rfl)]
        unfold Oper.wp
        have e3 : At a1 3 (.pointer (some ⟨w.heap.size, 0, none⟩)) := (hI.same 3 (by omega)).trans hb3
        have ve3 := e3.eval
        have vc : ∀ v, a1.eval (.const v) = v := fun _ => rfl
        have vf : ∀ f, a1.eval (.func f) = .func (.func f) #[] #[] := fun _ => rfl
        generalize a1.eval = E at *
        simp [execOp, ve3, go_sem, vc, vf, Result.andThen, Oper.upon]
        exact hK' _ _ (hI.next (i := 7) (l := .val 18 (.pointer (some ⟨w.heap.size, 2, none⟩))) (by omega) hI.bel (fun _ _ h => h) rfl (slots_alone 7 18 (by decide)) hL (At.mk _ (by rw [hI.size, hbs]; decide)))
      · intro L a1 w1 hI hcl hpre hL K' hK'
        rw [if_pos (by rfl)]
        unfold Oper.wp
        have e1 : At a1 18 _ := hI.fact 7 (.val 18 (.pointer (some ⟨w.heap.size, 2, none⟩))) rfl (hpre ⟨7, .data⟩ (by simp) rfl)
        have hc := blk_cell (blk_below hI.bel hpb) 2
        simp at hc
        have ve1 := e1.eval
        have vc : ∀ v, a1.eval (.const v) = v := fun _ => rfl
        have vf : ∀ f, a1.eval (.func f) = .func (.func f) #[] #[] := fun _ => rfl
        generalize a1.eval = E at *
        simp [execOp, ve1, hc, go_sem, vc, vf, Result.andThen, Oper.upon]
        exact hK' _ _ (hI.next (i := 8) (l := .val 19 (.slice A ln cp)) (by omega) hI.bel (fun _ _ h => h) rfl (slots_alone 8 19 (by decide)) hL (At.mk _ (by rw [hI.size, hbs]; decide)))
      · intro L a1 w1 hI hcl hpre hL K' hK'
        rw [if_pos (by rfl)]
        unfold Oper.wp
        have e1 : At a1 19 _ := hI.fact 8 (.val 19 (.slice A ln cp)) rfl (hpre ⟨8, .data⟩ (by simp) rfl)
        have ve1 := e1.eval
        have vc : ∀ v, a1.eval (.const v) = v := fun _ => rfl
        have vf : ∀ f, a1.eval (.func f) = .func (.func f) #[] #[] := fun _ => rfl
        generalize a1.eval = E at *
        simp [execOp, ve1, go_sem, vc, vf, Result.andThen, Oper.upon]
        exact hK' _ _ (hI.next (i := 9) (l := .val 20 (.int .i64 ln)) (by omega) hI.bel (fun _ _ h => h) rfl (slots_alone 9 20 (by decide)) hL (At.mk _ (by rw [hI.size, hbs]; decide)))
      · intro L a1 w1 hI hcl hpre hL K' hK'
        rw [if_pos (by rfl)]
        unfold Oper.wp
        have e1 : At a1 17 _ := hI.fact 6 (.val 17 f42) rfl (hpre ⟨6, .data⟩ (by simp) rfl)
        have e2 : At a1 20 _ := hI.fact 9 (.val 20 (.int .i64 ln)) rfl (hpre ⟨9, .data⟩ (by simp) rfl)
        have ve1 := e1.eval
        have ve2 := e2.eval
        have vc : ∀ v, a1.eval (.const v) = v := fun _ => rfl
        have vf : ∀ f, a1.eval (.func f) = .func (.func f) #[] #[] := fun _ => rfl
        generalize a1.eval = E at *
        simp [execOp, ve1, ve2, f42, go_sem, vc, vf, Result.andThen, Oper.upon]
        refine (fits1_walk _ _).mono ?_
        rintro e w2 ⟨rfl, rfl⟩
        exact hK' _ _ (hI.next (i := 10) (l := .box 21 ln) (by omega) (hI.bel.alloc hI.bel.size _) (fun _ _ h => blk_alloc h _) rfl (slots_alone 10 21 (by decide)) hL ⟨_, At.mk _ (by rw [hI.size, hbs]; decide), alloc_at _ _⟩)
      · intro L a1 w1 hI hcl hpre hL K' hK'
        rw [if_pos (by rfl)]
        unfold Oper.wp
        obtain ⟨b1, e1, hx⟩ := hI.fact 10 (.box 21 ln) rfl (hpre ⟨10, .data⟩ (by simp) rfl)
        obtain ⟨m, w2, e12, hrun, hF⟩ := hI.lay (i := 11) (k := 106) (v := below43 b1) (l := .ins 106 ln) (hI.fact 0 (.own) rfl (hpre ⟨0, .data⟩ (by simp) rfl)) rfl (keys_alone 11 106 (by decide)) (fun m w' h1 h2 h3 => ⟨m, b1, h1, h3 _ _ hx, h2⟩)
        have ve12 := e12.eval
        have ve1 := e1.eval
        have vc : ∀ v, a1.eval (.const v) = v := fun _ => rfl
        have vf : ∀ f, a1.eval (.func f) = .func (.func f) #[] #[] := fun _ => rfl
        generalize a1.eval = E at *
        simp [execOp, ve12, ve1, hrun, go_sem, vc, vf, Result.andThen, Oper.upon]
        exact hK' _ _ hF
      · intro L a1 w1 hI hcl hpre hL K' hK'
        rw [if_pos (by rfl)]
        unfold Oper.wp
        have e7 : At a1 7 f42 := (hI.same 7 (by omega)).trans hb7
        have ve7 := e7.eval
        have vc : ∀ v, a1.eval (.const v) = v := fun _ => rfl
        have vf : ∀ f, a1.eval (.func f) = .func (.func f) #[] #[] := fun _ => rfl
        generalize a1.eval = E at *
        simp [execOp, ve7, go_sem, vc, vf, Result.andThen, Oper.upon]
        exact hK' _ _ (hI.next (i := 12) (l := .val 22 f42) (by omega) hI.bel (fun _ _ h => h) rfl (slots_alone 12 22 (by decide)) hL (At.mk _ (by rw [hI.size, hbs]; decide)))
      · intro L a1 w1 hI hcl hpre hL K' hK'
        rw [if_pos (by rfl)]
        unfold Oper.wp
        have e1 : At a1 2 _ := (hI.same 2 (by omega)).trans hb2
        have ve1 := e1.eval
        have vc : ∀ v, a1.eval (.const v) = v := fun _ => rfl
        have vf : ∀ f, a1.eval (.func f) = .func (.func f) #[] #[] := fun _ => rfl
        generalize a1.eval = E at *
        simp [execOp, ve1, go_sem, vc, vf, Result.andThen, Oper.upon]
        exact hK' _ _ (hI.next (i := 13) (l := .val 23 (.int .i64 pol)) (by omega) hI.bel (fun _ _ h => h) rfl (slots_alone 13 23 (by decide)) hL (At.mk _ (by rw [hI.size, hbs]; decide)))
      · intro L a1 w1 hI hcl hpre hL K' hK'
        rw [if_pos (by rfl)]
        unfold Oper.wp
        have e1 : At a1 22 _ := hI.fact 12 (.val 22 f42) rfl (hpre ⟨12, .data⟩ (by simp) rfl)
        have e2 : At a1 23 _ := hI.fact 13 (.val 23 (.int .i64 pol)) rfl (hpre ⟨13, .data⟩ (by simp) rfl)
        have ve1 := e1.eval
        have ve2 := e2.eval
        have vc : ∀ v, a1.eval (.const v) = v := fun _ => rfl
        have vf : ∀ f, a1.eval (.func f) = .func (.func f) #[] #[] := fun _ => rfl
        generalize a1.eval = E at *
        simp [execOp, ve1, ve2, f42, go_sem, vc, vf, Result.andThen, Oper.upon]
        refine (fits1_walk _ _).mono ?_
        rintro e w2 ⟨rfl, rfl⟩
        exact hK' _ _ (hI.next (i := 14) (l := .box 24 pol) (by omega) (hI.bel.alloc hI.bel.size _) (fun _ _ h => blk_alloc h _) rfl (slots_alone 14 24 (by decide)) hL ⟨_, At.mk _ (by rw [hI.size, hbs]; decide), alloc_at _ _⟩)
      · intro L a1 w1 hI hcl hpre hL K' hK'
        rw [if_pos (by rfl)]
        unfold Oper.wp
        obtain ⟨b1, e1, hx⟩ := hI.fact 14 (.box 24 pol) rfl (hpre ⟨14, .data⟩ (by simp) rfl)
        obtain ⟨m, w2, e12, hrun, hF⟩ := hI.lay (i := 15) (k := 112) (v := below43 b1) (l := .ins 112 pol) (hI.fact 0 (.own) rfl (hpre ⟨0, .data⟩ (by simp) rfl)) rfl (keys_alone 15 112 (by decide)) (fun m w' h1 h2 h3 => ⟨m, b1, h1, h3 _ _ hx, h2⟩)
        have ve12 := e12.eval
        have ve1 := e1.eval
        have vc : ∀ v, a1.eval (.const v) = v := fun _ => rfl
        have vf : ∀ f, a1.eval (.func f) = .func (.func f) #[] #[] := fun _ => rfl
        generalize a1.eval = E at *
        simp [execOp, ve12, ve1, hrun, go_sem, vc, vf, Result.andThen, Oper.upon]
        exact hK' _ _ hF
      · intro L a1 w1 hI hcl hpre hL K' hK'
        rw [if_pos (by rfl)]
        unfold Oper.wp
        obtain ⟨m, w2, e12, hrun, hF⟩ := hI.lay (i := 16) (k := 110) (v := .func (.func 44) #[] #[]) (l := .insv 110 (.func (.func 44) #[] #[])) (hI.fact 0 (.own) rfl (hpre ⟨0, .data⟩ (by simp) rfl)) rfl (keys_alone 16 110 (by decide)) (fun m w' h1 h2 h3 => ⟨m, h1, h2⟩)
        have ve12 := e12.eval
        have vc : ∀ v, a1.eval (.const v) = v := fun _ => rfl
        have vf : ∀ f, a1.eval (.func f) = .func (.func f) #[] #[] := fun _ => rfl
        generalize a1.eval = E at *
        simp [execOp, ve12, hrun, go_sem, vc, vf, Result.andThen, Oper.upon]
        exact hK' _ _ hF
      · intro L a1 w1 hI hcl hpre hL K' hK'
        rw [if_pos (by rfl)]
        unfold Oper.wp
        have e7 : At a1 7 f42 := (hI.same 7 (by omega)).trans hb7
        have ve7 := e7.eval
        have vc : ∀ v, a1.eval (.const v) = v := fun _ => rfl
        have vf : ∀ f, a1.eval (.func f) = .func (.func f) #[] #[] := fun _ => rfl
        generalize a1.eval = E at *
        simp [execOp, ve7, go_sem, vc, vf, Result.andThen, Oper.upon]
        exact hK' _ _ (hI.next (i := 17) (l := .val 25 f42) (by omega) hI.bel (fun _ _ h => h) rfl (slots_alone 17 25 (by decide)) hL (At.mk _ (by rw [hI.size, hbs]; decide)))
      · intro L a1 w1 hI hcl hpre hL K' hK'
        rw [if_pos (by rfl)]
        unfold Oper.wp
        have e1 : At a1 25 _ := hI.fact 17 (.val 25 f42) rfl (hpre ⟨17, .data⟩ (by simp) rfl)
        have ve1 := e1.eval
        have vc : ∀ v, a1.eval (.const v) = v := fun _ => rfl
        have vf : ∀ f, a1.eval (.func f) = .func (.func f) #[] #[] := fun _ => rfl
        generalize a1.eval = E at *
        simp [execOp, ve1, f42, go_sem, vc, vf, Result.andThen, Oper.upon]
        refine (fits1_walk _ _).mono ?_
        rintro e w2 ⟨rfl, rfl⟩
        exact hK' _ _ (hI.next (i := 18) (l := .box 26 1) (by omega) (hI.bel.alloc hI.bel.size _) (fun _ _ h => blk_alloc h _) rfl (slots_alone 18 26 (by decide)) hL ⟨_, At.mk _ (by rw [hI.size, hbs]; decide), alloc_at _ _⟩)
      · intro L a1 w1 hI hcl hpre hL K' hK'
        rw [if_pos (by rfl)]
        unfold Oper.wp
        obtain ⟨b1, e1, hx⟩ := hI.fact 18 (.box 26 1) rfl (hpre ⟨18, .data⟩ (by simp) rfl)
        obtain ⟨m, w2, e12, hrun, hF⟩ := hI.lay (i := 19) (k := 45) (v := below43 b1) (l := .ins 45 1) (hI.fact 0 (.own) rfl (hpre ⟨0, .data⟩ (by simp) rfl)) rfl (keys_alone 19 45 (by decide)) (fun m w' h1 h2 h3 => ⟨m, b1, h1, h3 _ _ hx, h2⟩)
        have ve12 := e12.eval
        have ve1 := e1.eval
        have vc : ∀ v, a1.eval (.const v) = v := fun _ => rfl
        have vf : ∀ f, a1.eval (.func f) = .func (.func f) #[] #[] := fun _ => rfl
        generalize a1.eval = E at *
        simp [execOp, ve12, ve1, hrun, go_sem, vc, vf, Result.andThen, Oper.upon]
        exact hK' _ _ hF
      · intro L a1 w1 hI hcl hpre hL K' hK'
        rw [if_pos (by rfl)]
        unfold Oper.wp
        obtain ⟨m, e12, _⟩ := hI.fact 0 (.own) rfl (hpre ⟨0, .data⟩ (by simp) rfl)
        have ve12 := e12.eval
        have vc : ∀ v, a1.eval (.const v) = v := fun _ => rfl
        have vf : ∀ f, a1.eval (.func f) = .func (.func f) #[] #[] := fun _ => rfl
        generalize a1.eval = E at *
        simp [execOp, ve12, go_sem, vc, vf, Result.andThen, Oper.upon]
        exact hK' _ _ (hI.next (i := 20) (l := .same 27) (by omega) hI.bel (fun _ _ h => h) rfl (slots_alone 20 27 (by decide)) hL ⟨_, e12.put (by decide), At.mk _ (by rw [hI.size, hbs]; decide)⟩)
      · intro L a1 w1 hI hcl hpre hL K' hK'
        rw [if_pos (by rfl)]
        unfold Oper.wp
        obtain ⟨m, e12, e27⟩ := hI.fact 20 (.same 27) rfl (hpre ⟨20, .data⟩ (by simp) rfl)
        have ve27 := e27.eval
        have vc : ∀ v, a1.eval (.const v) = v := fun _ => rfl
        have vf : ∀ f, a1.eval (.func f) = .func (.func f) #[] #[] := fun _ => rfl
        generalize a1.eval = E at *
        simp [execOp, ve27, go_sem, vc, vf, Result.andThen, Oper.upon]
        exact hK' _ _ (hI.next (i := 21) (l := .same 8) (by omega) hI.bel (fun _ _ h => h) rfl (slots_alone 21 8 (by decide)) hL ⟨_, e12.put (by decide), At.mk _ (by rw [hI.size, hbs]; decide)⟩)
    · intro L a1 w1 hI hall
      have hall' : ∀ i, i < 22 → L i = true := hall
      clear hall
      obtain ⟨m, h8, hM⟩ := may_of (hI.fact 21 (.same 8) rfl (hall' 21 (by omega))) (hI.fact 5 (.ins 114 regs) rfl (hall' 5 (by omega))) (hI.fact 11 (.ins 106 ln) rfl (hall' 11 (by omega))) (hI.fact 15 (.ins 112 pol) rfl (hall' 15 (by omega)))
        (hI.fact 16 (.insv 110 (.func (.func 44) #[] #[])) rfl (hall' 16 (by omega))) (hI.fact 19 (.ins 45 1) rfl (hall' 19 (by omega)))
      have hb9 : Below w.heap.size w w1 := hbel.trans (hI.bel.mono hbel.size)
      rename_i hJ hK
      have hfr := setAll_at a1.tmps [8, 12, 13, 14, 15, 16, 17, 18, 19, 20, 21, 22, 23, 24, 25, 26, 27] base hI.size (fun i hi => hI.same i (by simp at hi; omega))
      have h8v : a1.tmps.getD 8 undef = .map (some m) := h8.eval
      have hdf := hI.defers
      obtain ⟨tm, df⟩ := a1
      simp only at hfr h8v hdf
      subst hdf
      refine hK _ _ (hJ _ _ ⟨_, tm.getD 12 undef, tm.getD 13 undef, tm.getD 14 undef, tm.getD 15 undef, tm.getD 16 undef, tm.getD 17 undef, tm.getD 18 undef, tm.getD 19 undef, tm.getD 20 undef, tm.getD 21 undef, tm.getD 22 undef, tm.getD 23 undef, tm.getD 24 undef, tm.getD 25 undef, tm.getD 26 undef, tm.getD 27 undef, ⟨m, rfl, hM, blk_below hI.bel hib, hb9⟩, ?_⟩)
      rw [← h8v]
      refine congrArg (fun x => Act.mk x []) ?_
      refine hfr.symm.trans ?_
      rw [← hB.out]
      simp only [setAll, List.setIfInBounds_toArray, List.set_cons_zero, List.set_cons_succ]
  case rest =>
    obtain ⟨m, rfl, hM, hi, hb⟩ := hcut
    have c0 := blk_cell hi 0
    have c1 := blk_cell hi 1
    have c2 := blk_cell hi 2
    have c3 := blk_cell hi 3
    have c4 := blk_cell hi 4
    have c5 := blk_cell hi 5
    simp at c0 c1 c2 c3 c4 c5
    have HI := Lib.hid hi
    clear hi
    by_cases he : shapeOf op = ⟨#[]⟩
    · have HD := Lib.hid (show fitsOk regs ln pol ⟨op, a, b, c, n, s⟩ = false by unfold fitsOk; simp only [he]; rfl)
      have hs := shape_walk op wc
      rw [he] at hs
      have HS := Lib.hid hs
      clear hs he
      go_wp2_with fail
      refine HS.out.mono ?_
      rintro e w2 ⟨rfl, hb2⟩
      go_wp2
      go_ret
      exact ⟨by rw [HD.out]; rfl, hb.trans (hb2.mono hb.size)⟩
    · have hs := shape_walk op wc
      have HS := Lib.hid hs
      obtain ⟨l1, l2, l3, l4⟩ := letters op he
      have HE := Lib.hid he
      clear hs he
      obtain ⟨sh, hsh⟩ : ∃ sh, shapeOf op = sh := ⟨_, rfl⟩
      rw [hsh] at HS l1 l2 l3 l4 HE
      replace hsh := Lib.hid hsh
      have HL2 := Lib.hid l2
      have HL3 := Lib.hid l3
      clear l2 l3
      go_wp2_with fail
      refine HS.out.mono ?_
      rintro e w2 ⟨rfl, hb2⟩
      replace c1 := cell_later hb2 c1
      replace c2 := cell_later hb2 c2
      replace c3 := cell_later hb2 c3
      replace c4 := cell_later hb2 c4
      replace c5 := cell_later hb2 c5
      clear c0
      have HSH := hsh
      have HSZ := Lib.hid l1
      have hM2' : May w2 m regs ln pol := May.keep hM hb2
      obtain ⟨b1, b2, b3, b4, x1, x2, x3, x4, hM2⟩ := hM2'
      have x1 := Lib.hid x1; have x2 := Lib.hid x2; have x3 := Lib.hid x3; have x4 := Lib.hid x4
      have HB2 := Lib.hid (hb.trans (hb2.mono hb.size))
      have hidx : Hid (∀ k : Nat, k < 4 → (Instr.index 90 (.agg #[.int .i64 a, .int .i64 b, .int .i64 c, .int .i64 n]) (.int .i64 k)).run Tryd.prog w2 = .ok (.int .i64 (nth a b c n k)) w2) := by
        intro k hk
        rcases k with _ | _ | _ | _ | k
        · kernel_rfl
        · kernel_rfl
        · kernel_rfl
        · kernel_rfl
        · omega
      have hstr : Hid (∀ k : Nat, k < 4 → (Instr.index 9 (.string sh) (.int .i64 k)).run Tryd.prog w2 = .ok (.int .u8 (letter sh k)) w2) := fun k hk => idx_str sh k (by omega) w2
      clear hM hb hb2
      go_wp2
      go_loop [10, 11, 42] (fun _ _ i => ∃ k : Nat, i = .int .i64 k ∧ k ≤ 4 ∧ Hid (∀ j < k, mayOk regs ln pol (letter sh j) (nth a b c n j) = true)) (fun _ _ i => 4 - (intOf i).toNat)
      case atStart => exact ⟨0, rfl, by omega, fun j hj => by omega⟩
      case round =>
        obtain ⟨k, rfl, hk, HA⟩ := hrel
        by_cases hk4 : k < 4
        · have hix := hidx.out k hk4
          have hsi := hstr.out k hk4
          have hmem := HL2.out k hk4
          obtain ⟨v, hv⟩ : ∃ v, nth a b c n k = v := ⟨_, rfl⟩
          obtain ⟨lt, hlt⟩ : ∃ lt, letter sh k = lt := ⟨_, rfl⟩
          rw [hv] at hix
          rw [hlt] at hsi hmem
          have HV := Lib.hid hv
          have HLT := Lib.hid hlt
          clear hv hlt
          simp only [List.mem_cons, List.not_mem_nil, or_false] at hmem
          rcases hmem with rfl | rfl | rfl | rfl | rfl
          · have hlk : (Instr.lookup 88 (.map (some m)) (.int .u8 114) false).run Tryd.prog w2 = .ok (.func (.func 43) #[] #[.pointer (some ⟨b1, 0, none⟩)]) w2 := hM2.found under88 under5 (by simp [below43])
            rw [show ((114 : Nat) : Int) = 114 from rfl] at hsi
            have hmo : mayOk regs ln pol 114 v = belowOk regs v := rfl
            have HC := Lib.hid (fits11_walk v regs b1 w2 (blk_cell x1.out 0))
            by_cases hok : belowOk regs v = true
            · rw [hok] at HC
              go_wp2_with fail
              refine HC.out.mono ?_
              rintro e w3 ⟨rfl, rfl⟩
              go_wp2
              go_round
              case rel => exact ⟨k + 1, by go_num, by omega, fun j hj => by
                by_cases hjk : j < k
                · exact HA.out j hjk
                · obtain rfl : j = k := by omega
                  rw [HLT.out, HV.out, hmo]; exact hok⟩
              case measure => simp [intOf]; omega
            · rw [Bool.not_eq_true] at hok
              rw [hok] at HC
              have HD := Lib.hid (fits_false (regs := regs) (len := ln) (pol := pol) (op := op) (a := a) (b := b) (c := c) (n := n) (s := s) HSH.out HSZ.out hk4 (by rw [HLT.out, HV.out, hmo]; exact hok))
              go_wp2_with fail
              refine HC.out.mono ?_
              rintro e w3 ⟨rfl, rfl⟩
              go_wp2
              go_ret
              exact ⟨by rw [HD.out]; rfl, HB2.out⟩
          · have hlk : (Instr.lookup 88 (.map (some m)) (.int .u8 106) false).run Tryd.prog w2 = .ok (.func (.func 43) #[] #[.pointer (some ⟨b2, 0, none⟩)]) w2 := hM2.found under88 under5 (by simp [below43])
            rw [show ((106 : Nat) : Int) = 106 from rfl] at hsi
            have hmo : mayOk regs ln pol 106 v = belowOk ln v := rfl
            have HC := Lib.hid (fits11_walk v ln b2 w2 (blk_cell x2.out 0))
            by_cases hok : belowOk ln v = true
            · rw [hok] at HC
              go_wp2_with fail
              refine HC.out.mono ?_
              rintro e w3 ⟨rfl, rfl⟩
              go_wp2
              go_round
              case rel => exact ⟨k + 1, by go_num, by omega, fun j hj => by
                by_cases hjk : j < k
                · exact HA.out j hjk
                · obtain rfl : j = k := by omega
                  rw [HLT.out, HV.out, hmo]; exact hok⟩
              case measure => simp [intOf]; omega
            · rw [Bool.not_eq_true] at hok
              rw [hok] at HC
              have HD := Lib.hid (fits_false (regs := regs) (len := ln) (pol := pol) (op := op) (a := a) (b := b) (c := c) (n := n) (s := s) HSH.out HSZ.out hk4 (by rw [HLT.out, HV.out, hmo]; exact hok))
              go_wp2_with fail
              refine HC.out.mono ?_
              rintro e w3 ⟨rfl, rfl⟩
              go_wp2
              go_ret
              exact ⟨by rw [HD.out]; rfl, HB2.out⟩
          · have hlk : (Instr.lookup 88 (.map (some m)) (.int .u8 112) false).run Tryd.prog w2 = .ok (.func (.func 43) #[] #[.pointer (some ⟨b3, 0, none⟩)]) w2 := hM2.found under88 under5 (by simp [below43])
            rw [show ((112 : Nat) : Int) = 112 from rfl] at hsi
            have hmo : mayOk regs ln pol 112 v = belowOk pol v := rfl
            have HC := Lib.hid (fits11_walk v pol b3 w2 (blk_cell x3.out 0))
            by_cases hok : belowOk pol v = true
            · rw [hok] at HC
              go_wp2_with fail
              refine HC.out.mono ?_
              rintro e w3 ⟨rfl, rfl⟩
              go_wp2
              go_round
              case rel => exact ⟨k + 1, by go_num, by omega, fun j hj => by
                by_cases hjk : j < k
                · exact HA.out j hjk
                · obtain rfl : j = k := by omega
                  rw [HLT.out, HV.out, hmo]; exact hok⟩
              case measure => simp [intOf]; omega
            · rw [Bool.not_eq_true] at hok
              rw [hok] at HC
              have HD := Lib.hid (fits_false (regs := regs) (len := ln) (pol := pol) (op := op) (a := a) (b := b) (c := c) (n := n) (s := s) HSH.out HSZ.out hk4 (by rw [HLT.out, HV.out, hmo]; exact hok))
              go_wp2_with fail
              refine HC.out.mono ?_
              rintro e w3 ⟨rfl, rfl⟩
              go_wp2
              go_ret
              exact ⟨by rw [HD.out]; rfl, HB2.out⟩
          · have hlk : (Instr.lookup 88 (.map (some m)) (.int .u8 110) false).run Tryd.prog w2 = .ok (.func (.func 44) #[] #[]) w2 := hM2.found under88 under5 (by simp [below43])
            rw [show ((110 : Nat) : Int) = 110 from rfl] at hsi
            have hmo : mayOk regs ln pol 110 v = true := rfl
            have HC := Lib.hid (fits2_walk v w2)
            go_wp2_with fail
            refine HC.out.mono ?_
            rintro e w3 ⟨rfl, rfl⟩
            go_wp2
            go_round
            case rel => exact ⟨k + 1, by go_num, by omega, fun j hj => by
              by_cases hjk : j < k
              · exact HA.out j hjk
              · obtain rfl : j = k := by omega
                rw [HLT.out, HV.out, hmo]⟩
            case measure => simp [intOf]; omega
          · have hlk : (Instr.lookup 88 (.map (some m)) (.int .u8 45) false).run Tryd.prog w2 = .ok (.func (.func 43) #[] #[.pointer (some ⟨b4, 0, none⟩)]) w2 := hM2.found under88 under5 (by simp [below43])
            rw [show ((45 : Nat) : Int) = 45 from rfl] at hsi
            have hmo : mayOk regs ln pol 45 v = belowOk 1 v := rfl
            have HC := Lib.hid (fits11_walk v 1 b4 w2 (blk_cell x4.out 0))
            by_cases hok : belowOk 1 v = true
            · rw [hok] at HC
              go_wp2_with fail
              refine HC.out.mono ?_
              rintro e w3 ⟨rfl, rfl⟩
              go_wp2
              go_round
              case rel => exact ⟨k + 1, by go_num, by omega, fun j hj => by
                by_cases hjk : j < k
                · exact HA.out j hjk
                · obtain rfl : j = k := by omega
                  rw [HLT.out, HV.out, hmo]; exact hok⟩
              case measure => simp [intOf]; omega
            · rw [Bool.not_eq_true] at hok
              rw [hok] at HC
              have HD := Lib.hid (fits_false (regs := regs) (len := ln) (pol := pol) (op := op) (a := a) (b := b) (c := c) (n := n) (s := s) HSH.out HSZ.out hk4 (by rw [HLT.out, HV.out, hmo]; exact hok))
              go_wp2_with fail
              refine HC.out.mono ?_
              rintro e w3 ⟨rfl, rfl⟩
              go_wp2
              go_ret
              exact ⟨by rw [HD.out]; rfl, HB2.out⟩
        · obtain rfl : k = 4 := by omega
          have hs4 := idx_str sh 4 (by omega) w2
          obtain ⟨lt, hlt⟩ : ∃ lt, letter sh 4 = lt := ⟨_, rfl⟩
          have hmem := HL3.out
          rw [hlt] at hs4 hmem
          have HA0 := HA.out 0 (by omega)
          have HA1 := HA.out 1 (by omega)
          have HA2 := HA.out 2 (by omega)
          have HA3 := HA.out 3 (by omega)
          simp only [nth] at HA0 HA1 HA2 HA3
          have HF := fits_unfold (regs := regs) (len := ln) (pol := pol) (a := a) (b := b) (c := c) (n := n) (s := s) HSH.out HSZ.out
          rw [HA0, HA1, HA2, HA3, hlt] at HF
          simp only [Bool.and_self, Bool.true_and] at HF
          clear HA0 HA1 HA2 HA3 hlt
          simp only [List.mem_cons, List.not_mem_nil, or_false] at hmem
          rcases hmem with rfl | rfl
          · rw [if_pos rfl] at HF
            rw [show ((115 : Nat) : Int) = 115 from rfl, show ((4 : Nat) : Int) = 4 from rfl] at hs4
            have HC := Lib.hid (named_walk s w2)
            by_cases hnm : namedOk s = true
            · rw [hnm] at HC HF
              have HD := Lib.hid HF
              clear HF
              go_wp2_with fail
              refine HC.out.mono ?_
              rintro e w3 ⟨rfl, rfl⟩
              go_wp2
              go_ret
              exact ⟨by rw [HD.out]; rfl, HB2.out⟩
            · rw [Bool.not_eq_true] at hnm
              rw [hnm] at HC HF
              have HD := Lib.hid HF
              clear HF
              go_wp2_with fail
              refine HC.out.mono ?_
              rintro e w3 ⟨rfl, rfl⟩
              go_wp2
              go_ret
              exact ⟨by rw [HD.out]; rfl, HB2.out⟩
          · rw [if_neg (by decide), size_list] at HF
            rw [show ((45 : Nat) : Int) = 45 from rfl, show ((4 : Nat) : Int) = 4 from rfl] at hs4
            have HD := Lib.hid HF
            clear HF
            go_wp2
            go_ret
            exact ⟨by rw [HD.out]; rfl, HB2.out⟩
end Go.Proofs.YtckooioikcenmaaDoor

/- Walks: the closures of next, the second and the third. Conditions: sizes a machine can have. -/
import Derived.Test.YthehpafkaefohaaDoorCkM21
import Derived.Test.YthehpafkaefohaaDoorCkM18
namespace Go.Proofs.YthehpafkaefohaaDoor
open Go.RowKit
set_option maxRecDepth 20000 in
set_option maxHeartbeats 2000000 in
theorem next3_any {w : World} {d l : Nat} {S : List Nat} {dk : DkSt} {lg : LgSt} (h : LB w d l dk lg S) (hsz : lg.firsts.length ≤ 1000000) (bl b1 : Nat) (n : Int) (hb : w.cell? ⟨bl, 0, none⟩ = some (.pointer (some ⟨l, 0, none⟩))) (xb : bl ∉ S) (hn : w.cell? ⟨b1, 0, none⟩ = some (.int .i64 n)) (xn : b1 ∉ S) :
    Calls Tryd.prog 47 #[.pointer (some ⟨bl, 0, none⟩), .pointer (some ⟨b1, 0, none⟩)] w (SPostL d l S (dk, 0) { lg with firsts := lg.firsts ++ [n] } w) := by
  obtain ⟨v, u, h1, h2, rfl⟩ := h
  obtain ⟨W1, hW1⟩ : ∃ x, (w.alloc (.cells #[.int .i64 n] 3)).drew = x := ⟨_, rfl⟩
  have hbd : Below w.heap.size w W1 := by rw [← hW1]; exact (below1 w _).drew
  have k1 : W1.heap[w.heap.size]? = some (.cells #[.int .i64 n] 3) := by rw [← hW1]; exact alloc_at w _
  have h2' := h2.below hbd
  obtain ⟨A', c', w', hr, ho, hc, hnr⟩ := push_run h2'.own hsz w.heap.size n k1 54
  have hcw : ChgS (u.ownBlock.toList) w w' := (ChgS.of_below (S := u.ownBlock.toList) hbd).trans hc (fun x hx => .inl hx)
  have hnw : NR u (.slice A' (lg.firsts.length + 1) c') w := fun k hk => (hnr k hk).imp id (fun h => Nat.le_trans hbd.size h)
  have hst := LStep.firsts h1 h2 hcw ho hnw
  have hll : l < w.heap.size := blk_lt h2.blk
  have hlb : w'.heap[l]? = w.heap[l]? := hcw.block l hll (fun hm => h2.l_ne l (by simpa using hm) rfl)
  have t2 := blk_cell (hlb.trans h2.blk) 2
  have t3 := blk_free (hlb.trans h2.blk) 2
  have c2 := blk_cell h2.blk 2
  simp at t2 c2
  have s1 : w'.cell? ⟨bl, 0, none⟩ = some (.pointer (some ⟨l, 0, none⟩)) := hcw.cell hb (fun hm => xb (List.mem_append_right _ (List.mem_cons_of_mem _ hm)))
  have a2 : (w.alloc (.cells #[.int .i64 n] 3)).cell? ⟨l, 2, none⟩ = some u := cell_later (below1 w _) c2
  have a1 : (w.alloc (.cells #[.int .i64 n] 3)).cell? ⟨bl, 0, none⟩ = some (.pointer (some ⟨l, 0, none⟩)) := cell_later (below1 w _) hb
  obtain ⟨A, c, rfl⟩ := h2.own.form
  have HST := Lib.hid hst
  have mixed : Tryd.prog.follows .mixedOrders = true := by kernel_rfl
  rw [← hW1] at hr
  clear hst h1 h2 h2' hbd k1 ho hc hnr hcw hnw hlb xb xn hll hW1
  go_enter Tryd.func47, Tryd.ntmps47
  go_upto_region 1 with fail
  go_region_law_o (refine step_append_runI rfl _ _ 54 54 rfl (.slice A lg.firsts.length c) (.slice (some ⟨w.heap.size, 0, none⟩) 1 1) (by simp [Act.eval]) (by simp [Act.eval]) hr ?_)
  all_goals (
    go_wp2
    exact bodyPost_ret (v := .int .i64 0) (by simp [results]) rfl ⟨rfl, HST.out⟩)
end Go.Proofs.YthehpafkaefohaaDoor

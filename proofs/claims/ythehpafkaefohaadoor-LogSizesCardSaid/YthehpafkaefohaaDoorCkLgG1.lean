/- Walks: Write of a log that is over, and of a batch that may not be. Conditions: sizes a machine can have. -/
import Derived.Test.YthehpafkaefohaaDoorCkLgF9
import Derived.Test.YthehpafkaefohaaDoorCkM18
namespace Go.Proofs.YthehpafkaefohaaDoor
open Go.RowKit
theorem LStep.last {d l : Nat} {S : List Nat} {dk : DkSt} {lg : LgSt} {w w1 : World} (h : LStep d l S dk lg w w1) (n : Int) : LStep d l S dk { lg with last := n } w (w1.setCell ⟨l, 3, none⟩ (.int .i64 n)) := by
  obtain ⟨S', h1, h2⟩ := h
  obtain ⟨a, b⟩ := h1.set (fun u hu => hu.set_last n)
  exact ⟨S', a, h2.trans b⟩
def WrP (d l : Nat) (S : List Nat) (r : DkSt × LgSt × Int × Int) (w : World) (e : Ending) (w' : World) : Prop := e = .returned (.tuple #[.int .i64 r.2.2.1, .int .i64 r.2.2.2]) ∧ LStep d l S r.1 r.2.1 w w'
set_option maxRecDepth 20000 in
set_option maxHeartbeats 2000000 in
theorem write_over {w : World} {d l : Nat} {S : List Nat} {dk : DkSt} {lg : LgSt} (h : LB w d l dk lg S) (ho : lg.over = true) (v : Value) (yss : List (List UInt8)) : Calls Tryd.prog 10 #[.pointer (some ⟨l, 0, none⟩), v] w (WrP d l S (lWrite dk lg yss) w) := by
  have hq : lWrite dk lg yss = (dk, lg, 0, 17) := by unfold lWrite; rw [if_pos ho]
  rw [hq]
  obtain ⟨W1, hW1⟩ : ∃ x, w.alloc (.cells #[.pointer (some ⟨l, 0, none⟩)] 26) = x := ⟨_, rfl⟩
  have hb1 : Below w.heap.size w W1 := by rw [← hW1]; exact below1 w _
  have hU := up_any (h.below hb1)
  rw [show upE lg = 17 by unfold upE; rw [if_pos ho]] at hU
  have HU := Lib.hid hU
  have HP : Hid (WrP d l S (dk, lg, 0, 17) w (.returned (.tuple #[.int .i64 0, .int .i64 17])) W1) := ⟨rfl, (LStep.refl h).below hb1⟩
  have k1 : W1.heap[w.heap.size]? = some (.cells #[.pointer (some ⟨l, 0, none⟩)] 26) := by rw [← hW1]; exact alloc_at _ _
  have e1 := blk_cell k1 0
  simp at e1
  clear h ho hq hb1 hU k1
  go_enter Tryd.func10, Tryd.ntmps10
  go_upto_region 1 with fail
  clear hW1
  go_wp2_with fail
  refine HU.out.mono ?_
  rintro e w2 ⟨rfl, hw⟩
  subst hw
  go_wp2
  exact bodyPost_ret (v := .tuple #[.int .i64 0, .int .i64 17]) (by simp [results]) rfl HP.out
set_option maxRecDepth 20000 in
set_option maxHeartbeats 2000000 in
theorem write_bad {w : World} {d l : Nat} {S : List Nat} {dk : DkSt} {lg : LgSt} (h : LB w d l dk lg S) (ho : lg.over = false) (hlo : 0 ≤ lg.last) (hhi : lg.last ≤ 2000000000000000000) (v : Value) (yss : List (List UInt8)) (hr : RdL w v yss) (hy : ∀ y ∈ yss, y.length ≤ 100000000000) (hE : batchE (lg.last + 1) yss ≠ 0) : Calls Tryd.prog 10 #[.pointer (some ⟨l, 0, none⟩), v] w (WrP d l S (lWrite dk lg yss) w) := by
  obtain ⟨q, hqq⟩ : ∃ q, batchE (lg.last + 1) yss = q := ⟨_, rfl⟩
  have hq : lWrite dk lg yss = (dk, lg, 0, q) := by unfold lWrite; rw [if_neg (by simp [ho]), if_pos hE, hqq]
  rw [hq]
  rw [hqq] at hE
  obtain ⟨W1, hW1⟩ : ∃ x, w.alloc (.cells #[.pointer (some ⟨l, 0, none⟩)] 26) = x := ⟨_, rfl⟩
  have hb1 : Below w.heap.size w W1 := by rw [← hW1]; exact below1 w _
  have hU := up_any (h.below hb1)
  rw [show upE lg = 0 by unfold upE; rw [if_neg (by simp [ho])]] at hU
  have HU := Lib.hid hU
  have HL1 : Hid (LStep d l S dk lg w W1) := (LStep.refl h).below hb1
  have k1 : W1.heap[w.heap.size]? = some (.cells #[.pointer (some ⟨l, 0, none⟩)] 26) := by rw [← hW1]; exact alloc_at _ _
  have e1 := blk_cell k1 0
  simp at e1
  obtain ⟨u, hbl, _⟩ := (h.below hb1).cells
  have c3 := blk_cell hbl 3
  simp at c3
  have HC := Lib.hid (bytes_any (lg.last + 1) v yss W1 (hr.below hb1) hy)
  unfold BPost at HC
  rw [hqq] at HC
  obtain ⟨A, c, rfl, _, _⟩ := hr.form
  have hqe : (q == 0) = false := by simpa using hE
  have hqn : (q != 0) = true := by simpa using hE
  clear h ho hq hb1 hU k1 hbl hr hy hqq
  go_enter Tryd.func10, Tryd.ntmps10
  go_upto_region 1 with fail
  clear hW1
  go_wp2_with fail
  refine HU.out.mono ?_
  rintro e w2 ⟨rfl, hw⟩
  subst hw
  go_wp2_with fail
  refine HC.out.mono ?_
  rintro e w2 ⟨z, rfl, _, hb2⟩
  have HL2 := Lib.hid (HL1.out.below hb2)
  clear hb2
  go_wp2
  exact bodyPost_ret (v := .tuple #[.int .i64 0, .int .i64 q]) (by simp [results]) rfl ⟨rfl, HL2.out⟩
end Go.Proofs.YthehpafkaefohaaDoor

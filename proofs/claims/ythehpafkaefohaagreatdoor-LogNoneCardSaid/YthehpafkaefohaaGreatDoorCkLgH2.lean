/- LogNone walked whole. Conditions: the library's variables read as they are laid. -/
import Derived.Test.YthehpafkaefohaaGreatDoorCkLgH1
import Derived.LoopN
namespace Go.Proofs.YthehpafkaefohaaGreatDoor
open Go.RowKit
/-- a log that neither Begin nor Resume made -/
def NoLog (w : World) (p : Value) : Prop := p = .pointer none ∨ ∃ b, p = .pointer (some ⟨b, 0, none⟩) ∧ w.heap[b]? = some (.cells #[.pointer none, .int .i64 0, .slice none 0 0, .int .i64 0, .int .i64 0, .bool false] 27)
theorem NoLog.below {w w' : World} {p : Value} (h : NoLog w p) (hb : Below w.heap.size w w') : NoLog w' p := by
  rcases h with h | ⟨b, h, h1⟩
  · exact .inl h
  · exact .inr ⟨b, h, blk_below hb h1⟩
set_option maxRecDepth 20000 in
set_option maxHeartbeats 1000000 in
theorem up_none {w : World} {p : Value} (h : NoLog w p) : Calls Tryz.prog 63 #[p] w fun e w' => e = .returned (.int .i64 1) ∧ w = w' := by
  rcases h with rfl | ⟨b, rfl, hb⟩
  · go_enter Tryz.func63, Tryz.ntmps63
    go_wp2
    exact bodyPost_ret (v := .int .i64 1) (by simp [results]) rfl ⟨rfl, rfl⟩
  · have c0 := blk_cell hb 0
    have c2 := blk_cell hb 2
    have c3 := blk_cell hb 3
    have c4 := blk_cell hb 4
    have c5 := blk_cell hb 5
    simp at c0 c2 c3 c4 c5
    clear hb
    go_enter Tryz.func63, Tryz.ntmps63
    go_wp2
    exact bodyPost_ret (v := .int .i64 1) (by simp [results]) rfl ⟨rfl, rfl⟩
set_option maxRecDepth 20000 in
set_option maxHeartbeats 1000000 in
theorem last_none {w : World} {p : Value} (h : NoLog w p) : Calls Tryz.prog 17 #[p] w fun e w' => e = .returned (.int .i64 0) ∧ w = w' := by
  rcases h with rfl | ⟨b, rfl, hb⟩
  · go_enter Tryz.func17, Tryz.ntmps17
    go_wp2
    exact bodyPost_ret (v := .int .i64 0) (by simp [results]) rfl ⟨rfl, rfl⟩
  · have c0 := blk_cell hb 0
    have c2 := blk_cell hb 2
    have c3 := blk_cell hb 3
    have c4 := blk_cell hb 4
    have c5 := blk_cell hb 5
    simp at c0 c2 c3 c4 c5
    clear hb
    go_enter Tryz.func17, Tryz.ntmps17
    go_wp2
    exact bodyPost_ret (v := .int .i64 0) (by simp [results]) rfl ⟨rfl, rfl⟩
set_option maxRecDepth 20000 in
set_option maxHeartbeats 1000000 in
theorem acked_none {w : World} {p : Value} (h : NoLog w p) : Calls Tryz.prog 18 #[p] w fun e w' => e = .returned (.int .i64 0) ∧ w = w' := by
  rcases h with rfl | ⟨b, rfl, hb⟩
  · go_enter Tryz.func18, Tryz.ntmps18
    go_wp2
    exact bodyPost_ret (v := .int .i64 0) (by simp [results]) rfl ⟨rfl, rfl⟩
  · have c0 := blk_cell hb 0
    have c2 := blk_cell hb 2
    have c3 := blk_cell hb 3
    have c4 := blk_cell hb 4
    have c5 := blk_cell hb 5
    simp at c0 c2 c3 c4 c5
    clear hb
    go_enter Tryz.func18, Tryz.ntmps18
    go_wp2
    exact bodyPost_ret (v := .int .i64 0) (by simp [results]) rfl ⟨rfl, rfl⟩
set_option maxRecDepth 20000 in
set_option maxHeartbeats 1000000 in
theorem over_none {w : World} {p : Value} (h : NoLog w p) : Calls Tryz.prog 20 #[p] w fun e w' => e = .returned (.bool false) ∧ w = w' := by
  rcases h with rfl | ⟨b, rfl, hb⟩
  · go_enter Tryz.func20, Tryz.ntmps20
    go_wp2
    exact bodyPost_ret (v := .bool false) (by simp [results]) rfl ⟨rfl, rfl⟩
  · have c0 := blk_cell hb 0
    have c2 := blk_cell hb 2
    have c3 := blk_cell hb 3
    have c4 := blk_cell hb 4
    have c5 := blk_cell hb 5
    simp at c0 c2 c3 c4 c5
    clear hb
    go_enter Tryz.func20, Tryz.ntmps20
    go_wp2
    exact bodyPost_ret (v := .bool false) (by simp [results]) rfl ⟨rfl, rfl⟩
set_option maxRecDepth 20000 in
set_option maxHeartbeats 1000000 in
theorem files_none {w : World} {p : Value} (h : NoLog w p) : Calls Tryz.prog 19 #[p] w fun e w' => e = .returned (.slice none 0 0) ∧ w = w' := by
  rcases h with rfl | ⟨b, rfl, hb⟩
  · go_enter Tryz.func19, Tryz.ntmps19
    go_wp2
    exact bodyPost_ret (v := .slice none 0 0) (by simp [results]) rfl ⟨rfl, rfl⟩
  · have c0 := blk_cell hb 0
    have c2 := blk_cell hb 2
    have c3 := blk_cell hb 3
    have c4 := blk_cell hb 4
    have c5 := blk_cell hb 5
    simp at c0 c2 c3 c4 c5
    clear hb
    go_enter Tryz.func19, Tryz.ntmps19
    go_wp2
    refine wp_loop_rounds 1 ?_
    rw [rounds_succ]
    go_wp2
    exact bodyPost_ret (v := .slice none 0 0) (by simp [results]) rfl ⟨rfl, rfl⟩
set_option maxRecDepth 20000 in
set_option maxHeartbeats 1000000 in
theorem write_none {w : World} {p : Value} (h : NoLog w p) (A : Option Addr) (n c : Nat) : Calls Tryz.prog 14 #[p, .slice A n c] w fun e w' => e = .returned (.tuple #[.int .i64 0, .int .i64 1]) ∧ Below w.heap.size w w' := by
  obtain ⟨W1, hW1⟩ : ∃ x, w.alloc (.cells #[p] 23) = x := ⟨_, rfl⟩
  have hb1 : Below w.heap.size w W1 := by rw [← hW1]; exact below1 w _
  have HU := Lib.hid (up_none (h.below hb1))
  have k1 : W1.heap[w.heap.size]? = some (.cells #[p] 23) := by rw [← hW1]; exact alloc_at _ _
  have e1 := blk_cell k1 0
  simp at e1
  have HB1 := Lib.hid hb1
  clear hb1 k1
  rcases h with rfl | ⟨b, rfl, _⟩
  all_goals (
    go_enter Tryz.func14, Tryz.ntmps14
    go_upto_region 1 with fail
    clear hW1
    go_wp2_with fail
    refine HU.out.mono ?_
    rintro e w2 ⟨rfl, hw⟩
    subst hw
    go_wp2
    exact bodyPost_ret (v := .tuple #[.int .i64 0, .int .i64 1]) (by simp [results]) rfl ⟨rfl, HB1.out⟩)
set_option maxRecDepth 20000 in
set_option maxHeartbeats 1000000 in
theorem trim_none {w : World} {p : Value} (h : NoLog w p) (n : Int) : Calls Tryz.prog 15 #[p, .int .i64 n] w fun e w' => e = .returned (.tuple #[.slice none 0 0, .int .i64 1]) ∧ Below w.heap.size w w' := by
  obtain ⟨W1, hW1⟩ : ∃ x, w.alloc (.cells #[p] 23) = x := ⟨_, rfl⟩
  have hb1 : Below w.heap.size w W1 := by rw [← hW1]; exact below1 w _
  have HU := Lib.hid (up_none (h.below hb1))
  have k1 : W1.heap[w.heap.size]? = some (.cells #[p] 23) := by rw [← hW1]; exact alloc_at _ _
  have e1 := blk_cell k1 0
  simp at e1
  have HB1 := Lib.hid hb1
  clear hb1 k1
  rcases h with rfl | ⟨b, rfl, _⟩
  all_goals (
    go_enter Tryz.func15, Tryz.ntmps15
    go_upto_region 1 with fail
    clear hW1
    go_wp2_with fail
    refine HU.out.mono ?_
    rintro e w2 ⟨rfl, hw⟩
    subst hw
    go_wp2
    exact bodyPost_ret (v := .tuple #[.slice none 0 0, .int .i64 1]) (by simp [results]) rfl ⟨rfl, HB1.out⟩)
set_option maxRecDepth 20000 in
set_option maxHeartbeats 1000000 in
theorem sync_none {w : World} {p : Value} (h : NoLog w p)  : Calls Tryz.prog 16 #[p] w fun e w' => e = .returned (.int .i64 1) ∧ Below w.heap.size w w' := by
  obtain ⟨W1, hW1⟩ : ∃ x, w.alloc (.cells #[p] 23) = x := ⟨_, rfl⟩
  have hb1 : Below w.heap.size w W1 := by rw [← hW1]; exact below1 w _
  have HU := Lib.hid (up_none (h.below hb1))
  have k1 : W1.heap[w.heap.size]? = some (.cells #[p] 23) := by rw [← hW1]; exact alloc_at _ _
  have e1 := blk_cell k1 0
  simp at e1
  have HB1 := Lib.hid hb1
  clear hb1 k1
  rcases h with rfl | ⟨b, rfl, _⟩
  all_goals (
    go_enter Tryz.func16, Tryz.ntmps16
    go_upto_region 1 with fail
    clear hW1
    go_wp2_with fail
    refine HU.out.mono ?_
    rintro e w2 ⟨rfl, hw⟩
    subst hw
    go_wp2
    exact bodyPost_ret (v := .int .i64 1) (by simp [results]) rfl ⟨rfl, HB1.out⟩)
set_option maxRecDepth 20000 in
set_option maxHeartbeats 4000000 in
theorem logNone_any (A : Option Addr) (m c : Nat) (n : Int) (w : World) (hg : GOK w) : Calls Tryz.prog 3 #[.slice A m c, .int .i64 n] w fun e w' => e = .returned (.bool true) ∧ Below w.heap.size w w' := by
  obtain ⟨W1, hW1⟩ : ∃ x, w.alloc (.cells #[.pointer none, .int .i64 0, .slice none 0 0, .int .i64 0, .int .i64 0, .bool false] 27) = x := ⟨_, rfl⟩
  have hb1 : Below w.heap.size w W1 := by rw [← hW1]; exact below1 w _
  have k1 : W1.heap[w.heap.size]? = some (.cells #[.pointer none, .int .i64 0, .slice none 0 0, .int .i64 0, .int .i64 0, .bool false] 27) := by rw [← hW1]; exact alloc_at _ _
  obtain ⟨W2, hW2⟩ : ∃ x, W1.alloc (.cells #[.pointer none, .pointer (some ⟨w.heap.size, 0, none⟩)] 23) = x := ⟨_, rfl⟩
  have hb2 : Below W1.heap.size W1 W2 := by rw [← hW2]; exact below1 W1 _
  have k2 : W2.heap[W1.heap.size]? = some (.cells #[.pointer none, .pointer (some ⟨w.heap.size, 0, none⟩)] 23) := by rw [← hW2]; exact alloc_at _ _
  have HN0 : Hid (NoLog W2 (.pointer none)) := .inl rfl
  have HN1 : Hid (NoLog W2 (.pointer (some ⟨w.heap.size, 0, none⟩))) := .inr ⟨_, rfl, blk_below hb2 k1⟩
  have HB2 := Lib.hid (hb1.trans (hb2.mono hb1.size))
  have d0 := blk_cell k2 0
  have d1 := blk_cell k2 1
  simp at d0 d1
  have HG := Lib.hid hg
  have HBW := Lib.hid (Below.refl W2.heap.size W2)
  clear hb1 k1 hb2 k2 hg
  go_enter Tryz.func3, Tryz.ntmps3
  go_wp2
  refine wp_loop_rounds 3 ?_
  rw [rounds_succ]
  clear hW1 hW2
  go_wp2_with fail
  refine (write_none HN0.out A m c).mono ?_
  rintro e wa ⟨rfl, hb⟩
  have HNA := Lib.hid (HN0.out.below hb)
  have HBA := Lib.hid (HBW.out.trans (hb.mono HBW.out.size))
  clear hb
  go_wp2_with fail
  refine (trim_none HNA.out n).mono ?_
  rintro e wb ⟨rfl, hb⟩
  have HNB := Lib.hid (HNA.out.below hb)
  have HBB := Lib.hid (HBA.out.trans (hb.mono HBA.out.size))
  clear hb HNA HBA
  go_wp2_with fail
  refine (sync_none HNB.out).mono ?_
  rintro e wc ⟨rfl, hb⟩
  have HNC0 := Lib.hid (HNB.out.below hb)
  have HBC0 := Lib.hid (HBB.out.trans (hb.mono HBB.out.size))
  clear hb HNB HBB
  go_wp2_with fail
  refine (last_none HNC0.out).mono ?_
  rintro e w' ⟨rfl, hw⟩
  subst hw
  go_wp2_with fail
  refine (acked_none HNC0.out).mono ?_
  rintro e w' ⟨rfl, hw⟩
  subst hw
  go_wp2_with fail
  refine (files_none HNC0.out).mono ?_
  rintro e w' ⟨rfl, hw⟩
  subst hw
  go_wp2_with fail
  refine (over_none HNC0.out).mono ?_
  rintro e w' ⟨rfl, hw⟩
  subst hw
  go_wp2
  rw [rounds_succ]
  have d1' := cell_later HBC0.out d1
  have HN1' := Lib.hid (HN1.out.below HBC0.out)
  clear d0 d1 HNC0
  go_wp2_with fail
  refine (write_none HN1'.out A m c).mono ?_
  rintro e wd ⟨rfl, hb⟩
  have HNA := Lib.hid (HN1'.out.below hb)
  have HBA := Lib.hid (HBC0.out.trans (hb.mono HBC0.out.size))
  clear hb
  go_wp2_with fail
  refine (trim_none HNA.out n).mono ?_
  rintro e we ⟨rfl, hb⟩
  have HNB := Lib.hid (HNA.out.below hb)
  have HBB := Lib.hid (HBA.out.trans (hb.mono HBA.out.size))
  clear hb HNA HBA
  go_wp2_with fail
  refine (sync_none HNB.out).mono ?_
  rintro e wf ⟨rfl, hb⟩
  have HNC9 := Lib.hid (HNB.out.below hb)
  have HBC9 := Lib.hid (HBB.out.trans (hb.mono HBB.out.size))
  clear hb HNB HBB
  go_wp2_with fail
  refine (last_none HNC9.out).mono ?_
  rintro e w' ⟨rfl, hw⟩
  subst hw
  go_wp2_with fail
  refine (acked_none HNC9.out).mono ?_
  rintro e w' ⟨rfl, hw⟩
  subst hw
  go_wp2_with fail
  refine (files_none HNC9.out).mono ?_
  rintro e w' ⟨rfl, hw⟩
  subst hw
  go_wp2_with fail
  refine (over_none HNC9.out).mono ?_
  rintro e w' ⟨rfl, hw⟩
  subst hw
  go_wp2
  rw [rounds_succ]
  go_wp2_with fail
  refine (awake_any _ (HG.out.below (HB2.out.trans (HBC9.out.mono HB2.out.size)))).mono ?_
  rintro e w9 ⟨rfl, hb⟩
  have HB9 := Lib.hid ((HB2.out.trans (HBC9.out.mono HB2.out.size)).trans (hb.mono (HB2.out.trans (HBC9.out.mono HB2.out.size)).size))
  clear hb
  go_wp2
  exact bodyPost_ret (v := .bool true) (by simp [results]) rfl ⟨rfl, HB9.out⟩
end Go.Proofs.YthehpafkaefohaaGreatDoor

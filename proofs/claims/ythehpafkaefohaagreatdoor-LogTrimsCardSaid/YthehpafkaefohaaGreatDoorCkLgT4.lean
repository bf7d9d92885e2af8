/- Walks: the closure of Trim; deeds of the disk, up to the first error: a Remove. Conditions: sizes a machine can have. -/
import Derived.Test.YthehpafkaefohaaGreatDoorCkLgT3
import Derived.Test.YthehpafkaefohaaGreatDoorCkM19
import Derived.Test.YthehpafkaefohaaGreatDoorCkLgT1
import Derived.Test.YthehpafkaefohaaGreatDoorCkM28
namespace Go.Proofs.YthehpafkaefohaaGreatDoor
open Go.RowKit
theorem remove_step {w w2 : World} {d l : Nat} {S : List Nat} {dk : DkSt} {lg : LgSt} (h : LB w d l dk lg S) (ok : DkOk dk) (hfu : dk.fuse ≤ 1000000000000) (hb : Below w.heap.size w w2) (n : ByteArray) : Calls Tryz.prog 70 #[.pointer (some ⟨d, 0, none⟩), .string n] w2 (SPostL d l S (dRemove dk n) lg w) := by
  obtain ⟨v, u, h1, h2, rfl⟩ := h
  exact (remove_any (h1.below hb) ok hfu n).mono fun e w' hp => disk_step h1 h2 hb hp
set_option maxRecDepth 20000 in
set_option maxHeartbeats 2000000 in
theorem trim1_any {w : World} {d l : Nat} {S : List Nat} {dk : DkSt} {lg : LgSt} (h : LB w d l dk lg S) (ok : DkOk dk) (hfu : dk.fuse ≤ 1000000000000) (bl bn : Nat) (nm : ByteArray) (hb : w.cell? ⟨bl, 0, none⟩ = some (.pointer (some ⟨l, 0, none⟩))) (xb : bl ∉ S) (hn : w.cell? ⟨bn, 0, none⟩ = some (.string nm)) (xn : bn ∉ S) :
    Calls Tryz.prog 69 #[.pointer (some ⟨bl, 0, none⟩), .pointer (some ⟨bn, 0, none⟩)] w (SPostL d l S (dRemove dk nm) lg w) := by
  have HS := Lib.hid (fun w2 (hb2 : Below w.heap.size w w2) => remove_step h ok hfu hb2 nm)
  obtain ⟨u, hbl, _⟩ := h.cells
  have c0 : w.cell? ⟨l, 0, none⟩ = some (.pointer (some ⟨d, 0, none⟩)) := blk_cell hbl 0
  have HX := Lib.hid (And.intro xb xn)
  have HB0 := Lib.hid (Below.refl w.heap.size w)
  clear h ok hfu hbl xb xn
  go_enter Tryz.func69, Tryz.ntmps69
  go_upto_region 1 with fail
  refine wp_region_all (fun w' => w'.cell? ⟨bl, 0, none⟩ = some (.pointer (some ⟨l, 0, none⟩)) ∧ w'.cell? ⟨bn, 0, none⟩ = some (.string nm) ∧ w'.cell? ⟨l, 0, none⟩ = some (.pointer (some ⟨d, 0, none⟩))) 7 (by kernel_rfl) rfl ⟨hb, hn, c0⟩ (fun hHeld => ?_)
  refine takeL (i := 0) (v := ?_) rfl (by kernel_rfl) (by kernel_rfl) (by kernel_rfl) (fun _ _ _ h => h) (.inl ⟨by rfl, ?_⟩) (by assumption) ?_
  rotate_left
  · (intro w hSw; (try dsimp only at hSw); go_simp; (first | done | with_reducible rfl))
  try simp only [Act.put, List.setIfInBounds_toArray, List.set_cons_zero, List.set_cons_succ]
  refine takeL (i := 1) (v := ?_) rfl (by kernel_rfl) (by kernel_rfl) (by kernel_rfl) (fun _ _ _ h => h) (.inl ⟨by rfl, ?_⟩) (by assumption) ?_
  rotate_left
  · (intro w hSw; (try dsimp only at hSw); go_simp; (first | done | with_reducible rfl))
  try simp only [Act.put, List.setIfInBounds_toArray, List.set_cons_zero, List.set_cons_succ]
  refine takeL (i := 2) (v := ?_) rfl (by kernel_rfl) (by kernel_rfl) (by kernel_rfl) (fun _ _ _ h => h) (.inl ⟨by rfl, ?_⟩) (by assumption) ?_
  rotate_left
  · (intro w hSw; (try dsimp only at hSw); go_simp; (first | done | with_reducible rfl))
  try simp only [Act.put, List.setIfInBounds_toArray, List.set_cons_zero, List.set_cons_succ]
  refine takeL (i := 3) (v := ?_) rfl (by kernel_rfl) (by kernel_rfl) (by kernel_rfl) (fun _ _ _ h => h) (.inl ⟨by rfl, ?_⟩) (by assumption) ?_
  rotate_left
  · (intro w hSw; (try dsimp only at hSw); go_simp; (first | done | with_reducible rfl))
  try simp only [Act.put, List.setIfInBounds_toArray, List.set_cons_zero, List.set_cons_succ]
  refine takeL (i := 4) (v := ?_) rfl (by kernel_rfl) (by kernel_rfl) (by kernel_rfl) (fun _ _ _ h => h) (.inl ⟨by rfl, ?_⟩) (by assumption) ?_
  rotate_left
  · (intro w hSw; (try dsimp only at hSw); go_simp; (first | done | with_reducible rfl))
  try simp only [Act.put, List.setIfInBounds_toArray, List.set_cons_zero, List.set_cons_succ]
  refine stepL (i := 5) rfl (by kernel_rfl) (fun K hK => ?_)
  go_simp
  go_at_call 70
  refine (HS.out _ HB0.out.drew).mono ?_
  rintro e w5 ⟨rfl, hl⟩
  have HL := Lib.hid hl
  clear hl
  go_wp2_with fail
  refine hK.out _ _ ⟨HL.out.cell hb HX.out.1, HL.out.cell hn HX.out.2, HL.out.ptr⟩ (fun hHeld => ?_)
  clear hK K
  try simp only [Act.put, List.setIfInBounds_toArray, List.set_cons_zero, List.set_cons_succ]
  refine stepL (i := 6) rfl (by kernel_rfl) (fun K hK => ?_)
  go_simp
  refine hK.out _ _ ⟨HL.out.cell hb HX.out.1, HL.out.cell hn HX.out.2, HL.out.ptr⟩ (fun hHeld => ?_)
  clear hK K
  try simp only [Act.put, List.setIfInBounds_toArray, List.set_cons_zero, List.set_cons_succ]
  refine wpAnyH_done (by kernel_rfl) ?_ _
  clear hHeld
  go_wp2_with fail
  exact bodyPost_ret (v := .int .i64 (dRemove dk nm).2) (by simp [results]) rfl ⟨rfl, HL.out⟩
set_option maxRecDepth 20000 in
set_option maxHeartbeats 1000000 in
theorem all_trim {w : World} {d l : Nat} {S : List Nat} {r : DkSt × Int} {lg : LgSt} (b b1 b2 : Nat) (hb : w.cell? ⟨b, 0, none⟩ = some (.func (.func 69) #[] #[.pointer (some ⟨b1, 0, none⟩), .pointer (some ⟨b2, 0, none⟩)]))
    (HF : Calls Tryz.prog 69 #[.pointer (some ⟨b1, 0, none⟩), .pointer (some ⟨b2, 0, none⟩)] w (SPostL d l S r lg w)) :
    Calls Tryz.prog 67 #[.pointer (some ⟨l, 0, none⟩), .slice (some ⟨b, 0, none⟩) 1 1] w (SPostL d l S (r.1, r.2) (ovr lg r.2) w) := by
  have HC := Lib.hid HF
  clear HF
  obtain ⟨dk, q⟩ := r
  go_enter Tryz.func67, Tryz.ntmps67
  go_wp2
  refine wp_loop_rounds 2 ?_
  rw [rounds_succ]
  go_wp2_with fail
  refine HC.out.mono ?_
  rintro e w2 ⟨rfl, hl⟩
  have HL := Lib.hid hl
  clear hl
  have hc5 : ∃ z, w2.cell? ⟨l, 5, none⟩ = some z := by
    obtain ⟨S', h1, _⟩ := HL.out
    obtain ⟨u, hbl, _⟩ := h1.cells
    exact ⟨_, blk_cell hbl 5⟩
  have hf5 : w2.frozen? ⟨l, 5, none⟩ = false := by
    obtain ⟨S', h1, _⟩ := HL.out
    obtain ⟨u, hbl, _⟩ := h1.cells
    exact blk_free hbl 5
  obtain ⟨z5, c5⟩ := hc5
  by_cases hq : q = 0
  · subst hq
    have HP : Hid (SPostL d l S (dk, 0) (ovr lg 0) w (.returned (.int .i64 0)) w2) := ⟨rfl, by unfold ovr; rw [if_pos rfl]; exact HL.out⟩
    go_wp2
    rw [rounds_succ]
    go_wp2
    exact bodyPost_ret (v := .int .i64 0) (by simp [results]) rfl HP.out
  · have HP : Hid (SPostL d l S (dk, q) (ovr lg q) w (.returned (.int .i64 q)) (w2.setCell ⟨l, 5, none⟩ (.bool true))) := ⟨rfl, by unfold ovr; rw [if_neg hq]; exact HL.out.over⟩
    have hqe : (q == 0) = false := by simpa using hq
    have hqn : (q != 0) = true := by simpa using hq
    go_wp2
    exact bodyPost_ret (v := .int .i64 q) (by simp [results]) rfl HP.out
end Go.Proofs.YthehpafkaefohaaGreatDoor

/- Walks: bytes that are no batch; names that are none; calls of a disk that there is not. Conditions: the library's variables read as they are laid. -/
import Derived.Test.YthehpafkaefohaaGreatDoorCkLgU3
import Derived.Test.YthehpafkaefohaaGreatDoorCkM24
import Derived.Test.YthehpafkaefohaaGreatDoorCkLgG8
import Derived.Test.YthehpafkaefohaaGreatDoorCkLgU1
namespace Go.Proofs.YthehpafkaefohaaGreatDoor
open Go.RowKit
set_option maxRecDepth 20000 in
set_option maxHeartbeats 1000000 in
theorem none_any (v : Value) (ys : List UInt8) (w : World) (hr : RdB w v ys) (hl : ys.length ≤ 1000) (hn : parseB ys = none) : Calls Tryz.prog 49 #[v] w fun e w' => e = .returned (.bool true) ∧ Below w.heap.size w w' := by
  have hp := parse_any v ys w hr (by omega)
  rw [hn] at hp
  have HP := Lib.hid hp
  obtain ⟨A, c, rfl, _, _⟩ := hr.form
  clear hp hr
  go_enter Tryz.func49, Tryz.ntmps49
  go_wp2_with fail
  refine HP.out.mono ?_
  rintro e w2 ⟨N, E, u, rfl, hb, rfl, rfl, rfl⟩
  obtain ⟨W1, hW1⟩ : ∃ x, w2.alloc (.cells #[.int .i64 0, .slice none 0 0] 52) = x := ⟨_, rfl⟩
  have hb1 : Below w2.heap.size w2 W1 := by rw [← hW1]; exact below1 w2 _
  have k1 : W1.heap[w2.heap.size]? = some (.cells #[.int .i64 0, .slice none 0 0] 52) := by rw [← hW1]; exact alloc_at _ _
  have c0 := blk_cell k1 0
  have c1 := blk_cell k1 1
  have f0 := blk_free k1 0
  have f1 := blk_free k1 1
  simp at c0 c1
  have HB := Lib.hid (hb.trans ((below_set (below_set hb1 (Nat.le_refl _) 0 (.int .i64 0)) (Nat.le_refl _) 1 (.slice none 0 0)).mono hb.size))
  clear hb hb1 k1
  go_wp2
  exact bodyPost_ret (v := .bool true) (by simp [results]) rfl ⟨rfl, HB.out⟩
set_option maxRecDepth 20000 in
set_option maxHeartbeats 1000000 in
theorem lit_nil (w : World) : Calls Tryz.prog 75 #[.pointer none] w fun e w' => e = .returned (.int .i64 1) ∧ w = w' := by
  go_enter Tryz.func75, Tryz.ntmps75
  go_wp2
  exact bodyPost_ret (v := .int .i64 1) (by simp [results]) rfl ⟨rfl, rfl⟩
theorem neq_nilF (w : World) : Sem.run Tryz.prog (binOp .neq 83 .nilFunc .nilFunc) w = .ok (.bool false) w := by kernel_rfl
set_option maxRecDepth 20000 in
set_option maxHeartbeats 1000000 in
theorem lit_zero (w : World) (d : Nat) (h : w.cell? ⟨d, 4, none⟩ = some .nilFunc) : Calls Tryz.prog 75 #[.pointer (some ⟨d, 0, none⟩)] w fun e w' => e = .returned (.int .i64 1) ∧ w = w' := by
  have hq := neq_nilF
  go_enter Tryz.func75, Tryz.ntmps75
  go_wp2
  exact bodyPost_ret (v := .int .i64 1) (by simp [results]) rfl ⟨rfl, rfl⟩
set_option maxRecDepth 20000 in
set_option maxHeartbeats 1000000 in
theorem append_void (w : World) (p : Option Addr) (HL : ∀ w2, Below w.heap.size w w2 → Calls Tryz.prog 75 #[.pointer p] w2 fun e w' => e = .returned (.int .i64 1) ∧ w2 = w') : Calls Tryz.prog 59 #[.pointer p, .string ⟨#[]⟩, .slice none 0 0] w fun e w' => e = .returned (.int .i64 1) ∧ Below w.heap.size w w' := by
  have hb3 : Below w.heap.size w (((w.alloc (.cells #[.pointer p] 24)).alloc (.cells #[.string ⟨#[]⟩] 9)).alloc (.cells #[.slice none 0 0] 53)) := below3 w _ _ _
  have HC := Lib.hid (HL _ hb3)
  have HB := Lib.hid hb3
  clear HL hb3
  go_enter Tryz.func59, Tryz.ntmps59
  go_wp2_with fail
  refine HC.out.mono ?_
  rintro e w2 ⟨rfl, hw⟩
  subst hw
  go_wp2
  exact bodyPost_ret (v := .int .i64 1) (by simp [results]) rfl ⟨rfl, HB.out⟩
set_option maxRecDepth 20000 in
set_option maxHeartbeats 1000000 in
theorem may_void (w : World) (p : Option Addr) (size last : Int) (HL : ∀ w2, Below w.heap.size w w2 → Calls Tryz.prog 75 #[.pointer p] w2 fun e w' => e = .returned (.int .i64 1) ∧ w2 = w') : Calls Tryz.prog 74 #[.pointer p, .int .i64 size, .int .i64 last] w fun e w' => e = .returned (.int .i64 1) ∧ Below w.heap.size w w' := by
  have HC := Lib.hid (append_void w p HL)
  clear HL
  go_enter Tryz.func74, Tryz.ntmps74
  go_wp2_with fail
  refine HC.out.mono ?_
  rintro e w2 ⟨rfl, hb⟩
  have HB := Lib.hid hb
  clear hb
  go_wp2
  exact bodyPost_ret (v := .int .i64 1) (by simp [results]) rfl ⟨rfl, HB.out⟩
set_option maxRecDepth 20000 in
set_option maxHeartbeats 1000000 in
theorem begin_nil (w : World) : Calls Tryz.prog 23 #[.pointer none, .int .i64 64, .int .i64 0] w fun e w' => e = .returned (.tuple #[.pointer none, .int .i64 1]) ∧ Below w.heap.size w w' := by
  have HC := Lib.hid (may_void w none 64 0 (fun w2 _ => lit_nil w2))
  go_enter Tryz.func23, Tryz.ntmps23
  go_wp2_with fail
  refine HC.out.mono ?_
  rintro e w2 ⟨rfl, hb⟩
  have HB := Lib.hid hb
  clear hb
  go_wp2
  exact bodyPost_ret (v := .tuple #[.pointer none, .int .i64 1]) (by simp [results]) rfl ⟨rfl, HB.out⟩
set_option maxRecDepth 20000 in
set_option maxHeartbeats 1000000 in
theorem resume_zero (w : World) (d : Nat) (h : w.cell? ⟨d, 4, none⟩ = some .nilFunc) (vf : Value) (A : Option Addr) (n c : Nat) (hv : vf = .slice A n c) : Calls Tryz.prog 42 #[.pointer (some ⟨d, 0, none⟩), .int .i64 64, vf, .int .i64 0] w fun e w' => e = .returned (.tuple #[.pointer none, .int .i64 1]) ∧ Below w.heap.size w w' := by
  have HC := Lib.hid (may_void w (some ⟨d, 0, none⟩) 64 0 (fun w2 hb2 => lit_zero w2 d (cell_later hb2 h)))
  subst hv
  clear h
  go_enter Tryz.func42, Tryz.ntmps42
  go_wp2_with fail
  refine HC.out.mono ?_
  rintro e w2 ⟨rfl, hb⟩
  have HB := Lib.hid hb
  clear hb
  go_wp2
  exact bodyPost_ret (v := .tuple #[.pointer none, .int .i64 1]) (by simp [results]) rfl ⟨rfl, HB.out⟩
def badNames : List ByteArray := [⟨#[]⟩, ⟨#[119]⟩, ⟨#[119, 48]⟩, ⟨#[119, 48, 49]⟩, ⟨#[119, 45, 49]⟩, ⟨#[119, 43, 49]⟩, ⟨#[119, 49, 32]⟩, ⟨#[120, 49]⟩, ⟨#[49]⟩, ⟨#[119, 49, 49, 53, 50, 57, 50, 49, 53, 48, 52, 54, 48, 54, 56, 52, 54, 57, 55, 55]⟩, ⟨#[119, 57, 57, 57, 57, 57, 57, 57, 57, 57, 57, 57, 57, 57, 57, 57, 57, 57, 57, 57, 57]⟩, ⟨#[87, 49]⟩]
theorem badNames_no : ∀ s ∈ badNames, firstL s = (0, false) ∧ s.size ≤ 3000 := by
  intro s hs
  have : badNames.all (fun s => decide (firstL s = (0, false)) && decide (s.size ≤ 3000)) = true := by decide +kernel
  have := List.all_eq_true.1 this s hs
  simpa using this
theorem goodNames : firstL ⟨#[119, 49, 49, 53, 50, 57, 50, 49, 53, 48, 52, 54, 48, 54, 56, 52, 54, 57, 55, 54]⟩ = (1152921504606846976, true) ∧ firstL ⟨#[119, 49]⟩ = (1, true) := by decide +kernel
set_option maxRecDepth 20000 in
set_option maxHeartbeats 4000000 in
theorem names_any (w : World) (hg : GOK w) : Calls Tryz.prog 50 #[] w fun e w' => e = .returned (.bool true) ∧ Below w.heap.size w w' := by
  obtain ⟨W1, hW1⟩ : ∃ x, w.alloc (.cells #[.string ⟨#[]⟩, .string ⟨#[119]⟩, .string ⟨#[119, 48]⟩, .string ⟨#[119, 48, 49]⟩, .string ⟨#[119, 45, 49]⟩, .string ⟨#[119, 43, 49]⟩, .string ⟨#[119, 49, 32]⟩, .string ⟨#[120, 49]⟩, .string ⟨#[49]⟩, .string ⟨#[119, 49, 49, 53, 50, 57, 50, 49, 53, 48, 52, 54, 48, 54, 56, 52, 54, 57, 55, 55]⟩, .string ⟨#[119, 57, 57, 57, 57, 57, 57, 57, 57, 57, 57, 57, 57, 57, 57, 57, 57, 57, 57, 57, 57]⟩, .string ⟨#[87, 49]⟩] 9) = x := ⟨_, rfl⟩
  have hb1 : Below w.heap.size w W1 := by rw [← hW1]; exact below1 w _
  have k1 : W1.heap[w.heap.size]? = some (.cells (badNames.map Value.string).toArray 9) := by rw [← hW1]; exact alloc_at _ _
  have HK := Lib.hid k1
  have HB1 := Lib.hid hb1
  have HG := Lib.hid hg
  clear hb1 k1 hg
  go_enter Tryz.func50, Tryz.ntmps50
  go_wp2_with fail
  clear hW1
  go_loopw [11] (fun i wr => ∃ k : Nat, i = .int .i64 k ∧ k ≤ 12 ∧ Hid (Below W1.heap.size W1 wr)) (fun i _ => 12 - (intOf i).toNat)
  case atStart => exact ⟨0, rfl, Nat.zero_le _, Lib.hid (Below.refl _ _)⟩
  case round =>
    obtain ⟨k, rfl, hk, HB⟩ := hrel
    by_cases hlt : k < 12
    · obtain ⟨s, hs⟩ : ∃ s, badNames[k]? = some s := ⟨_, List.getElem?_eq_getElem (show k < badNames.length from hlt)⟩
      obtain ⟨hf, hsz⟩ := badNames_no s (List.mem_of_getElem? hs)
      have d0 : W1.cell? ⟨w.heap.size, k, none⟩ = some (.string s) := by
        rw [blk_cell HK.out, List.getElem?_toArray, List.getElem?_map, hs]
        rfl
      have dr := cell_later HB.out d0
      have hfi := first_any s wr hsz (HG.out.below (HB1.out.trans (HB.out.mono HB1.out.size)))
      rw [hf] at hfi
      have HFI := Lib.hid hfi
      have hki : (k : Int) < 12 := by omega
      clear hs hf hsz d0 hfi
      go_wp2_with fail
      refine HFI.out.mono ?_
      rintro e w2 ⟨rfl, hb⟩
      have HB2 := Lib.hid (HB.out.trans (hb.mono HB.out.size))
      clear hb
      go_wp2
      first
      | exact ⟨⟨k + 1, by go_num, by omega, HB2⟩, by simp [intOf]; omega⟩
      | (go_roundw
         case rel => exact ⟨k + 1, by go_num, by omega, HB2⟩
         case measure => simp [intOf]; omega)
    · obtain rfl : k = 12 := by omega
      have HBW := Lib.hid (HB1.out.trans (HB.out.mono HB1.out.size))
      have h1 := first_any ⟨#[119, 49, 49, 53, 50, 57, 50, 49, 53, 48, 52, 54, 48, 54, 56, 52, 54, 57, 55, 54]⟩ wr (by simp [ByteArray.size]) (HG.out.below HBW.out)
      rw [goodNames.1] at h1
      have H1 := Lib.hid h1
      clear h1
      go_wp2_with fail
      refine H1.out.mono ?_
      rintro e w2 ⟨rfl, hb⟩
      have HB2 := Lib.hid (HBW.out.trans (hb.mono HBW.out.size))
      have h2 := first_any ⟨#[119, 49]⟩ w2 (by simp [ByteArray.size]) (HG.out.below HB2.out)
      rw [goodNames.2] at h2
      have H2 := Lib.hid h2
      clear h2 hb
      go_wp2_with fail
      refine H2.out.mono ?_
      rintro e w3 ⟨rfl, hb⟩
      have HB3 := Lib.hid (HB2.out.trans (hb.mono HB2.out.size))
      have h3 := name_any 0 w3 (HG.out.below HB3.out)
      rw [nname.2.1] at h3
      have H3 := Lib.hid h3
      clear h3 hb
      go_wp2_with fail
      refine H3.out.mono ?_
      rintro e w4 ⟨rfl, hb⟩
      have HB4 := Lib.hid (HB3.out.trans (hb.mono HB3.out.size))
      have h4 := name_any (-1) w4 (HG.out.below HB4.out)
      rw [nname.2.2.1] at h4
      have H4 := Lib.hid h4
      clear h4 hb
      go_wp2_with fail
      refine H4.out.mono ?_
      rintro e w5 ⟨rfl, hb⟩
      have HB5 := Lib.hid (HB4.out.trans (hb.mono HB4.out.size))
      have h5 := name_any 1152921504606846977 w5 (HG.out.below HB5.out)
      rw [nname.2.2.2.1] at h5
      have H5 := Lib.hid h5
      clear h5 hb
      go_wp2_with fail
      refine H5.out.mono ?_
      rintro e w6 ⟨rfl, hb⟩
      have HB6 := Lib.hid (HB5.out.trans (hb.mono HB5.out.size))
      have h6 := name_any 1152921504606846976 w6 (HG.out.below HB6.out)
      rw [nname.2.2.2.2] at h6
      have H6 := Lib.hid h6
      clear h6 hb
      go_wp2_with fail
      refine H6.out.mono ?_
      rintro e w7 ⟨rfl, hb⟩
      have HB7 := Lib.hid (HB6.out.trans (hb.mono HB6.out.size))
      clear hb
      go_wp2
      exact bodyPost_ret (v := .bool true) (by simp [results]) rfl ⟨rfl, HB7.out⟩
end Go.Proofs.YthehpafkaefohaaGreatDoor

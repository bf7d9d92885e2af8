/- Walks: the second closure of next. Conditions: sizes a machine can have. -/
import Derived.Test.YthehpafkaefohaaDoorCkM21
import Derived.Test.YthehpafkaefohaaDoorCkM18
namespace Go.Proofs.YthehpafkaefohaaDoor
open Go.RowKit
theorem LStep.trans {d l : Nat} {S S1 : List Nat} {dk : DkSt} {lg : LgSt} {w w1 w2 : World} (h : Nx S w w1 S1) (k : LStep d l S1 dk lg w1 w2) : LStep d l S dk lg w w2 := by
  obtain ⟨S', h1, h2⟩ := k
  exact ⟨S', h1, h.trans h2⟩
theorem headOr_len (n : Int) : (headOr n).length ≤ 30 := by
  unfold headOr
  split
  · rename_i h
    have h2 : (uv n.toNat).length ≤ 10 := uv_len10 (by have := h.2; omega)
    unfold headB
    rw [frameB_len]
    simp only [List.length_cons]
    have h3 : (uv ((uv n.toNat).length + 1)).length ≤ 10 := uv_len10 (by omega)
    omega
  · simp
set_option maxRecDepth 20000 in
set_option maxHeartbeats 2000000 in
theorem next2_any {w : World} {d l : Nat} {S : List Nat} {dk : DkSt} {lg : LgSt} (h : LB w d l dk lg S) (ok : DkOk dk) (hfu : dk.fuse ≤ 1000000000000) (hg : GB S w) (bl b1 : Nat) (n : Int) (hb : w.cell? ⟨bl, 0, none⟩ = some (.pointer (some ⟨l, 0, none⟩))) (xb : bl ∉ S) (hn : w.cell? ⟨b1, 0, none⟩ = some (.int .i64 n)) (xn : b1 ∉ S)
    :
    Calls Tryd.prog 45 #[.pointer (some ⟨bl, 0, none⟩), .pointer (some ⟨b1, 0, none⟩)] w (SPostL d l S (dAppend dk (nameL n) (headOr n)) { lg with acked := lg.last } w) := by
  obtain ⟨u, hbl, _⟩ := h.cells
  have c3 := blk_cell hbl 3
  have c4 := blk_cell hbl 4
  have f4 := blk_free hbl 4
  simp at c3 c4
  have n1 : bl ≠ l := fun e => xb (by obtain ⟨v, u, _, _, rfl⟩ := h; rw [e]; simp)
  have HS1 : Hid (LStep d l S dk { lg with acked := lg.last } w (w.setCell ⟨l, 4, none⟩ (.int .i64 lg.last)).drew) := Lib.hid (((LStep.refl h).acked lg.last).below (below_drewN (Below.refl _ _) 1))
  have HOK := Lib.hid ok
  have HFU := Lib.hid hfu
  have HGB := Lib.hid hg
  have HXB := Lib.hid (And.intro xb xn)
  have HBN := Lib.hid (And.intro hb hn)
  have HLT := Lib.hid (And.intro (block_lt_of_cell hb) (block_lt_of_cell hn))
  clear h ok hfu hg xb xn hbl hn
  go_enter Tryd.func45, Tryd.ntmps45
  go_upto_region 1 with fail
  go_region_held3 (fun w' => w'.cell? ⟨bl, 0, none⟩ = some (.pointer (some ⟨l, 0, none⟩)) ∧ w'.cell? ⟨l, 3, none⟩ = some (.int .i64 lg.last))
    (first | exact ⟨hb, c3⟩ | exact ⟨cell_past hb n1, cell_off c3 (by omega)⟩ | go_keep)
    (fail)
  all_goals (
    obtain ⟨S1, hlb1, hnx1⟩ := HS1.out
    clear hb c3 c4 f4
    obtain ⟨W1, hW1⟩ : ∃ x, (w.setCell ⟨l, 4, none⟩ (.int .i64 lg.last)).drew = x := ⟨_, rfl⟩
    rw [hW1]
    rw [hW1] at hlb1 hnx1
    clear hW1
    have e1 := hnx1.chg.cell HBN.out.1 HXB.out.1
    have e2 := hnx1.chg.cell HBN.out.2 HXB.out.2
    obtain ⟨u1, hbl1, _⟩ := hlb1.cells
    have c0 : W1.cell? ⟨l, 0, none⟩ = some (.pointer (some ⟨d, 0, none⟩)) := blk_cell hbl1 0
    have hgb1 := HGB.out.nx hnx1
    have hsub := hnx1.sub
    have xbl : bl ∉ S1 := fun hm => by
      rcases hnx1.sub bl hm with h | h
      · exact HXB.out.1 h
      · have := HLT.out.1; simp at this; omega
    have xbn : b1 ∉ S1 := fun hm => by
      rcases hnx1.sub b1 hm with h | h
      · exact HXB.out.2 h
      · have := HLT.out.2; simp at this; omega
    have HXL := Lib.hid (And.intro xbl xbn)
    have HH := Lib.hid (head_any n W1)
    have HNM := Lib.hid (fun w2 (hb2 : Below W1.heap.size W1 w2) => name_any n w2 (hgb1.gok.below hb2))
    have HAP := Lib.hid (fun w2 (hb2 : Below W1.heap.size W1 w2) A c (hby : Bytes W1.heap.size w2 (.slice A (headOr n).length c) (headOr n)) => append_step hlb1 HOK.out HFU.out hb2 (nameL n) (Nat.le_trans (nameL_size n) (by omega)) (.slice A (headOr n).length c) (headOr n) hby.reads (fun k hk => hlb1.fresh (bytes_lo hby hk)) (Nat.le_trans (headOr_len n) (by omega)))
    have HNX := Lib.hid hnx1
    clear hlb1 hnx1 hbl1 hgb1 hsub xbl xbn
    go_wp2_with fail
    refine HH.out.mono ?_
    rintro e w2 ⟨A3, c3, rfl, hby, hb2⟩
    generalize (if inL n then (0 : Int) else 2) = qe
    have HBY := Lib.hid hby
    have HB2 := Lib.hid hb2
    have g1 := cell_later hb2 e1
    have g2 := cell_later hb2 e2
    have g0 := cell_later hb2 c0
    have HE := Lib.hid (And.intro e1 e2)
    clear hby hb2 e1 e2 c0
    obtain ⟨HD, hHD⟩ : ∃ x, headOr n = x := ⟨_, rfl⟩
    obtain ⟨NM, hNM⟩ : ∃ x, nameL n = x := ⟨_, rfl⟩
    rw [hHD] at HBY HAP ⊢
    rw [hNM] at HNM HAP ⊢
    have HHDe := Lib.hid hHD
    have HNMe := Lib.hid hNM
    clear hHD hNM
    go_upto_region 3 with fail
    go_region_held3 (fun w' => w'.cell? ⟨bl, 0, none⟩ = some (.pointer (some ⟨l, 0, none⟩)) ∧ w'.cell? ⟨b1, 0, none⟩ = some (.int .i64 n) ∧ w'.cell? ⟨l, 0, none⟩ = some (.pointer (some ⟨d, 0, none⟩)))
      (first | exact ⟨g1, g2, g0⟩ | exact ⟨cell_later HB5.out g1, cell_later HB5.out g2, cell_later HB5.out g0⟩ | exact ⟨HL.out.cell HE.out.1 HXL.out.1, HL.out.cell HE.out.2 HXL.out.2, HL.out.ptr⟩ | go_keep)
      (first | (go_at_call 12; refine (HNM.out _ (HB2.out.trans ((below_drewN (Below.refl w2.heap.size w2) 1).mono HB2.out.size))).mono ?_; rintro e w5 ⟨rfl, hb⟩; have HB5 : Hid (Below w2.heap.size w2 w5) := Lib.hid (drewN_start (w := w2) (q := 1) hb); clear hb) | (go_at_call 27; refine (HAP.out _ (HB2.out.trans (HB5.out.mono HB2.out.size)) _ _ (HBY.out.below HB5.out)).mono ?_; rintro e w6 ⟨rfl, hl⟩; have HL := Lib.hid hl; clear hl))
    all_goals (
      go_wp2_with fail
      refine bodyPost_ret (v := .int .i64 (dAppend dk NM HD).2) (by simp [results]) rfl ?_
      rw [HHDe.out, HNMe.out]
      exact ⟨rfl, LStep.trans HNX.out HL.out⟩))
end Go.Proofs.YthehpafkaefohaaDoor

/- Walks: three deeds, up to the first error; a segment that begins with a batch. Conditions: sizes a machine can have. -/
import Derived.Test.YthehpafkaefohaaDoorCkLgF6
import Derived.Test.YthehpafkaefohaaDoorCkLgF7
namespace Go.Proofs.YthehpafkaefohaaDoor
open Go.RowKit
theorem ChgS.cellO {S : List Nat} {w w' : World} {b o : Nat} {v : Value} (h : ChgS S w w') (hc : w.cell? ⟨b, o, none⟩ = some v) (hb : b ∉ S) : w'.cell? ⟨b, o, none⟩ = some v :=
  (World.cell?_of_block (w := w) (a := ⟨b, o, none⟩) (h.block b (block_lt_of_cell hc) hb)).trans hc
def nextR (r1 r2 : DkSt × Int) (lg1 lg2 lg3 : LgSt) : DkSt × LgSt × Int :=
  if r1.2 ≠ 0 then (r1.1, { lg1 with over := true }, r1.2) else if r2.2 ≠ 0 then (r2.1, { lg2 with over := true }, r2.2) else (r2.1, lg3, 0)
set_option maxRecDepth 20000 in
set_option maxHeartbeats 2000000 in
theorem all_next {w : World} {d l : Nat} {S : List Nat} {r1 r2 : DkSt × Int} {lg1 lg2 lg3 : LgSt} (b bl bn : Nat) (xb : b ∉ S)
    (hb0 : w.cell? ⟨b, 0, none⟩ = some (.func (.func 44) #[] #[.pointer (some ⟨bl, 0, none⟩)]))
    (hb1 : w.cell? ⟨b, 1, none⟩ = some (.func (.func 45) #[] #[.pointer (some ⟨bl, 0, none⟩), .pointer (some ⟨bn, 0, none⟩)]))
    (hb2 : w.cell? ⟨b, 2, none⟩ = some (.func (.func 47) #[] #[.pointer (some ⟨bl, 0, none⟩), .pointer (some ⟨bn, 0, none⟩)]))
    (H1 : Calls Tryd.prog 44 #[.pointer (some ⟨bl, 0, none⟩)] w (SPostL d l S r1 lg1 w))
    (H2 : ∀ w1 S1, LB w1 d l r1.1 lg1 S1 → Nx S w w1 S1 → Calls Tryd.prog 45 #[.pointer (some ⟨bl, 0, none⟩), .pointer (some ⟨bn, 0, none⟩)] w1 (SPostL d l S1 r2 lg2 w1))
    (H3 : ∀ w2 S2, LB w2 d l r2.1 lg2 S2 → Nx S w w2 S2 → Calls Tryd.prog 47 #[.pointer (some ⟨bl, 0, none⟩), .pointer (some ⟨bn, 0, none⟩)] w2 (SPostL d l S2 (r2.1, 0) lg3 w2)) :
    Calls Tryd.prog 25 #[.pointer (some ⟨l, 0, none⟩), .slice (some ⟨b, 0, none⟩) 3 3] w (SyncP d l S (nextR r1 r2 lg1 lg2 lg3) w) := by
  have HC1 := Lib.hid H1
  have HC2 := Lib.hid H2
  have HC3 := Lib.hid H3
  have HXB := Lib.hid xb
  have HB12 := Lib.hid (And.intro hb1 hb2)
  obtain ⟨R, hR⟩ : ∃ R, nextR r1 r2 lg1 lg2 lg3 = R := ⟨_, rfl⟩
  have HR := Lib.hid hR
  rw [hR]
  clear H1 H2 H3 xb hR
  obtain ⟨dk1, q1⟩ := r1
  obtain ⟨dk2, q2⟩ := r2
  go_enter Tryd.func25, Tryd.ntmps25
  go_wp2
  refine wp_loop_rounds 4 ?_
  rw [rounds_succ]
  go_wp2_with fail
  refine HC1.out.mono ?_
  rintro e w2 ⟨rfl, hl⟩
  have HL := Lib.hid hl
  obtain ⟨S1, hlb1, hnx1⟩ := hl
  obtain ⟨u1, hbl1, _⟩ := hlb1.cells
  have c5 := blk_cell hbl1 5
  have f5 := blk_free hbl1 5
  simp at c5
  have g1 := hnx1.chg.cellO HB12.out.1 HXB.out
  have HC2' := Lib.hid (HC2.out w2 S1 hlb1 hnx1)
  have HN1 := Lib.hid hnx1
  clear hb0 hb1 hb2 hlb1 hnx1 hbl1
  by_cases h1 : q1 = 0
  · subst h1
    go_wp2
    rw [rounds_succ]
    go_wp2_with fail
    refine HC2'.out.mono ?_
    rintro e w3 ⟨rfl, hl2⟩
    have HL2 := Lib.hid (LStep.trans HN1.out hl2)
    obtain ⟨S2, hlb2, hnx2⟩ := HL2.out
    obtain ⟨u2, hbl2, _⟩ := hlb2.cells
    have c5' := blk_cell hbl2 5
    have f5' := blk_free hbl2 5
    simp at c5'
    have g2 := hnx2.chg.cellO HB12.out.2 HXB.out
    have HC3' := Lib.hid (HC3.out w3 S2 hlb2 hnx2)
    have HN2 := Lib.hid hnx2
    clear hl2 hlb2 hnx2 hbl2 c5 f5 g1
    by_cases h2 : q2 = 0
    · subst h2
      go_wp2
      rw [rounds_succ]
      go_wp2_with fail
      refine HC3'.out.mono ?_
      rintro e w4 ⟨rfl, hl3⟩
      have HL3 := Lib.hid (LStep.trans HN2.out hl3)
      clear hl3
      go_wp2
      rw [rounds_succ]
      go_wp2
      refine bodyPost_ret (v := .int .i64 0) (by simp [results]) rfl ?_
      have hR : (dk2, lg3, (0 : Int)) = R := by rw [← HR.out]; simp [nextR]
      rw [← hR]
      exact ⟨rfl, HL3.out⟩
    · have hqe : (q2 == 0) = false := by simpa using h2
      have hqn : (q2 != 0) = true := by simpa using h2
      go_wp2
      refine bodyPost_ret (v := .int .i64 q2) (by simp [results]) rfl ?_
      have hR : (dk2, { lg2 with over := true }, q2) = R := by rw [← HR.out]; simp [nextR, h2]
      rw [← hR]
      exact ⟨rfl, HL2.out.over⟩
  · have hqe : (q1 == 0) = false := by simpa using h1
    have hqn : (q1 != 0) = true := by simpa using h1
    go_wp2
    refine bodyPost_ret (v := .int .i64 q1) (by simp [results]) rfl ?_
    have hR : (dk1, { lg1 with over := true }, q1) = R := by rw [← HR.out]; simp [nextR, h1]
    rw [← hR]
    exact ⟨rfl, HL.out.over⟩
end Go.Proofs.YthehpafkaefohaaDoor

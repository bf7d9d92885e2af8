/- Walks: Write of a batch that may be. Conditions: sizes a machine can have; there is room. -/
import Derived.Test.YthehpafkaefohaaDoorCkLgG1
import Derived.BigQuiet
import Derived.BigGuard
namespace Go.Proofs.YthehpafkaefohaaDoor
open Go.RowKit
theorem dAppend_keep (st : DkSt) (ok : DkOk st) (n : ByteArray) (b : List UInt8) : usedF (dAppend st n b).1.fs ≤ usedF st.fs + b.length ∧ (dAppend st n b).1.room = st.room ∧ (dAppend st n b).1.fuse ≤ max st.fuse 0 := by
  have hlo := ok.fuse
  unfold dAppend
  split
  · exact ⟨by simp, rfl, by simp only; omega⟩
  split
  · exact ⟨by simp, rfl, by simp only; omega⟩
  split
  · exact ⟨by simp, rfl, by simp only; omega⟩
  · obtain ⟨_, h2, _, _⟩ := putF_facts ok.sorted n b
    unfold dDeed
    split
    · exact ⟨by simp, rfl, by simp only; omega⟩
    · refine ⟨by simp only; omega, rfl, ?_⟩
      simp only
      split <;> omega
theorem lNext_keep (dk : DkSt) (lg : LgSt) (ok : DkOk dk) (n : Int) : usedF (lNext dk lg n).1.fs ≤ usedF dk.fs + 30 ∧ (lNext dk lg n).1.room = dk.room ∧ (lNext dk lg n).1.fuse ≤ max dk.fuse 0 := by
  obtain ⟨a1, a2, a3⟩ := syncFile_keep dk lg ok.fuse
  obtain ⟨b1, b2, b3⟩ := dAppend_keep _ (syncFile_ok ok lg) (nameL n) (headOr n)
  have hl := headOr_len n
  unfold lNext
  simp only
  split
  · exact ⟨by simp only; omega, a2, a3⟩
  · split
    · exact ⟨by simp only; omega, b2.trans a2, by simp only; omega⟩
    · exact ⟨by simp only; omega, b2.trans a2, by simp only; omega⟩
theorem batch_in {n : Int} {yss : List (List UInt8)} (h : batchE n yss = 0) : 1 ≤ n ∧ n ≤ 1152921504606846976 ∧ 1 ≤ (batchB n.toNat yss).length ∧ (batchB n.toNat yss).length ≤ 1048576 := by
  unfold batchE at h
  split at h
  · simp at h
  · rename_i h1
    split at h
    · simp at h
    · rename_i h2
      have h3 := uv_pos n.toNat
      refine ⟨by omega, by omega, ?_, by omega⟩
      unfold batchB
      simp only [List.length_append]
      omega
theorem frame_len {body : List UInt8} (h : body.length ≤ 1048576) : (frameB body).length ≤ 1000000000 := by
  have h1 := frameB_len body
  have h2 := uv_len10 (n := body.length) (by omega)
  omega
set_option maxRecDepth 20000 in
set_option maxHeartbeats 4000000 in
theorem write_go {w : World} {d l : Nat} {S : List Nat} {dk : DkSt} {lg : LgSt} (h : LB w d l dk lg S) (ok : DkOk dk) (hfu : dk.fuse ≤ 1000000000000) (hg : GB S w) (ho : lg.over = false) (hlo : 0 ≤ lg.last) (hhi : lg.last ≤ 2000000000000000000) (hsz : lg.firsts.length ≤ 900000) (v : Value) (yss : List (List UInt8)) (hr : RdL w v yss) (hy : ∀ y ∈ yss, y.length ≤ 100000000000) (hE : batchE (lg.last + 1) yss = 0)
    : Calls Tryd.prog 10 #[.pointer (some ⟨l, 0, none⟩), v] w (WrP d l S (lWrite dk lg yss) w) := by
  obtain ⟨n, hnn⟩ : ∃ n, lg.last + 1 = n := ⟨_, rfl⟩
  obtain ⟨body, hbody⟩ : ∃ b, batchB n.toNat yss = b := ⟨_, rfl⟩
  obtain ⟨bi1, bi2, bi3, bi4⟩ := batch_in hE
  rw [hnn] at hE bi1 bi2 bi3 bi4
  rw [hbody] at bi3 bi4
  have hwr : lWrite dk lg yss = if fullL dk lg = true then (if (lNext dk lg n).2.2 ≠ 0 then ((lNext dk lg n).1, (lNext dk lg n).2.1, 0, (lNext dk lg n).2.2) else lPut (lNext dk lg n).1 (lNext dk lg n).2.1 n body) else lPut dk lg n body := by
    unfold lWrite
    rw [hnn, if_neg (by simp [ho]), if_neg (by simp [hE]), hbody]
  obtain ⟨R, hR⟩ : ∃ R, lWrite dk lg yss = R := ⟨_, rfl⟩
  rw [hR] at hwr ⊢
  obtain ⟨W1, hW1⟩ : ∃ x, w.alloc (.cells #[.pointer (some ⟨l, 0, none⟩)] 26) = x := ⟨_, rfl⟩
  have hb1 : Below w.heap.size w W1 := by rw [← hW1]; exact below1 w _
  have hU := up_any (h.below hb1)
  rw [show upE lg = 0 by unfold upE; rw [if_neg (by simp [ho])]] at hU
  have HU := Lib.hid hU
  have k1 : W1.heap[w.heap.size]? = some (.cells #[.pointer (some ⟨l, 0, none⟩)] 26) := by rw [← hW1]; exact alloc_at _ _
  have e1 := blk_cell k1 0
  simp at e1
  obtain ⟨u, hbl, hol⟩ := (h.below hb1).cells
  have c0 := blk_cell hbl 0
  have c1 := blk_cell hbl 1
  have c2 := blk_cell hbl 2
  have c3 := blk_cell hbl 3
  simp at c0 c1 c2 c3
  obtain ⟨A0, q0, rfl⟩ := hol.form
  have HC := Lib.hid (bytes_any n v yss W1 (hr.below hb1) hy)
  unfold BPost at HC
  rw [hE, if_pos rfl, hbody] at HC
  obtain ⟨A, c, rfl, _, _⟩ := hr.form
  have HH := Lib.hid h
  have HOK := Lib.hid ok
  have HLG0 := Lib.hid ho
  have HFU := Lib.hid hfu
  have HGB := Lib.hid hg
  have HSZ := Lib.hid hsz
  have HBI := Lib.hid (And.intro bi3 bi4)
  have HWR := Lib.hid hwr
  have HB1 := Lib.hid hb1
  have HX := Lib.hid (h.fresh (Nat.le_refl w.heap.size))
  have HFILE := Lib.hid (fun w2 (hb2 : Below w.heap.size w w2) (hne : lg.firsts ≠ []) => file_any (h.below hb2) (hg.below hb2) hne)
  have HSIZE : Hid (∀ w2, Below w.heap.size w w2 → ∀ m, Calls Tryd.prog 9 #[.pointer (some ⟨d, 0, none⟩), .string m] w2 (fun e w' => e = .returned (.int .i64 (sizeF dk m)) ∧ Below w2.heap.size w2 w')) := fun w2 hb2 m => by
    obtain ⟨v', u', h1, h2, _⟩ := h
    exact size_any (h1.below hb2) ok m
  have hn64 : IntKind.i64.wrap (lg.last + 1) = n := by rw [IntKind.wrap_i64]; omega
  have hnl : ¬ lg.firsts = [] → ((lg.firsts.length : Int) == 0) = false := fun h => by
    have := List.length_pos_iff.2 h
    simp; omega
  have HNL := Lib.hid hnl
  have hll : l < w.heap.size := by obtain ⟨u', hb', _⟩ := h.cells; exact blk_lt hb'
  have HLL := Lib.hid hll
  clear h ok hfu hg hsz hr hy hE hwr hR hb1 hU k1 hbl hol bi3 bi4 hbody hnl hll
  go_enter Tryd.func10, Tryd.ntmps10
  go_upto_region 1 with fail
  clear hW1
  go_wp2_with fail
  refine HU.out.mono ?_
  rintro e w2 ⟨rfl, hw⟩
  subst hw
  go_upto_region 5 with fail
  try rw [hnn]
  go_wp2_with fail
  refine HC.out.mono ?_
  rintro e w2 ⟨z, rfl, hby, hb2⟩
  obtain ⟨AB, cB, rfl, _, _⟩ := hby.reads.form
  have HBY := Lib.hid hby
  have HB2 := Lib.hid hb2
  have HB02 := Lib.hid (HB1.out.trans (hb2.mono HB1.out.size))
  have d0 := cell_later hb2 c0
  have d1 := cell_later hb2 c1
  have d2 := cell_later hb2 c2
  have g1 := cell_later hb2 e1
  clear hby hb2 c0 c1 c2 c3 e1 HC HU
  obtain ⟨LB, hLB⟩ : ∃ LB, body.length = LB := ⟨_, rfl⟩
  rw [hLB] at HBY ⊢
  have HLB := Lib.hid hLB
  clear hLB
  go_upto_region 8 with fail
  go_cut [53] (fun b wx => b = .bool (fullL dk lg) ∧ Hid (Below w2.heap.size w2 wx))
  case first =>
    by_cases hn0 : lg.firsts = []
    · have hfl : fullL dk lg = true := by unfold fullL; simp [hn0]
      have hl0 : lg.firsts.length = 0 := by rw [hn0]; rfl
      rw [hl0] at d2
      have HFL := Lib.hid hfl
      clear hn0 hfl hl0
      go_quiet (fail)
      go_wp2_with fail
      go_meet
      exact ⟨by rw [HFL.out], by first | exact Lib.hid (Below.refl _ _) | exact Lib.hid (below_drewN (Below.refl _ _) _)⟩
    · have hfl : fullL dk lg = decide (lg.size ≤ sizeF dk (fileL lg)) := by unfold fullL; simp [hn0]
      have HFL := Lib.hid hfl
      have kp := HNL.out hn0
      have HN0 := Lib.hid hn0
      generalize lg.firsts.length = K at *
      clear hn0 hfl
      go_region_held3 (fun w' => w'.cell? ⟨w.heap.size, 0, none⟩ = some (.pointer (some ⟨l, 0, none⟩)) ∧ w'.cell? ⟨l, 0, none⟩ = some (.pointer (some ⟨d, 0, none⟩)) ∧ w'.cell? ⟨l, 1, none⟩ = some (.int .i64 lg.size) ∧ w'.cell? ⟨l, 2, none⟩ = some (.slice A0 K q0))
        (first | exact ⟨g1, d0, d1, d2⟩ | exact ⟨cell_later HB6.out g1, cell_later HB6.out d0, cell_later HB6.out d1, cell_later HB6.out d2⟩ | exact ⟨cell_later HB5.out g1, cell_later HB5.out d0, cell_later HB5.out d1, cell_later HB5.out d2⟩ | go_keep)
        (first | (go_at_call 22; refine (HFILE.out _ HB02.out.drew HN0.out).mono ?_; rintro e w5 ⟨rfl, hb⟩; have HB5 : Hid (Below w2.heap.size w2 w5) := Lib.hid (drewN_start (w := w2) (q := 1) hb); clear hb) | (go_at_call 9; refine (HSIZE.out _ (HB02.out.trans (HB5.out.mono HB02.out.size)) _).mono ?_; rintro e w6 ⟨rfl, hb⟩; have HB6 : Hid (Below w2.heap.size w2 w6) := Lib.hid (HB5.out.trans (hb.mono HB5.out.size)); clear hb))
      all_goals (
        go_wp2_with fail
        go_meet
        exact ⟨by rw [HFL.out], HB6⟩)
  case rest =>
    obtain ⟨rfl, F2⟩ := hcut
    have hbc := HB02.out.trans (F2.out.mono HB02.out.size)
    have HBC := Lib.hid hbc
    have z1 := cell_later F2.out g1
    have HRB := Lib.hid ((HBY.out.reads).below F2.out)
    have hyl : ∀ k, Value.readBlock (.slice AB LB cB) = some k → W1.heap.size ≤ k := fun k hk => bytes_lo HBY.out hk
    have HYL := Lib.hid hyl
    clear hbc g1 d0 d1 d2 hyl
    cases hf : fullL dk lg with
    | false =>
      have hne : lg.firsts ≠ [] := by
        intro e
        unfold fullL at hf
        simp [e] at hf
      have hR : lPut dk lg n body = R := by rw [HWR.out, hf]; simp
      have hlb := HH.out.below HBC.out
      have hgb := HGB.out.below HBC.out
      have hnx : Nx S w wc S := (Nx.refl S w).below HBC.out
      have hxl := HX.out
      have hro : ∀ k, Value.readBlock (.slice AB LB cB) = some k → k ∉ S := fun k hk => HH.out.fresh (Nat.le_trans HB1.out.size (HYL.out k hk))
      have hft : (frameB body).length ≤ 1000000000 := frame_len (by have h7 := HBI.out.2; rw [HLB.out] at *; omega)
      have hokk := HOK.out
      have hfuu := HFU.out
      have hrd := HRB.out
      have HT := Lib.hid (And.intro hlb (And.intro hgb (And.intro hnx (And.intro hxl (And.intro hft (And.intro hokk (And.intro hfuu hne)))))))
      have HRO := Lib.hid hro
      have HRD := Lib.hid hrd
      have HRX := Lib.hid hR
      have hput := put_any (.slice AB LB cB) body wc hrd (by rw [HLB.out]; exact HLB.out ▸ HBI.out.1) (by rw [HLB.out]; exact HLB.out ▸ HBI.out.2)
      have HPUT := Lib.hid hput
      have Z1 := Lib.hid z1
      clear hlb hgb hnx hxl hft hokk hfuu hne hro hrd hR hput
      go_wp2_with fail
      refine HPUT.out.mono ?_
      rintro e w5 ⟨A5, c5, rfl, hfb, hb5⟩
      have HFB := Lib.hid hfb
      have HB5 := Lib.hid hb5
      have y1 := cell_later hb5 z1
      clear hfb hb5 z1
      obtain ⟨fr, hfr⟩ : ∃ fr, frameB body = fr := ⟨_, rfl⟩
      rw [hfr] at HFB ⊢
      have HFR := Lib.hid hfr
      clear hfr
      obtain ⟨W6, hW6⟩ : ∃ x, w5.alloc (.cells #[.slice A5 fr.length c5] 43) = x := ⟨_, rfl⟩
      obtain ⟨W7, hW7⟩ : ∃ x, W6.alloc (.cells #[.func (.func 26) #[] #[.pointer (some ⟨w.heap.size, 0, none⟩), .pointer (some ⟨w5.heap.size, 0, none⟩)]] 40) = x := ⟨_, rfl⟩
      have hb6 : Below w5.heap.size w5 W6 := by rw [← hW6]; exact below1 w5 _
      have hb7 : Below W6.heap.size W6 W7 := by rw [← hW7]; exact below1 W6 _
      have k6 : W6.heap[w5.heap.size]? = some (.cells #[.slice A5 fr.length c5] 43) := by rw [← hW6]; exact alloc_at _ _
      have k7 : W7.heap[W6.heap.size]? = some (.cells #[.func (.func 26) #[] #[.pointer (some ⟨w.heap.size, 0, none⟩), .pointer (some ⟨w5.heap.size, 0, none⟩)]] 40) := by rw [← hW7]; exact alloc_at _ _
      have hbt : Below wc.heap.size wc W7 := HB5.out.trans ((hb6.trans (hb7.mono hb6.size)).mono HB5.out.size)
      have x5 : w5.heap.size ∉ S := HT.out.1.fresh HB5.out.size
      have e6 := blk_cell k6 0
      have e7 := blk_cell k7 0
      simp at e6 e7
      have y6 := cell_later hb6 y1
      have y1b := cell_later hb7 y6
      have HA := Lib.hid (all_write (l := l) (lg := lg) (S := S) (r := dAppend dk (fileL lg) fr) W6.heap.size w.heap.size w5.heap.size e7 (lwrite1_any (HT.out.1.below hbt) HT.out.2.2.2.2.2.1 HT.out.2.2.2.2.2.2.1 (HT.out.2.1.below hbt) HT.out.2.2.2.2.2.2.2 w.heap.size w5.heap.size y1b HT.out.2.2.2.1 (.slice A5 fr.length c5) fr (cell_later hb7 e6) x5 ((HFB.out.reads.below hb6).below hb7) (fun k hk => HT.out.1.fresh (bytes_lo HFB.out hk)) (by have h1 := HT.out.2.2.2.2.1; rw [HFR.out] at h1; exact h1)))
      have HBT := Lib.hid hbt
      have Y7 := Lib.hid y1b
      obtain ⟨r7, hr7⟩ : ∃ r7, dAppend dk (fileL lg) fr = r7 := ⟨_, rfl⟩
      rw [hr7] at HA
      have hRp : (if r7.2 ≠ 0 then (r7.1, { lg with over := true }, (0 : Int), r7.2) else (r7.1, { lg with last := n }, n, (0 : Int))) = R := by
        rw [← HRX.out]
        unfold lPut
        rw [HFR.out, hr7]
      have HRP := Lib.hid hRp
      obtain ⟨dk7, q7⟩ := r7
      clear hb6 hb7 k6 k7 hbt x5 e6 e7 y1b hr7 hRp
      go_wp2_with fail
      refine HA.out.mono ?_
      rintro e w8 ⟨rfl, hl8⟩
      have hl8' : LStep d l S dk7 (ovr lg q7) w w8 := LStep.trans HT.out.2.2.1 (LStep.from HBT.out hl8)
      have HL8 := Lib.hid hl8'
      have e8 := hl8.cell Y7.out HT.out.2.2.2.1
      obtain ⟨u8, hb8, _⟩ := hl8.blk
      have c38 := blk_cell hb8 3
      have f38 := blk_free hb8 3
      simp at c38
      clear hl8 hl8' hb8 y1 hW6 hW7
      by_cases h7 : q7 = 0
      · subst h7
        have ho7 : ovr lg 0 = lg := by unfold ovr; rw [if_pos rfl]
        rw [ho7] at HL8
        have hR7 : (dk7, { lg with last := n }, n, (0 : Int)) = R := by have := HRP.out; simpa using this
        have HP : Hid (WrP d l S R w (.returned (.tuple #[.int .i64 n, .int .i64 0])) (w8.setCell ⟨l, 3, none⟩ (.int .i64 n))) := by
          rw [← hR7]
          exact ⟨rfl, HL8.out.last n⟩
        clear ho7 hR7
        go_wp2
        exact bodyPost_ret (v := .tuple #[.int .i64 n, .int .i64 0]) (by simp [results]) rfl HP.out
      · have ho7 : ovr lg q7 = { lg with over := true } := by unfold ovr; rw [if_neg h7]
        rw [ho7] at HL8
        have hqe7 : (q7 == 0) = false := by simpa using h7
        have hqn7 : (q7 != 0) = true := by simpa using h7
        have hR7 : (dk7, { lg with over := true }, (0 : Int), q7) = R := by have := HRP.out; simpa [h7] using this
        have HP : Hid (WrP d l S R w (.returned (.tuple #[.int .i64 0, .int .i64 q7])) w8) := by
          rw [← hR7]
          exact ⟨rfl, HL8.out⟩
        clear ho7 hR7
        go_wp2
        exact bodyPost_ret (v := .tuple #[.int .i64 0, .int .i64 q7]) (by simp [results]) rfl HP.out
    | true =>
      have hnext := next_any (HH.out.below HBC.out) HOK.out HFU.out (HGB.out.below HBC.out) n (by have := HSZ.out; omega)
      have hkeep := lNext_keep dk lg HOK.out n
      have hend := next_end HOK.out HLG0.out n
      obtain ⟨r, hr9⟩ : ∃ r, lNext dk lg n = r := ⟨_, rfl⟩
      rw [hr9] at hnext hkeep hend
      have hR : (if r.2.2 ≠ 0 then (r.1, r.2.1, 0, r.2.2) else lPut r.1 r.2.1 n body) = R := by rw [HWR.out, hf, hr9]; simp
      have hfs : r.2.2 = 0 → r.2.1.firsts ≠ [] := by
        rw [← hr9]
        unfold lNext
        simp only
        split
        · intro e; rename_i h1; exact absurd e h1
        · split
          · intro e; rename_i h1; exact absurd e h1
          · intro _; simp
      have HNE := Lib.hid hnext
      have HKP := Lib.hid hkeep
      have HEN := Lib.hid hend
      have HRR := Lib.hid hR
      have HFS := Lib.hid hfs
      obtain ⟨dk9, lg9, q9⟩ := r
      clear hnext hkeep hend hR hfs hr9
      go_wp2_with fail
      refine HNE.out.mono ?_
      rintro e w3 ⟨rfl, hl3⟩
      by_cases h9 : q9 = 0
      · subst h9
        obtain ⟨S9, hlb, hnx0⟩ := hl3
        have hgb := (HGB.out.below HBC.out).nx hnx0
        have hnx : Nx S w w3 S9 := ((Nx.refl S w).below HBC.out).trans hnx0
        have hlw : w.heap.size < wc.heap.size := block_lt_of_cell z1
        have hxl : w.heap.size ∉ S9 := hnx0.out HX.out hlw
        have z1 := hnx0.chg.cell z1 HX.out
        have hro0 : ∀ k, Value.readBlock (.slice AB LB cB) = some k → k ∉ S := fun k hk => HH.out.fresh (Nat.le_trans HB1.out.size (HYL.out k hk))
        have hro : ∀ k, Value.readBlock (.slice AB LB cB) = some k → k ∉ S9 := fun k hk => hnx0.out (hro0 k hk) (rdB_block HRB.out k hk)
        have hrd := HRB.out.chgS hnx0.chg hro0
        have hft : (frameB body).length ≤ 1000000000 := frame_len (by have h7 := HBI.out.2; rw [HLB.out] at *; omega)
        have hokk : DkOk dk9 := HEN.out.1
        have hfuu : dk9.fuse ≤ 1000000000000 := by have k3 : dk9.fuse ≤ max dk.fuse 0 := HKP.out.2.2; have := HFU.out; omega
        have hne : lg9.firsts ≠ [] := HFS.out rfl
        have hR : lPut dk9 lg9 n body = R := by have := HRR.out; simpa using this
        clear hnx0 hro0
        have HT := Lib.hid (And.intro hlb (And.intro hgb (And.intro hnx (And.intro hxl (And.intro hft (And.intro hokk (And.intro hfuu hne)))))))
        have HRO := Lib.hid hro
        have HRD := Lib.hid hrd
        have HRX := Lib.hid hR
        have hput := put_any (.slice AB LB cB) body w3 hrd (by rw [HLB.out]; exact HLB.out ▸ HBI.out.1) (by rw [HLB.out]; exact HLB.out ▸ HBI.out.2)
        have HPUT := Lib.hid hput
        have Z1 := Lib.hid z1
        clear hlb hgb hnx hxl hft hokk hfuu hne hro hrd hR hput
        go_wp2_with fail
        refine HPUT.out.mono ?_
        rintro e w5 ⟨A5, c5, rfl, hfb, hb5⟩
        have HFB := Lib.hid hfb
        have HB5 := Lib.hid hb5
        have y1 := cell_later hb5 z1
        clear hfb hb5 z1
        obtain ⟨fr, hfr⟩ : ∃ fr, frameB body = fr := ⟨_, rfl⟩
        rw [hfr] at HFB ⊢
        have HFR := Lib.hid hfr
        clear hfr
        obtain ⟨W6, hW6⟩ : ∃ x, w5.alloc (.cells #[.slice A5 fr.length c5] 43) = x := ⟨_, rfl⟩
        obtain ⟨W7, hW7⟩ : ∃ x, W6.alloc (.cells #[.func (.func 26) #[] #[.pointer (some ⟨w.heap.size, 0, none⟩), .pointer (some ⟨w5.heap.size, 0, none⟩)]] 40) = x := ⟨_, rfl⟩
        have hb6 : Below w5.heap.size w5 W6 := by rw [← hW6]; exact below1 w5 _
        have hb7 : Below W6.heap.size W6 W7 := by rw [← hW7]; exact below1 W6 _
        have k6 : W6.heap[w5.heap.size]? = some (.cells #[.slice A5 fr.length c5] 43) := by rw [← hW6]; exact alloc_at _ _
        have k7 : W7.heap[W6.heap.size]? = some (.cells #[.func (.func 26) #[] #[.pointer (some ⟨w.heap.size, 0, none⟩), .pointer (some ⟨w5.heap.size, 0, none⟩)]] 40) := by rw [← hW7]; exact alloc_at _ _
        have hbt : Below w3.heap.size w3 W7 := HB5.out.trans ((hb6.trans (hb7.mono hb6.size)).mono HB5.out.size)
        have x5 : w5.heap.size ∉ S9 := HT.out.1.fresh HB5.out.size
        have e6 := blk_cell k6 0
        have e7 := blk_cell k7 0
        simp at e6 e7
        have y6 := cell_later hb6 y1
        have y1b := cell_later hb7 y6
        have HA := Lib.hid (all_write (l := l) (lg := lg9) (S := S9) (r := dAppend dk9 (fileL lg9) fr) W6.heap.size w.heap.size w5.heap.size e7 (lwrite1_any (HT.out.1.below hbt) HT.out.2.2.2.2.2.1 HT.out.2.2.2.2.2.2.1 (HT.out.2.1.below hbt) HT.out.2.2.2.2.2.2.2 w.heap.size w5.heap.size y1b HT.out.2.2.2.1 (.slice A5 fr.length c5) fr (cell_later hb7 e6) x5 ((HFB.out.reads.below hb6).below hb7) (fun k hk => HT.out.1.fresh (bytes_lo HFB.out hk)) (by have h1 := HT.out.2.2.2.2.1; rw [HFR.out] at h1; exact h1)))
        have HBT := Lib.hid hbt
        have Y7 := Lib.hid y1b
        obtain ⟨r7, hr7⟩ : ∃ r7, dAppend dk9 (fileL lg9) fr = r7 := ⟨_, rfl⟩
        rw [hr7] at HA
        have hRp : (if r7.2 ≠ 0 then (r7.1, { lg9 with over := true }, (0 : Int), r7.2) else (r7.1, { lg9 with last := n }, n, (0 : Int))) = R := by
          rw [← HRX.out]
          unfold lPut
          rw [HFR.out, hr7]
        have HRP := Lib.hid hRp
        obtain ⟨dk7, q7⟩ := r7
        clear hb6 hb7 k6 k7 hbt x5 e6 e7 y1b hr7 hRp
        go_wp2_with fail
        refine HA.out.mono ?_
        rintro e w8 ⟨rfl, hl8⟩
        have hl8' : LStep d l S dk7 (ovr lg9 q7) w w8 := LStep.trans HT.out.2.2.1 (LStep.from HBT.out hl8)
        have HL8 := Lib.hid hl8'
        have e8 := hl8.cell Y7.out HT.out.2.2.2.1
        obtain ⟨u8, hb8, _⟩ := hl8.blk
        have c38 := blk_cell hb8 3
        have f38 := blk_free hb8 3
        simp at c38
        clear hl8 hl8' hb8 y1 hW6 hW7
        by_cases h7 : q7 = 0
        · subst h7
          have ho7 : ovr lg9 0 = lg9 := by unfold ovr; rw [if_pos rfl]
          rw [ho7] at HL8
          have hR7 : (dk7, { lg9 with last := n }, n, (0 : Int)) = R := by have := HRP.out; simpa using this
          have HP : Hid (WrP d l S R w (.returned (.tuple #[.int .i64 n, .int .i64 0])) (w8.setCell ⟨l, 3, none⟩ (.int .i64 n))) := by
            rw [← hR7]
            exact ⟨rfl, HL8.out.last n⟩
          clear ho7 hR7
          go_wp2
          exact bodyPost_ret (v := .tuple #[.int .i64 n, .int .i64 0]) (by simp [results]) rfl HP.out
        · have ho7 : ovr lg9 q7 = { lg9 with over := true } := by unfold ovr; rw [if_neg h7]
          rw [ho7] at HL8
          have hqe7 : (q7 == 0) = false := by simpa using h7
          have hqn7 : (q7 != 0) = true := by simpa using h7
          have hR7 : (dk7, { lg9 with over := true }, (0 : Int), q7) = R := by have := HRP.out; simpa [h7] using this
          have HP : Hid (WrP d l S R w (.returned (.tuple #[.int .i64 0, .int .i64 q7])) w8) := by
            rw [← hR7]
            exact ⟨rfl, HL8.out⟩
          clear ho7 hR7
          go_wp2
          exact bodyPost_ret (v := .tuple #[.int .i64 0, .int .i64 q7]) (by simp [results]) rfl HP.out
      · have hqe : (q9 == 0) = false := by simpa using h9
        have hqn : (q9 != 0) = true := by simpa using h9
        have hR : (dk9, lg9, (0 : Int), q9) = R := by have := HRR.out; simpa [h9] using this
        have HP : Hid (WrP d l S R w (.returned (.tuple #[.int .i64 0, .int .i64 q9])) w3) := by
          rw [← hR]
          exact ⟨rfl, LStep.from HBC.out hl3⟩
        clear hR hl3
        go_wp2
        exact bodyPost_ret (v := .tuple #[.int .i64 0, .int .i64 q9]) (by simp [results]) rfl HP.out
end Go.Proofs.YthehpafkaefohaaDoor

/- Walks: a segment that begins with a batch. Conditions: sizes a machine can have; there is room. -/
import Derived.Test.YthehpafkaefohaaDoorCkLgF8
namespace Go.Proofs.YthehpafkaefohaaDoor
open Go.RowKit
theorem dDeed_keep (st : DkSt) (fs' : List DF) (hlo : -1 ≤ st.fuse) (hu : usedF fs' = usedF st.fs) : usedF (dDeed st fs').1.fs = usedF st.fs ∧ (dDeed st fs').1.room = st.room ∧ (dDeed st fs').1.fuse ≤ max st.fuse 0 := by
  unfold dDeed
  split
  · exact ⟨rfl, rfl, by simp; omega⟩
  · refine ⟨hu, rfl, ?_⟩
    simp only
    split <;> omega
theorem dSync_keep (st : DkSt) (hlo : -1 ≤ st.fuse) (n : ByteArray) : usedF (dSync st n).1.fs = usedF st.fs ∧ (dSync st n).1.room = st.room ∧ (dSync st n).1.fuse ≤ max st.fuse 0 := by
  unfold dSync
  split
  · exact ⟨rfl, rfl, by simp only; omega⟩
  split
  · exact ⟨rfl, rfl, by simp only; omega⟩
  · rename_i hn
    obtain ⟨f, hf, _⟩ := hasN_at (by simpa using hn)
    have h1 := usedF_modify st.fs (plc st.fs n) (fun f => { f with sf := f.bs.length }) f hf
    simp at h1
    exact dDeed_keep st _ hlo h1
theorem syncFile_keep (dk : DkSt) (lg : LgSt) (hlo : -1 ≤ dk.fuse) : usedF (lSyncFile dk lg).1.fs = usedF dk.fs ∧ (lSyncFile dk lg).1.room = dk.room ∧ (lSyncFile dk lg).1.fuse ≤ max dk.fuse 0 := by
  unfold lSyncFile
  split
  · exact ⟨rfl, rfl, by simp only; omega⟩
  · exact dSync_keep dk hlo _
theorem Nx.out {S S1 : List Nat} {w w1 : World} {b : Nat} (h : Nx S w w1 S1) (hb : b ∉ S) (hlt : b < w.heap.size) : b ∉ S1 := fun hm => by
  rcases h.sub b hm with h1 | h1
  · exact hb h1
  · omega
theorem nextR_eq (dk : DkSt) (lg : LgSt) (n : Int) : nextR (lSyncFile dk lg) (dAppend (lSyncFile dk lg).1 (nameL n) (headOr n)) lg { lg with acked := lg.last } { lg with acked := lg.last, firsts := lg.firsts ++ [n] } = lNext dk lg n := by
  unfold nextR lNext
  rfl
set_option maxRecDepth 20000 in
set_option maxHeartbeats 2000000 in
theorem next_any {w : World} {d l : Nat} {S : List Nat} {dk : DkSt} {lg : LgSt} (h : LB w d l dk lg S) (ok : DkOk dk) (hfu : dk.fuse ≤ 1000000000000) (hg : GB S w) (n : Int) (hsz : lg.firsts.length ≤ 1000000) :
    Calls Tryd.prog 23 #[.pointer (some ⟨l, 0, none⟩), .int .i64 n] w (SyncP d l S (lNext dk lg n) w) := by
  obtain ⟨W2, hW2⟩ : ∃ x, (w.alloc (.cells #[.pointer (some ⟨l, 0, none⟩)] 26)).alloc (.cells #[.int .i64 n] 3) = x := ⟨_, rfl⟩
  have hb2 : Below w.heap.size w W2 := by rw [← hW2]; exact below2 w _ _
  have k1 : W2.heap[w.heap.size]? = some (.cells #[.pointer (some ⟨l, 0, none⟩)] 26) := by rw [← hW2]; exact blk_alloc (alloc_at _ _) _
  have k2 : W2.heap[w.heap.size + 1]? = some (.cells #[.int .i64 n] 3) := by rw [← hW2]; exact alloc_at1 _ _ _
  have e1 := blk_cell k1 0
  have e2 := blk_cell k2 0
  simp at e1 e2
  obtain ⟨W3, hW3⟩ : ∃ x, W2.alloc (.cells #[.func (.func 44) #[] #[.pointer (some ⟨w.heap.size, 0, none⟩)], .func (.func 45) #[] #[.pointer (some ⟨w.heap.size, 0, none⟩), .pointer (some ⟨w.heap.size + 1, 0, none⟩)], .func (.func 47) #[] #[.pointer (some ⟨w.heap.size, 0, none⟩), .pointer (some ⟨w.heap.size + 1, 0, none⟩)]] 40) = x := ⟨_, rfl⟩
  have hb3 : Below W2.heap.size W2 W3 := by rw [← hW3]; exact below1 W2 _
  have k3 := alloc_at W2 (.cells #[.func (.func 44) #[] #[.pointer (some ⟨w.heap.size, 0, none⟩)], .func (.func 45) #[] #[.pointer (some ⟨w.heap.size, 0, none⟩), .pointer (some ⟨w.heap.size + 1, 0, none⟩)], .func (.func 47) #[] #[.pointer (some ⟨w.heap.size, 0, none⟩), .pointer (some ⟨w.heap.size + 1, 0, none⟩)]] 40)
  rw [hW3] at k3
  have hbw : Below w.heap.size w W3 := hb2.trans (hb3.mono hb2.size)
  have h3 := h.below hbw
  have g3 := hg.below hbw
  have s2 := hb2.size
  have lt1 := blk_lt k2
  have lt3 := hb3.size
  have x1 : w.heap.size ∉ S := h.fresh (Nat.le_refl _)
  have x2 : w.heap.size + 1 ∉ S := h.fresh (by omega)
  have x3 : W2.heap.size ∉ S := h.fresh (by omega)
  have z1 := cell_later hb3 e1
  have z2 := cell_later hb3 e2
  have hkeep := syncFile_keep dk lg ok.fuse
  have hok1 := syncFile_ok ok lg
  have HA := Lib.hid (all_next (l := l) (r1 := lSyncFile dk lg) (r2 := dAppend (lSyncFile dk lg).1 (nameL n) (headOr n)) (lg1 := lg) (lg2 := { lg with acked := lg.last }) (lg3 := { lg with acked := lg.last, firsts := lg.firsts ++ [n] }) W2.heap.size w.heap.size (w.heap.size + 1) x3 (blk_cell k3 0) (blk_cell k3 1) (blk_cell k3 2)
    (next1_any h3 ok hfu g3 w.heap.size z1 x1)
    (fun w1 S1 hl hn => next2_any hl hok1 (by have := hkeep.2.2; omega) (g3.nx hn) w.heap.size (w.heap.size + 1) n (hn.chg.cell z1 x1) (hn.out x1 (by omega)) (hn.chg.cell z2 x2) (hn.out x2 (by omega)))
    (fun w2 S2 hl hn => next3_any hl hsz w.heap.size (w.heap.size + 1) n (hn.chg.cell z1 x1) (hn.out x1 (by omega)) (hn.chg.cell z2 x2) (hn.out x2 (by omega))))
  rw [nextR_eq] at HA
  have HBW := Lib.hid hbw
  obtain ⟨R, hR⟩ : ∃ R, lNext dk lg n = R := ⟨_, rfl⟩
  rw [hR] at HA ⊢
  clear h ok hfu hg hsz hb2 k1 k2 e2 hb3 k3 hbw h3 g3 s2 lt1 lt3 x1 x2 x3 z1 z2 hkeep hok1 hR
  go_enter Tryd.func23, Tryd.ntmps23
  go_upto_region 1 with fail
  clear hW2
  go_wp2_with fail
  refine HA.out.mono ?_
  rintro e w4 ⟨rfl, hl⟩
  have HL := Lib.hid (LStep.from HBW.out hl)
  clear hl
  go_wp2_with fail
  exact bodyPost_ret (v := .int .i64 R.2.2) (by simp [results]) rfl ⟨rfl, HL.out⟩
end Go.Proofs.YthehpafkaefohaaDoor

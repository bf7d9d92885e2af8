/- Walks: Arm, List, Trim of a log that is over. Conditions: sizes a machine can have. -/
import Derived.Test.YthehpafkaefohaaDoorCkLgH1
import Derived.Test.YthehpafkaefohaaDoorCkM24
import Derived.Test.YthehpafkaefohaaDoorCkM25
namespace Go.Proofs.YthehpafkaefohaaDoor
open Go.RowKit
theorem made_cellsS (n : Nat) : madeCells (Value.string ⟨#[]⟩).cells (n * 1) = (List.replicate n (Value.string ⟨#[]⟩)).toArray := by
  rw [Nat.mul_one]
  apply Array.ext
  · simp [madeCells]
  · intro i h1 h2
    simp [madeCells, Value.cells, Nat.mod_one]
theorem make_strs (w : World) (n : Nat) (hn : n ≤ 1000000) : Sem.run Tryd.prog (Instr.makeSlice 35 (.int .i64 n) (.int .i64 n)) w = .ok (.slice (some ⟨w.heap.size, 0, none⟩) n n) (w.alloc (.cells (List.replicate n (Value.string ⟨#[]⟩)).toArray 9)) := by
  obtain ⟨i0, hi, hz0, hz1, hz2⟩ := info_parts elS.info
  have := run_makeSlice (P := Tryd.prog) w 35 9 i0 _ elS.ut hi hz0 .i64 .i64 (n : Int) (n : Int) (by omega) (by omega) (by rw [hz1, Int.toNat_natCast]; omega) (by rw [hz2]; omega) (by omega)
  rw [this, hz1, Int.toNat_natCast, made_cellsS]
end Go.Proofs.YthehpafkaefohaaDoor
namespace Go.Proofs.YthehpafkaefohaaDoor
open Go.RowKit
structure LE (k : Nat) (dk : DkSt) (lg : LgSt) : Prop where
  ok : DkOk dk
  fuse : dk.fuse ≤ 1000
  lo : 0 ≤ lg.last
  hi : lg.last ≤ k
  many : lg.firsts.length ≤ k
theorem LE.up {k : Nat} {dk : DkSt} {lg : LgSt} (h : LE k dk lg) : LE (k + 1) dk lg := ⟨h.ok, h.fuse, h.lo, by have := h.hi; omega, by have := h.many; omega⟩
theorem lPut_facts (dk : DkSt) (lg : LgSt) (ok : DkOk dk) (n : Int) (body : List UInt8) : (lPut dk lg n body).1.fuse ≤ max dk.fuse 0 ∧ (lPut dk lg n body).2.1.firsts = lg.firsts := by
  have h := (dAppend_keep dk ok (fileL lg) (frameB body)).2.2
  unfold lPut
  simp only
  split <;> exact ⟨h, rfl⟩
theorem lNext_firsts (dk : DkSt) (lg : LgSt) (n : Int) : (lNext dk lg n).2.1.firsts.length ≤ lg.firsts.length + 1 := by
  unfold lNext
  simp only
  split
  · simp
  · split
    · simp
    · simp
theorem LE.write {k : Nat} {dk : DkSt} {lg : LgSt} (h : LE k dk lg) (ho : lg.over = false) {recs : List (List UInt8)} (hb : batchE (lg.last + 1) recs = 0) :
    LE (k + 1) (lWrite dk lg recs).1 (lWrite dk lg recs).2.1 ∧ ((lWrite dk lg recs).2.2.2 = 0 ↔ (lWrite dk lg recs).2.1.over = false) := by
  obtain ⟨a, b⟩ := write_end h.ok ho hb
  have h1 := h.lo
  have h2 := h.hi
  have h3 := h.many
  have h4 := h.fuse
  have key : (lWrite dk lg recs).1.fuse ≤ 1000 ∧ (lWrite dk lg recs).2.1.firsts.length ≤ k + 1 := by
    unfold lWrite
    rw [if_neg (by simp [ho]), if_neg (by simp [hb])]
    have hk := lNext_keep dk lg h.ok (lg.last + 1)
    have hf := lNext_firsts dk lg (lg.last + 1)
    have he := (next_end h.ok ho (lg.last + 1)).1
    split
    · simp only
      split
      · exact ⟨by have := hk.2.2; simp only; omega, by simp only; omega⟩
      · have hp := lPut_facts (lNext dk lg (lg.last + 1)).1 (lNext dk lg (lg.last + 1)).2.1 he (lg.last + 1) (batchB (lg.last + 1).toNat recs)
        exact ⟨by have := hp.1; have := hk.2.2; omega, by rw [hp.2]; omega⟩
    · have hp := lPut_facts dk lg h.ok (lg.last + 1) (batchB (lg.last + 1).toNat recs)
      exact ⟨by have := hp.1; omega, by rw [hp.2]; omega⟩
  exact ⟨⟨a, key.1, by have := b.lo; omega, by have := b.hi; omega, key.2⟩, b.over⟩
theorem LE.sync {k : Nat} {dk : DkSt} {lg : LgSt} (h : LE k dk lg) (ho : lg.over = false) : LE k (lSync dk lg).1 (lSync dk lg).2.1 ∧ ((lSync dk lg).2.2 = 0 ↔ (lSync dk lg).2.1.over = false) := by
  obtain ⟨a, b, c⟩ := sync_end h.ok ho
  have h1 := h.lo
  have h2 := h.hi
  have h3 := h.many
  have h4 := h.fuse
  have hk := (syncFile_keep dk lg h.ok.fuse).2.2
  have key : (lSync dk lg).1.fuse ≤ 1000 ∧ (lSync dk lg).2.1.firsts = lg.firsts := by
    unfold lSync
    rw [if_neg (by simp [ho])]
    simp only
    split <;> exact ⟨by simp only; omega, rfl⟩
  exact ⟨⟨a, key.1, by rw [c]; exact h1, by rw [c]; exact h2, by rw [key.2]; exact h3⟩, b.over⟩
theorem batch_small {n : Int} (h0 : 1 ≤ n) (h1 : n ≤ 1152921504606846976) {l : List (List UInt8)} (hne : l ≠ []) (hs : smallV l = true) : batchE n l = 0 := by
  obtain ⟨s1, s2⟩ := (smallV_iff l).1 hs
  exact (batch_fits h0 h1 ⟨List.length_pos_iff.2 hne, s1, s2⟩).1
/-- a row of batches -/
def RdLL (w : World) (v : Value) (bs : List (List (List UInt8))) : Prop := (∃ A c, v = .slice A 0 c ∧ c ≤ maxLen ∧ bs = []) ∨
  ∃ b o c, v = .slice (some ⟨b, o, none⟩) bs.length c ∧ bs.length ≤ c ∧ c ≤ maxLen ∧ b < w.heap.size ∧ ∀ (j : Nat) (x : List (List UInt8)), bs[j]? = some x → ∃ u, w.cell? ⟨b, o + j, none⟩ = some u ∧ RdL w u x
theorem RdLL.form {w : World} {v : Value} {bs : List (List (List UInt8))} (h : RdLL w v bs) : ∃ A c, v = .slice A bs.length c ∧ bs.length ≤ c ∧ c ≤ maxLen := by
  rcases h with ⟨A, c, rfl, h1, rfl⟩ | ⟨b, o, c, rfl, h1, h2, _⟩
  · exact ⟨A, c, rfl, Nat.zero_le _, h1⟩
  · exact ⟨_, c, rfl, h1, h2⟩
theorem RdLL.at {w : World} {A : Option Addr} {c n : Nat} {bs : List (List (List UInt8))} (h : RdLL w (.slice A n c) bs) {j : Nat} {x : List (List UInt8)} (hj : bs[j]? = some x) : ∃ b o u, A = some ⟨b, o, none⟩ ∧ w.cell? ⟨b, o + j, none⟩ = some u ∧ RdL w u x := by
  rcases h with ⟨_, _, _, _, rfl⟩ | ⟨b, o, c, hv, _, _, _, h4⟩
  · simp at hj
  · obtain ⟨u, hu, hr⟩ := h4 j x hj
    injection hv with hv
    exact ⟨b, o, u, hv, hu, hr⟩
theorem AX.arm {w w1 w2 : World} {d l : Nat} {dk dk' : DkSt} {lg : LgSt} {S : List Nat} (h : AX w w1 d l dk lg S) (hd : ∀ v, DkAt w1 d dk v → DkAt w2 d dk' v ∧ ChgS (dkS d v) w1 w2) : AX w w2 d l dk' lg S := by
  obtain ⟨v, u, h1, h2, rfl⟩ := h.lb
  obtain ⟨k1, k2⟩ := hd v h1
  refine ⟨h.gk, ⟨v, u, k1, h2.keepD h1 k2, rfl⟩, h.be.trans (k2.below (fun x hx => h.ge x (List.mem_append_left _ hx)) h.be.size), h.ge⟩
theorem RdT.below {w w' : World} {v : Value} {xs : List ByteArray} (h : RdT w v xs) (hb : Below w.heap.size w w') : RdT w' v xs := by
  rcases h with h | ⟨b, o, c, rfl, h1, h2, h3⟩
  · exact .inl h
  · exact .inr ⟨b, o, c, rfl, h1, h2, fun j s hj => cell_later hb (h3 j s hj)⟩
theorem AX.used {w w1 : World} {d l : Nat} {dk : DkSt} {lg : LgSt} {S : List Nat} (h : AX w w1 d l dk lg S) (ok : DkOk dk) : Calls Tryd.prog 51 #[.pointer (some ⟨d, 0, none⟩)] w1 fun e w' => e = .returned (.int .i64 (usedF dk.fs)) ∧ Below w1.heap.size w1 w' := by
  obtain ⟨v, u, h1, _, _⟩ := h.lb
  exact used_any h1 (by have := ok.used; have := ok.room; omega) (by have := ok.many; omega)
def namesF (dk : DkSt) : List ByteArray := dk.fs.map (·.nm)
theorem AX.files {w w1 : World} {d l : Nat} {dk : DkSt} {lg : LgSt} {S : List Nat} (h : AX w w1 d l dk lg S) (hn : lg.firsts.length ≤ 1000000) : Calls Tryd.prog 8 #[.pointer (some ⟨l, 0, none⟩)] w1 fun e w' => ∃ z, e = .returned z ∧ RdT w' z (lFiles lg) ∧ Below w1.heap.size w1 w' :=
  (files_any h.lb h.gb hn).mono fun _ _ ⟨v, h1, h2, h3⟩ => ⟨v, h1, rdT_own h2, h3⟩
set_option maxRecDepth 20000 in
set_option maxHeartbeats 2000000 in
theorem write_ov {w : World} {d l : Nat} {S : List Nat} {dk : DkSt} {lg : LgSt} (h : LB w d l dk lg S) (ho : lg.over = true) (v : Value) : Calls Tryd.prog 10 #[.pointer (some ⟨l, 0, none⟩), v] w fun e w' => e = .returned (.tuple #[.int .i64 0, .int .i64 17]) ∧ Below w.heap.size w w' := by
  obtain ⟨W1, hW1⟩ : ∃ x, w.alloc (.cells #[.pointer (some ⟨l, 0, none⟩)] 26) = x := ⟨_, rfl⟩
  have hb1 : Below w.heap.size w W1 := by rw [← hW1]; exact below1 w _
  have hU := up_any (h.below hb1)
  rw [show upE lg = 17 by unfold upE; rw [if_pos ho]] at hU
  have HU := Lib.hid hU
  have HP := Lib.hid hb1
  have k1 : W1.heap[w.heap.size]? = some (.cells #[.pointer (some ⟨l, 0, none⟩)] 26) := by rw [← hW1]; exact alloc_at _ _
  have e1 := blk_cell k1 0
  simp at e1
  clear h ho hb1 hU k1
  go_enter Tryd.func10, Tryd.ntmps10
  go_upto_region 1 with fail
  clear hW1
  go_wp2_with fail
  refine HU.out.mono ?_
  rintro e w2 ⟨rfl, hw⟩
  subst hw
  go_wp2
  exact bodyPost_ret (v := .tuple #[.int .i64 0, .int .i64 17]) (by simp [results]) rfl ⟨rfl, HP.out⟩
set_option maxRecDepth 20000 in
set_option maxHeartbeats 2000000 in
theorem logsync_ov {w : World} {d l : Nat} {S : List Nat} {dk : DkSt} {lg : LgSt} (h : LB w d l dk lg S) (ho : lg.over = true) : Calls Tryd.prog 11 #[.pointer (some ⟨l, 0, none⟩)] w fun e w' => e = .returned (.int .i64 17) ∧ Below w.heap.size w w' := by
  obtain ⟨W1, hW1⟩ : ∃ x, w.alloc (.cells #[.pointer (some ⟨l, 0, none⟩)] 26) = x := ⟨_, rfl⟩
  have hb1 : Below w.heap.size w W1 := by rw [← hW1]; exact below1 w _
  have hU := up_any (h.below hb1)
  rw [show upE lg = 17 by unfold upE; rw [if_pos ho]] at hU
  have HU := Lib.hid hU
  have HP := Lib.hid hb1
  have k1 : W1.heap[w.heap.size]? = some (.cells #[.pointer (some ⟨l, 0, none⟩)] 26) := by rw [← hW1]; exact alloc_at _ _
  have e1 := blk_cell k1 0
  simp at e1
  clear h ho hb1 hU k1
  go_enter Tryd.func11, Tryd.ntmps11
  go_upto_region 1 with fail
  clear hW1
  go_wp2_with fail
  refine HU.out.mono ?_
  rintro e w2 ⟨rfl, hw⟩
  subst hw
  go_wp2
  exact bodyPost_ret (v := .int .i64 17) (by simp [results]) rfl ⟨rfl, HP.out⟩
end Go.Proofs.YthehpafkaefohaaDoor

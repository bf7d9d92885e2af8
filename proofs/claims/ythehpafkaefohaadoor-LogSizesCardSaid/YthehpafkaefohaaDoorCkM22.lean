/- Walks: Write whole, Begin, Last, Acked, Over. Conditions: sizes a machine can have. -/
import Derived.Test.YthehpafkaefohaaDoorCkLgG2
import Derived.Lib.SmallJoins
import Derived.BigQuiet
namespace Go.Proofs.YthehpafkaefohaaDoor
open Go.RowKit
theorem write_any {w : World} {d l : Nat} {S : List Nat} {dk : DkSt} {lg : LgSt} (h : LB w d l dk lg S) (ok : DkOk dk) (hfu : dk.fuse ≤ 1000000000000) (hg : GB S w) (hlo : 0 ≤ lg.last) (hhi : lg.last ≤ 2000000000000000000) (hsz : lg.firsts.length ≤ 900000) (v : Value) (yss : List (List UInt8)) (hr : RdL w v yss) (hy : ∀ y ∈ yss, y.length ≤ 100000000000)
    : Calls Tryd.prog 10 #[.pointer (some ⟨l, 0, none⟩), v] w (WrP d l S (lWrite dk lg yss) w) := by
  cases ho : lg.over with
  | true => exact write_over h ho v yss
  | false =>
    by_cases hE : batchE (lg.last + 1) yss = 0
    · exact write_go h ok hfu hg ho hlo hhi hsz v yss hr hy hE
    · exact write_bad h ho hlo hhi v yss hr hy hE
set_option maxRecDepth 20000 in
set_option maxHeartbeats 1000000 in
theorem may_ok {w : World} {d : Nat} {st : DkSt} {v : Value} (h : DkAt w d st v) (ok : DkOk st) (hfu : st.fuse ≤ 1000000000000) (size last : Int) (h0 : 64 ≤ size) (h1 : size ≤ 16777216) (h2 : 0 ≤ last) (h3 : last ≤ 576460752303423488) :
    Calls Tryd.prog 18 #[.pointer (some ⟨d, 0, none⟩), .int .i64 size, .int .i64 last] w (DPost d v st 0 w) := by
  have HA := append_any h ok hfu ⟨#[]⟩ (by simp [ByteArray.size]) (.slice none 0 0) [] (.inl ⟨rfl, rfl⟩) (fun k hk => by cases hk) (by simp)
  have hq : (dAppend st ⟨#[]⟩ []).1 = st ∧ ((dAppend st ⟨#[]⟩ []).2 = 15 ∨ (dAppend st ⟨#[]⟩ []).2 = 16) := by
    unfold dAppend
    split
    · exact ⟨rfl, .inl rfl⟩
    · rw [if_pos (by simp [namedB, ByteArray.size])]
      exact ⟨rfl, .inr rfl⟩
  unfold APost at HA
  rw [hq.1] at HA
  obtain ⟨r, hr⟩ : ∃ r, (dAppend st ⟨#[]⟩ []).2 = r := ⟨_, rfl⟩
  rw [hr] at HA hq
  have HC := Lib.hid HA
  have hr2 := hq.2
  have hre : (r == 1) = false := by simp; omega
  have c1 : ¬ size < 64 := by omega
  have c2 : ¬ (16777216 : Int) < size := by omega
  have c3 : ¬ last < 0 := by omega
  have c4 : ¬ (576460752303423488 : Int) < last := by omega
  clear h ok hfu HA hq hr h0 h1 h2 h3 hr2
  go_enter Tryd.func18, Tryd.ntmps18
  go_wp2_with fail
  refine HC.out.mono ?_
  rintro e w2 ⟨v', rfl, hd, hc, hn⟩
  have HP : Hid (DPost d v st 0 w (.returned (.int .i64 0)) w2) := ⟨v', rfl, hd, hc, hn⟩
  clear hd hc hn
  go_wp2
  exact bodyPost_ret (v := .int .i64 0) (by simp [results]) rfl HP.out
def BegP (d : Nat) (st : DkSt) (lg : LgSt) (v : Value) (w : World) (e : Ending) (w' : World) : Prop := ∃ l S', e = .returned (.tuple #[.pointer (some ⟨l, 0, none⟩), .int .i64 0]) ∧ w.heap.size ≤ l ∧ LB w' d l st lg S' ∧ (∀ x ∈ S', x ∈ dkS d v ∨ w.heap.size ≤ x) ∧ ChgS (dkS d v) w w'
set_option maxRecDepth 20000 in
set_option maxHeartbeats 1000000 in
theorem begin_ok {w : World} {d : Nat} {st : DkSt} {v : Value} (h : DkAt w d st v) (ok : DkOk st) (hfu : st.fuse ≤ 1000000000000) (size last : Int) (h0 : 64 ≤ size) (h1 : size ≤ 16777216) (h2 : 0 ≤ last) (h3 : last ≤ 576460752303423488) :
    Calls Tryd.prog 6 #[.pointer (some ⟨d, 0, none⟩), .int .i64 size, .int .i64 last] w (BegP d st ⟨size, [], last, last, false⟩ v w) := by
  have HM := Lib.hid (may_ok h ok hfu size last h0 h1 h2 h3)
  clear h ok hfu h0 h1 h2 h3
  go_enter Tryd.func6, Tryd.ntmps6
  go_wp2_with fail
  refine HM.out.mono ?_
  rintro e w2 ⟨v', rfl, hd, hc, hn⟩
  have HP : Hid (BegP d st ⟨size, [], last, last, false⟩ v w (.returned (.tuple #[.pointer (some ⟨w2.heap.size, 0, none⟩), .int .i64 0])) (w2.alloc (.cells #[.pointer (some ⟨d, 0, none⟩), .int .i64 size, .slice none 0 0, .int .i64 last, .int .i64 last, .bool false] 56))) := by
    refine ⟨w2.heap.size, dkS d v' ++ [w2.heap.size], rfl, hc.size, ⟨v', .slice none 0 0, hd.below (below1 w2 _), ⟨alloc_at _ _, FsAt.nil _⟩, rfl⟩, fun x hx => ?_, hc.then (below1 w2 _)⟩
    rcases List.mem_append.1 hx with hx | hx
    · exact dkS_sub hn x hx
    · have : x = w2.heap.size := by simpa using hx
      rw [this]
      exact .inr hc.size
  clear hd hc hn
  go_wp2
  exact bodyPost_ret (v := .tuple #[.pointer (some ⟨w2.heap.size, 0, none⟩), .int .i64 0]) (by simp [results]) rfl HP.out
set_option maxRecDepth 20000 in
set_option maxHeartbeats 1000000 in
theorem last_any {w : World} {d l : Nat} {S : List Nat} {dk : DkSt} {lg : LgSt} (h : LB w d l dk lg S) : Calls Tryd.prog 35 #[.pointer (some ⟨l, 0, none⟩)] w fun e w' => e = .returned (.int .i64 lg.last) ∧ w = w' := by
  obtain ⟨u, hb, _⟩ := h.cells
  have c0 := blk_cell hb 3
  simp at c0
  clear h hb
  go_enter Tryd.func35, Tryd.ntmps35
  go_wp2
  go_ret
  exact ⟨rfl, rfl⟩
set_option maxRecDepth 20000 in
set_option maxHeartbeats 1000000 in
theorem acked_any {w : World} {d l : Nat} {S : List Nat} {dk : DkSt} {lg : LgSt} (h : LB w d l dk lg S) : Calls Tryd.prog 34 #[.pointer (some ⟨l, 0, none⟩)] w fun e w' => e = .returned (.int .i64 lg.acked) ∧ w = w' := by
  obtain ⟨u, hb, _⟩ := h.cells
  have c0 := blk_cell hb 4
  simp at c0
  clear h hb
  go_enter Tryd.func34, Tryd.ntmps34
  go_wp2
  go_ret
  exact ⟨rfl, rfl⟩
end Go.Proofs.YthehpafkaefohaaDoor
namespace Go.Proofs.YthehpafkaefohaaDoor
open Go.RowKit
theorem str_nums (ys : List UInt8) : strOfNums (ys.map fun x => (x.toNat : Int)) = ⟨ys.toArray⟩ := by simp [strOfNums, Function.comp_def]
theorem rd_text {w : World} {v : Value} {ys : List UInt8} (h : RdB w v ys) : Sem.run Tryd.prog (convert 43 9 v) w = .ok (.string ⟨ys.toArray⟩) w := by
  rcases h with ⟨rfl, rfl⟩ | ⟨b, o, c, rfl, h1, h2, h3, h4⟩
  · exact run_convert_bytes_nil w 43 5 Tryd.underlying43 Tryd.underlying5 0 0 9 Tryd.underlying9
  · have := run_convert_bytes_arg (P := Tryd.prog) w 43 5 Tryd.underlying43 Tryd.underlying5 b o ys.length c (ys.map fun x => (x.toNat : Int)) (by simp) (fun i hi => by
      rw [h4 i ys[i] (List.getElem?_eq_getElem hi)]
      simp [List.getD, List.getElem?_eq_getElem hi]) 9 Tryd.underlying9
    rw [this, str_nums]
set_option maxRecDepth 20000 in
set_option maxHeartbeats 1000000 in
theorem sameBytes_any (u v : Value) (xs ys : List UInt8) (w : World) (hu : RdB w u xs) (hv : RdB w v ys) : Calls Tryd.prog 15 #[u, v] w fun e w' => e = .returned (.bool (decide (xs = ys))) ∧ w = w' := by
  have c1 := rd_text hu
  have c2 := rd_text hv
  obtain ⟨A, c, rfl, _, _⟩ := hu.form
  obtain ⟨A', c', rfl, _, _⟩ := hv.form
  clear hu hv
  have HD : Hid (decide (xs = ys) = (xs == ys)) := by show _ = _; by_cases h : xs = ys <;> simp [h]
  go_enter Tryd.func15, Tryd.ntmps15
  go_wp2
  go_ret
  exact ⟨by rw [HD.out]; rfl, rfl⟩
theorem conv_run (w : World) (s : ByteArray) : Sem.run Tryd.prog (convert 9 43 (.string s)) w = .ok (.slice (some ⟨w.heap.size, 0, none⟩) s.size (grownCap w s.size 0 5)) (Lib.bytesWorld w 5 s) :=
  Lib.run_convert_string_bytes w 9 43 5 s Tryd.underlying9 Tryd.underlying43 Tryd.underlying5
theorem conv_read (w : World) (s : ByteArray) (hs : s.size ≤ 30000) : RdB (Lib.bytesWorld w 5 s) (.slice (some ⟨w.heap.size, 0, none⟩) s.size (grownCap w s.size 0 5)) s.data.toList := by
  have hl : s.data.toList.length = s.size := rfl
  refine .inr ⟨w.heap.size, 0, grownCap w s.size 0 5, by rw [hl], by rw [hl]; exact grownCap_ge _ _ _ _, grownCap_le_maxLen _ _ _ _ (by simp only [maxLen]; omega), by rw [Lib.bytesWorld_size]; omega, fun j x hx => ?_⟩
  have hj := (List.getElem?_eq_some_iff.1 hx).1
  have := Lib.bytesWorld_cell w 5 s j (by omega)
  rw [Nat.zero_add, this]
  simp only [List.getD_eq_getElem?_getD, hx, Option.getD_some]
theorem conv_below (B : Nat) (w : World) (s : ByteArray) (h : B ≤ w.heap.size) : Below B w (Lib.bytesWorld w 5 s) := Joins.below_bytesWorld B w 5 s h
theorem rd_textE {w : World} {v : Value} {ys : List UInt8} (h : RdE w v ys) : Sem.run Tryd.prog (convert 43 9 v) w = .ok (.string ⟨ys.toArray⟩) w := by
  rcases h with h | ⟨a, c, rfl, _, rfl⟩
  · exact rd_text h
  · have hl : (loadCells a 0).run Tryd.prog w = .ok (([] : List Int).map (Value.int .u8)).toArray w := by
      have := run_loadCells_list (P := Tryd.prog) w a [] (fun j v hj => by simp at hj)
      simpa using this
    rw [run_convert_bytes_string w 43 9 5 _ 0 c Tryd.underlying43 Tryd.underlying5 Tryd.underlying9, run_bytesToString w _ 0 c [] hl, foldl_push_bytes]
    simp [ByteArray.empty, ByteArray.emptyWithCapacity]
    rfl
set_option maxRecDepth 20000 in
set_option maxHeartbeats 1000000 in
theorem sameBytes_e (u v : Value) (xs ys : List UInt8) (w : World) (hu : RdE w u xs) (hv : RdE w v ys) : Calls Tryd.prog 15 #[u, v] w fun e w' => e = .returned (.bool (decide (xs = ys))) ∧ w = w' := by
  have c1 := rd_textE hu
  have c2 := rd_textE hv
  obtain ⟨A, c, rfl, _, _⟩ := hu.form
  obtain ⟨A', c', rfl, _, _⟩ := hv.form
  clear hu hv
  have HD : Hid (decide (xs = ys) = (xs == ys)) := by show _ = _; by_cases h : xs = ys <;> simp [h]
  go_enter Tryd.func15, Tryd.ntmps15
  go_wp2
  go_ret
  exact ⟨by rw [HD.out]; rfl, rfl⟩
/-- bytes that a row of bytes holds, whoever made them -/
def RbOwn (w : World) (v : Value) (xs : List UInt8) : Prop := RdB w v xs ∧ ∀ k, Value.readBlock v = some k → ∃ cs fr, w.heap[k]? = some (.cells cs 5 fr)
theorem RbOwn.stay {w w' : World} {v : Value} {xs : List UInt8} (h : RbOwn w v xs) (hs : Stay [5] w w') : RbOwn w' v xs := by
  obtain ⟨h1, h2⟩ := h
  refine ⟨?_, fun k hk => ?_⟩
  · rcases h1 with h1 | ⟨b, o, c, rfl, a1, a2, a3, a4⟩
    · exact .inl h1
    · obtain ⟨cs, fr, hb⟩ := h2 b rfl
      have hb2 := hs b cs _ fr (by simp) hb
      refine .inr ⟨b, o, c, rfl, a1, a2, blk_lt hb2, fun j x hj => ?_⟩
      rw [← a4 j x hj]
      rw [blk_cell hb, blk_cell hb2]
  · obtain ⟨cs, fr, hb⟩ := h2 k hk
    exact ⟨cs, fr, hs k cs _ fr (by simp) hb⟩
def mRb : Mv (List UInt8) := ⟨1, [5], fun B w vs xs => ∃ v, vs = [v] ∧ RdB w v xs ∧ ∀ k, Value.readBlock v = some k → k < B, fun _ w vs xs => ∃ v, vs = [v] ∧ RbOwn w v xs⟩
theorem mRb_law : mRb.Lawful where
  pos := Nat.one_pos
  len h := by obtain ⟨v, rfl, _⟩ := h; rfl
  olen h := by obtain ⟨v, rfl, _⟩ := h; rfl
  keep h k := by
    obtain ⟨v, rfl, h1, h2⟩ := h
    exact ⟨v, rfl, h1.lower h2 k.size k, h2⟩
  toRep h := by
    obtain ⟨v, rfl, h, _⟩ := h
    exact ⟨v, rfl, h, rdB_block h⟩
  okeep h k := by
    obtain ⟨v, rfl, h⟩ := h
    exact ⟨v, rfl, h.stay k⟩
  cell h := by
    obtain ⟨v, rfl, h, _⟩ := h
    obtain ⟨A, c, rfl, _⟩ := h.form
    intro u hu
    simp at hu
    subst hu; rfl
  rcell h := by
    obtain ⟨v, rfl, h, _⟩ := h
    obtain ⟨A, c, rfl, _⟩ := h.form
    intro u hu
    simp at hu
    subst hu; rfl
theorem elB : Elem 43 33 1 24 (.slice none 0 0) := ⟨by kernel_rfl, by kernel_rfl, by kernel_rfl⟩
theorem elS : Elem 9 35 1 16 (.string ⟨#[]⟩) := ⟨by kernel_rfl, by kernel_rfl, by kernel_rfl⟩
theorem rb_list {base : Nat} {w : World} {v : Value} {yss : List (List UInt8)} (h : LOwn 43 mRb base w v yss) : RdL w v yss := by
  by_cases hn : yss = []
  · subst hn
    obtain ⟨cells, ho, _⟩ := h
    rcases ho.2 with ⟨rfl, _⟩ | ⟨g, cap, cur, rfl, _, hh, h3, h4, _⟩
    · exact .inl ⟨none, 0, rfl, Nat.zero_le _, rfl⟩
    · exact .inr ⟨g, 0, cap, rfl, h3, h4, blk_lt hh, fun j y hj => by simp at hj⟩
  · obtain ⟨x, hx⟩ : ∃ x, yss[0]? = some x := ⟨_, List.getElem?_eq_getElem (List.length_pos_iff.2 hn)⟩
    obtain ⟨g, c, cur, us, rfl, hh, h3, h4, _, _⟩ := h.elem hx
    refine .inr ⟨g, 0, c, rfl, h3, h4, blk_lt hh, fun j y hj => ?_⟩
    obtain ⟨g', c', cur', us', he, hh', _, _, ⟨u, rfl, hu⟩, h6⟩ := h.elem hj
    injection he with he
    injection he with he
    injection he with he
    subst he
    refine ⟨u, ?_, .inl hu.1⟩
    rw [blk_cell hh']
    have := h6 0 u rfl
    rw [show j * mRb.n + 0 = 0 + j by show j * 1 + 0 = 0 + j; omega] at this
    exact this
end Go.Proofs.YthehpafkaefohaaDoor
namespace Go.Proofs.YthehpafkaefohaaDoor
open Go.RowKit
theorem below_grown {B : Nat} {a w w' : World} {row : Option Nat} (h : Below B a w) (hg : w.grownBy w' row) (hB : B ≤ w.heap.size) (hr : ∀ k, row = some k → B ≤ k) : Below B a w' :=
  ⟨hg.os.trans h.os, hg.tape.trans h.tape, hg.output.trans h.output, Nat.le_trans h.size hg.size, fun k hk => (hg.block k (Nat.lt_of_lt_of_le hk hB) (fun e => by have := hr k e.symm; omega)).trans (h.block k hk)⟩
theorem LOwn.lo {α : Type} {T : TypeId} {m : Mv α} {base : Nat} {w : World} {v : Value} {xs : List α} (h : LOwn T m base w v xs) : ∀ k, v.ownBlock = some k → base ≤ k := by
  obtain ⟨cells, ho, _⟩ := h
  intro k hk
  rcases ho.2 with ⟨rfl, h2⟩ | ⟨g, cap, cur, rfl, hb, _⟩
  · cases hk
  · injection hk with hk
    subst hk; exact hb
set_option maxRecDepth 20000 in
set_option maxHeartbeats 2000000 in
theorem recs_any (b : Nat) (ss : List ByteArray) (w : World) (hs : ∀ (k : Nat) (s : ByteArray), ss[k]? = some s → w.cell? ⟨b, k, none⟩ = some (.string s)) (hsz : ∀ s ∈ ss, s.size ≤ 30000) (hn : ss.length ≤ 1000) :
    Calls Tryd.prog 33 #[.slice (some ⟨b, 0, none⟩) ss.length ss.length] w fun e w' => ∃ v, e = .returned v ∧ RdL w' v (ss.map fun s => s.data.toList) ∧ Below w.heap.size w w' := by
  obtain ⟨L, hL⟩ : ∃ L, (ss.map fun s => s.data.toList) = L := ⟨_, rfl⟩
  have HL := Lib.hid hL
  rw [hL]
  have hLl : L.length = ss.length := by rw [← hL]; simp
  obtain ⟨n, hnn⟩ : ∃ n, ss.length = n := ⟨_, rfl⟩
  have HN := Lib.hid hnn
  have HLL := Lib.hid hLl
  have HS := Lib.hid hs
  have HSZ := Lib.hid hsz
  rw [hnn] at hn ⊢
  have HB0 := Lib.hid (Below.refl w.heap.size w)
  clear hL hLl hnn hs hsz
  go_enter Tryd.func33, Tryd.ntmps33
  go_wp2
  go_loopw [3, 4] (fun o i wr => ∃ (k : Nat) (A : Option Addr) (c : Nat), o = .slice A k c ∧ i = .int .i64 k ∧ k ≤ n ∧ Hid (LOwn 43 mRb w.heap.size wr o (L.take k)) ∧ Hid (Below w.heap.size w wr)) (fun _ i _ => n - (intOf i).toNat)
  case atStart => exact ⟨0, none, 0, rfl, rfl, Nat.zero_le _, Lib.hid (LOwn.nil _ _), HB0⟩
  case round =>
    obtain ⟨k, A, c, rfl, rfl, hk, HO, HB⟩ := hrel
    by_cases hlt : k < n
    · obtain ⟨s, hks⟩ : ∃ s, ss[k]? = some s := ⟨_, List.getElem?_eq_getElem (by rw [HN.out]; exact hlt)⟩
      have d0 := cell_later HB.out (HS.out k s hks)
      have hz := HSZ.out s (List.mem_of_getElem? hks)
      have hy : L[k]? = some s.data.toList := by rw [← HL.out, List.getElem?_map, hks]; rfl
      have HT : Hid (L.take (k + 1) = L.take k ++ [s.data.toList]) := by show _ = _; rw [List.take_add_one, hy]; rfl
      obtain ⟨W2, hW2⟩ : ∃ x, Lib.bytesWorld wr 5 s = x := ⟨_, rfl⟩
      have hconv := conv_run wr s
      have hrd := conv_read wr s hz
      have hbw := conv_below wr.heap.size wr s (Nat.le_refl _)
      have hat := Lib.bytesWorld_at_new wr 5 s
      rw [hW2] at hconv hrd hbw hat
      obtain ⟨cp, hcp⟩ : ∃ x, grownCap wr s.size 0 5 = x := ⟨_, rfl⟩
      rw [hcp] at hconv hrd
      have hb3 := below1 W2 (.cells #[.slice (some ⟨wr.heap.size, 0, none⟩) s.size cp] 43)
      have hown : LOwn 43 mRb w.heap.size (W2.alloc (.cells #[.slice (some ⟨wr.heap.size, 0, none⟩) s.size cp] 43)) (.slice A k c) (L.take k) := (HO.out.keep mRb_law (Stay.below hbw)).keep mRb_law (Stay.below hb3)
      have hyo : mRb.own w.heap.size (W2.alloc (.cells #[.slice (some ⟨wr.heap.size, 0, none⟩) s.size cp] 43)) [.slice (some ⟨wr.heap.size, 0, none⟩) s.size cp] s.data.toList := ⟨_, rfl, hrd.below hb3, fun k' hk' => by
        injection hk' with hk'
        subst hk'
        exact ⟨_, _, blk_below hb3 hat⟩⟩
      have HOWN := Lib.hid hown
      have HYO := Lib.hid hyo
      have HW := Lib.hid (HB.out.trans ((hbw.trans (hb3.mono hbw.size)).mono HB.out.size))
      have htl : (L.take k).length = k := by rw [List.length_take, HLL.out, HN.out]; omega
      have HTL := Lib.hid htl
      have hkn : (k : Int) < n := by omega
      have hlo := HO.out.lo
      have HLO := Lib.hid hlo
      clear hks hz hy hrd hbw hat hb3 hown hyo htl hlo hW2 hcp
      go_wp2_with (at_builtin; refine wpList_push rfl _ _ rfl elB mRb_law (by decide) w.heap.size (.slice A k c) (L.take k) s.data.toList [.slice (some ⟨wr.heap.size, 0, none⟩) s.size cp] W2.heap.size rfl HOWN.out rfl (alloc_at W2 _) HYO.out (by rw [HTL.out]; omega) (by omega) HW.out.size ?_; intro v' w' ho hg hnb)
      obtain ⟨A', c', rfl⟩ := ho.form
      have hlen : (L.take k ++ [s.data.toList]).length = k + 1 := by rw [List.length_append, HTL.out]; rfl
      rw [hlen] at ho ⊢
      have HOO : Hid (LOwn 43 mRb w.heap.size w' (.slice A' (k + 1) c') (L.take (k + 1))) := by show LOwn _ _ _ _ _ _; rw [HT.out]; exact ho
      have HBB := Lib.hid (below_grown HW.out hg HW.out.size HLO.out)
      clear ho hg hnb hlen
      go_wp2
      first
      | exact ⟨⟨k + 1, A', c', rfl, by go_num, by omega, HOO, HBB⟩, by simp [intOf]; omega⟩
      | (go_roundw
         case rel => exact ⟨k + 1, A', c', rfl, by go_num, by omega, HOO, HBB⟩
         case measure => simp [intOf]; omega)
    · obtain rfl : k = n := by omega
      have HF : Hid (LOwn 43 mRb w.heap.size wr (.slice A k c) L) := by
        have := HO.out
        rwa [List.take_of_length_le (by rw [HLL.out, HN.out]; exact Nat.le_refl _)] at this
      go_wp2
      exact bodyPost_ret (v := .slice A k c) (by simp [results]) rfl ⟨_, rfl, rb_list HF.out, HB.out⟩
end Go.Proofs.YthehpafkaefohaaDoor
namespace Go.Proofs.YthehpafkaefohaaDoor
open Go.RowKit
set_option maxRecDepth 20000 in
set_option maxHeartbeats 2000000 in
theorem files_any {w : World} {d l : Nat} {S : List Nat} {dk : DkSt} {lg : LgSt} (h : LB w d l dk lg S) (hg : GB S w) (hn : lg.firsts.length ≤ 1000000) :
    Calls Tryd.prog 8 #[.pointer (some ⟨l, 0, none⟩)] w fun e w' => ∃ v, e = .returned v ∧ LOwn 9 mS w.heap.size w' v (lFiles lg) ∧ Below w.heap.size w w' := by
  obtain ⟨u, hbl, hol⟩ := h.cells
  have c2 := blk_cell hbl 2
  simp at c2
  obtain ⟨A0, q0, rfl⟩ := hol.form
  obtain ⟨L, hL⟩ : ∃ L, lFiles lg = L := ⟨_, rfl⟩
  have HL := Lib.hid hL
  rw [hL]
  have hLl : L.length = lg.firsts.length := by rw [← hL]; simp [lFiles]
  obtain ⟨n, hnn⟩ : ∃ n, lg.firsts.length = n := ⟨_, rfl⟩
  have HN := Lib.hid hnn
  have HLL := Lib.hid hLl
  have HO := Lib.hid hol
  have hgk := hg.gok
  have HNM := Lib.hid (fun w2 (hb2 : Below w.heap.size w w2) x => name_any x w2 (hgk.below hb2))
  rw [hnn] at hn c2 HO
  have HB0 := Lib.hid (Below.refl w.heap.size w)
  clear hL hLl hnn h hg hbl hol hgk
  go_enter Tryd.func8, Tryd.ntmps8
  go_wp2
  go_loopw [3, 13] (fun o i wr => ∃ (k : Nat) (A : Option Addr) (c : Nat), o = .slice A k c ∧ i = .int .i64 k ∧ k ≤ n ∧ Hid (LOwn 9 mS w.heap.size wr o (L.take k)) ∧ Hid (Below w.heap.size w wr)) (fun _ i _ => n - (intOf i).toNat)
  case atStart => exact ⟨0, none, 0, rfl, rfl, Nat.zero_le _, Lib.hid (LOwn.nil _ _), HB0⟩
  case round =>
    obtain ⟨k, A, c, rfl, rfl, hk, HO2, HB⟩ := hrel
    by_cases hlt : k < n
    · obtain ⟨x, hx⟩ : ∃ x, lg.firsts[k]? = some x := ⟨_, List.getElem?_eq_getElem (by rw [HN.out]; exact hlt)⟩
      obtain ⟨g, og, c', hv, d0w, _, _, _⟩ := first_at HO.out hx
      injection hv with hv1 hv2 hv3
      subst hv1
      have d0 := cell_later HB.out d0w
      have hy : L[k]? = some (nameL x) := by rw [← HL.out]; unfold lFiles; rw [List.getElem?_map, hx]; rfl
      have HT : Hid (L.take (k + 1) = L.take k ++ [nameL x]) := by show _ = _; rw [List.take_add_one, hy]; rfl
      have htl : (L.take k).length = k := by rw [List.length_take, HLL.out, HN.out]; omega
      have HTL := Lib.hid htl
      have hkn : (k : Int) < n := by omega
      obtain ⟨nm, hnm⟩ : ∃ nm, nameL x = nm := ⟨_, rfl⟩
      have HNX := Lib.hid (HNM.out wr HB.out x)
      rw [hnm] at HNX HT
      clear hx hv2 hv3 d0w hy htl hnm
      go_wp2_with fail
      refine HNX.out.mono ?_
      rintro e w5 ⟨rfl, hb5⟩
      have hb3 := below1 w5 (.cells #[.string nm] 9)
      have HOWN := Lib.hid ((HO2.out.keep mS_law (Stay.below hb5)).keep mS_law (Stay.below hb3))
      have HW := Lib.hid (HB.out.trans ((hb5.trans (hb3.mono hb5.size)).mono HB.out.size))
      have HLO := Lib.hid HO2.out.lo
      clear hb5 hb3 d0
      go_wp2_with (at_builtin; refine wpList_push rfl _ _ rfl elS mS_law (by intro h; cases h) w.heap.size (.slice A k c) (L.take k) nm [.string nm] w5.heap.size rfl HOWN.out rfl (alloc_at w5 _) rfl (by rw [HTL.out]; omega) (by omega) HW.out.size ?_; intro v' w' ho hg hnb)
      obtain ⟨A', c'', rfl⟩ := ho.form
      have hlen : (L.take k ++ [nm]).length = k + 1 := by rw [List.length_append, HTL.out]; rfl
      rw [hlen] at ho ⊢
      have HOO : Hid (LOwn 9 mS w.heap.size w' (.slice A' (k + 1) c'') (L.take (k + 1))) := by show LOwn _ _ _ _ _ _; rw [HT.out]; exact ho
      have HBB := Lib.hid (below_grown HW.out hg HW.out.size HLO.out)
      clear ho hg hnb hlen
      go_wp2
      first
      | exact ⟨⟨k + 1, A', c'', rfl, by go_num, by omega, HOO, HBB⟩, by simp [intOf]; omega⟩
      | (go_roundw
         case rel => exact ⟨k + 1, A', c'', rfl, by go_num, by omega, HOO, HBB⟩
         case measure => simp [intOf]; omega)
    · obtain rfl : k = n := by omega
      have HF : Hid (LOwn 9 mS w.heap.size wr (.slice A k c) L) := by
        have := HO2.out
        rwa [List.take_of_length_le (by rw [HLL.out, HN.out]; exact Nat.le_refl _)] at this
      go_wp2
      exact bodyPost_ret (v := .slice A k c) (by simp [results]) rfl ⟨_, rfl, HF.out, HB.out⟩
end Go.Proofs.YthehpafkaefohaaDoor
namespace Go.Proofs.YthehpafkaefohaaDoor
open Go.RowKit
/-- a row of texts that a slice reads as -/
def RdT (w : World) (v : Value) (xs : List ByteArray) : Prop := (v = .slice none 0 0 ∧ xs = []) ∨
  ∃ b o c, v = .slice (some ⟨b, o, none⟩) xs.length c ∧ xs.length ≤ c ∧ c ≤ maxLen ∧ ∀ (j : Nat) (s : ByteArray), xs[j]? = some s → w.cell? ⟨b, o + j, none⟩ = some (.string s)
theorem RdT.form {w : World} {v : Value} {xs : List ByteArray} (h : RdT w v xs) : ∃ A c, v = .slice A xs.length c ∧ xs.length ≤ c ∧ c ≤ maxLen := by
  rcases h with ⟨rfl, rfl⟩ | ⟨b, o, c, rfl, h1, h2, _⟩
  · exact ⟨none, 0, rfl, Nat.le_refl _, by simp⟩
  · exact ⟨_, c, rfl, h1, h2⟩
theorem RdT.at {w : World} {A : Option Addr} {c n : Nat} {xs : List ByteArray} (h : RdT w (.slice A n c) xs) {j : Nat} {s : ByteArray} (hj : xs[j]? = some s) : ∃ b o, A = some ⟨b, o, none⟩ ∧ w.cell? ⟨b, o + j, none⟩ = some (.string s) := by
  rcases h with ⟨_, rfl⟩ | ⟨b, o, c, hv, _, _, h4⟩
  · simp at hj
  · injection hv with hv
    exact ⟨b, o, hv, h4 j s hj⟩
theorem rdT_own {base : Nat} {w : World} {v : Value} {xs : List ByteArray} (h : LOwn 9 mS base w v xs) : RdT w v xs := by
  by_cases hn : xs = []
  · subst hn
    obtain ⟨cells, ho, _⟩ := h
    rcases ho.2 with ⟨rfl, _⟩ | ⟨g, cap, cur, rfl, _, hh, h3, h4, _⟩
    · exact .inl ⟨rfl, rfl⟩
    · exact .inr ⟨g, 0, cap, rfl, h3, h4, fun j y hj => by simp at hj⟩
  · obtain ⟨x, hx⟩ : ∃ x, xs[0]? = some x := ⟨_, List.getElem?_eq_getElem (List.length_pos_iff.2 hn)⟩
    obtain ⟨g, c, cur, us, rfl, hh, h3, h4, _, _⟩ := h.elem hx
    refine .inr ⟨g, 0, c, rfl, h3, h4, fun j y hj => ?_⟩
    obtain ⟨g', c', cur', us', he, hh', _, _, hu, h6⟩ := h.elem hj
    injection he with he
    injection he with he
    injection he with he
    subst he
    have hu : us' = [.string y] := hu
    subst hu
    rw [blk_cell hh']
    have := h6 0 _ rfl
    rw [show j * mS.n + 0 = 0 + j by show j * 1 + 0 = 0 + j; omega] at this
    exact this
theorem str_ne {s t : ByteArray} (h : s ≠ t) : (s.toList == t.toList) = false := by
  rw [beq_eq_false_iff_ne]
  intro e
  exact h (eqN_data.1 (eqN_iff.2 e))
set_option maxRecDepth 20000 in
set_option maxHeartbeats 2000000 in
theorem sameTexts_any (u v : Value) (xs ys : List ByteArray) (w : World) (hu : RdT w u xs) (hv : RdT w v ys) : Calls Tryd.prog 13 #[u, v] w fun e w' => e = .returned (.bool (decide (xs = ys))) ∧ Below w.heap.size w w' := by
  obtain ⟨A, c, rfl, h1, h2⟩ := hu.form
  obtain ⟨A', c', rfl, h3, h4⟩ := hv.form
  have hm1 : xs.length ≤ 9223372036854775807 := by simp only [maxLen] at h2; omega
  have hm2 : ys.length ≤ 9223372036854775807 := by simp only [maxLen] at h4; omega
  obtain ⟨n, hn⟩ : ∃ n, xs.length = n := ⟨_, rfl⟩
  obtain ⟨m, hm⟩ : ∃ m, ys.length = m := ⟨_, rfl⟩
  have HN := Lib.hid hn
  have HM := Lib.hid hm
  obtain ⟨r, hr⟩ : ∃ r, decide (xs = ys) = r := ⟨_, rfl⟩
  have HR := Lib.hid hr
  rw [hn] at hu hm1
  rw [hm] at hv hm2
  rw [hn, hm, hr]
  have HU := Lib.hid hu
  have HV := Lib.hid hv
  have HB0 := Lib.hid (Below.refl w.heap.size w)
  clear hu hv hn hm h1 h2 h3 h4 hr
  go_enter Tryd.func13, Tryd.ntmps13
  go_wp2
  go_loopw [8] (fun i wr => ∃ k : Nat, i = .int .i64 k ∧ k ≤ n ∧ k ≤ m ∧ Hid (xs.take k = ys.take k) ∧ Hid (Below w.heap.size w wr)) (fun i _ => n - (intOf i).toNat)
  case atStart => exact ⟨0, rfl, Nat.zero_le _, Nat.zero_le _, Lib.hid (by simp), HB0⟩
  case round =>
    obtain ⟨k, rfl, hk, hkm, HE, HB⟩ := hrel
    by_cases hlt : k < n
    · obtain ⟨x, hx⟩ : ∃ x, xs[k]? = some x := ⟨_, List.getElem?_eq_getElem (by rw [HN.out]; exact hlt)⟩
      obtain ⟨b, o, hA, d0w⟩ := HU.out.at hx
      subst hA
      have d0 := cell_later HB.out d0w
      have hkn : (k : Int) < n := by omega
      by_cases he : k = m
      · have hF : r = false := by
          rw [← HR.out]
          refine decide_eq_false fun e => ?_
          have h1 := HN.out
          have h2 := HM.out
          rw [e] at h1
          omega
        subst he
        have HF := Lib.hid hF
        clear hx d0w hF
        go_upto_region 4 with fail
        go_quiet (fail)
        go_wp2
        exact bodyPost_ret (v := .bool false) (by simp [results]) rfl ⟨by rw [HF.out], below_drewN HB.out _⟩
      · have hkm2 : (k : Int) < m := by omega
        have hkme : ((k : Int) == (m : Int)) = false := by simp; omega
        obtain ⟨y, hy⟩ : ∃ y, ys[k]? = some y := ⟨_, List.getElem?_eq_getElem (by rw [HM.out]; omega)⟩
        obtain ⟨b', o', hA', d1w⟩ := HV.out.at hy
        subst hA'
        have d1 := cell_later HB.out d1w
        by_cases hxy : x = y
        · subst hxy
          have HE2 : Hid (xs.take (k + 1) = ys.take (k + 1)) := by show _ = _; rw [List.take_add_one, List.take_add_one, hx, hy, HE.out]
          have hseq : (x.toList == x.toList) = true := by simp
          clear hx hy d0w d1w
          go_upto_region 4 with fail
          go_quiet (fail)
          go_wp2
          first
          | exact ⟨⟨k + 1, by go_num, by omega, by omega, HE2, Lib.hid (below_drewN HB.out _)⟩, by simp [intOf]; omega⟩
          | (go_roundw
             case rel => exact ⟨k + 1, by go_num, by omega, by omega, HE2, Lib.hid (below_drewN HB.out _)⟩
             case measure => simp [intOf]; omega)
        · have hF : r = false := by
            rw [← HR.out]
            refine decide_eq_false fun e => ?_
            rw [e, hy] at hx
            injection hx with hx
            exact hxy hx.symm
          have HF := Lib.hid hF
          have hseq := str_ne hxy
          clear hx hy d0w d1w hF hxy
          go_upto_region 4 with fail
          go_quiet (fail)
          go_wp2
          exact bodyPost_ret (v := .bool false) (by simp [results]) rfl ⟨by rw [HF.out], below_drewN HB.out _⟩
    · obtain rfl : k = n := by omega
      have HF : Hid (r = decide ((k : Int) = (m : Int))) := by
        show _ = _
        rw [← HR.out]
        by_cases e : k = m
        · have : xs = ys := by
            have := HE.out
            rwa [List.take_of_length_le (by rw [HN.out]; exact Nat.le_refl _), List.take_of_length_le (by rw [HM.out]; omega)] at this
          simp [this, e]
        · have : xs ≠ ys := fun h => e (by have h1 := HN.out; have h2 := HM.out; rw [h] at h1; omega)
          simp [this]
          omega
      by_cases e : k = m
      · subst e
        have HT : Hid (r = true) := by show _ = _; rw [HF.out]; simp
        clear HF
        go_wp2
        exact bodyPost_ret (v := .bool true) (by simp [results]) rfl ⟨by rw [HT.out], HB.out⟩
      · have hkme : ((k : Int) == (m : Int)) = false := by simp; omega
        have HT : Hid (r = false) := by show _ = _; rw [HF.out]; simp; omega
        clear HF
        go_wp2
        exact bodyPost_ret (v := .bool false) (by simp [results]) rfl ⟨by rw [HT.out], HB.out⟩
end Go.Proofs.YthehpafkaefohaaDoor

/- Walks: may and Begin, where they refuse; slices.Clone of numbers; Resume. Conditions: sizes a machine can have. -/
import Derived.Test.YthehpafkaefohaaGreatDoorCkM22
import Derived.Test.YthehpafkaefohaaGreatDoorCkM21
import Derived.Lib.AppendZeros
namespace Go.Proofs.YthehpafkaefohaaGreatDoor
open Go.RowKit
def mayE (size last : Int) : Int := if size < 64 ∨ 16777216 < size ∨ last < 0 ∨ 576460752303423488 < last then 2 else 0
set_option maxRecDepth 20000 in
set_option maxHeartbeats 1000000 in
theorem may_any {w : World} {d : Nat} {st : DkSt} {v : Value} (h : DkAt w d st v) (ok : DkOk st) (hfu : st.fuse ≤ 1000000000000) (size last : Int) :
    Calls Tryz.prog 74 #[.pointer (some ⟨d, 0, none⟩), .int .i64 size, .int .i64 last] w (DPost d v st (mayE size last) w) := by
  by_cases hok : 64 ≤ size ∧ size ≤ 16777216 ∧ 0 ≤ last ∧ last ≤ 576460752303423488
  · rw [show mayE size last = 0 by unfold mayE; rw [if_neg (by omega)]]
    exact may_ok h ok hfu size last hok.1 hok.2.1 hok.2.2.1 hok.2.2.2
  · rw [show mayE size last = 2 by unfold mayE; rw [if_pos (by omega)]]
    have HA := append_any h ok hfu ⟨#[]⟩ (by simp [ByteArray.size]) (.slice none 0 0) [] (.inl ⟨rfl, rfl⟩) (fun k hk => by cases hk) (by simp)
    have hq : (dAppend st ⟨#[]⟩ []).1 = st ∧ ((dAppend st ⟨#[]⟩ []).2 = 15 ∨ (dAppend st ⟨#[]⟩ []).2 = 16) := by
      unfold dAppend
      split
      · exact ⟨rfl, .inl rfl⟩
      · rw [if_pos (by simp [namedB, ByteArray.size])]
        exact ⟨rfl, .inr rfl⟩
    unfold APost at HA
    rw [hq.1] at HA
    obtain ⟨r, hr⟩ : ∃ r, (dAppend st ⟨#[]⟩ []).2 = r := ⟨_, rfl⟩
    rw [hr] at HA hq
    have HC := Lib.hid HA
    have hr2 := hq.2
    have hre : (r == 1) = false := by simp; omega
    clear h ok hfu HA hq hr hr2
    go_enter Tryz.func74, Tryz.ntmps74
    go_wp2_with fail
    refine HC.out.mono ?_
    rintro e w2 ⟨v', rfl, hd, hc, hn⟩
    have HP : Hid (DPost d v st 2 w (.returned (.int .i64 2)) w2) := ⟨v', rfl, hd, hc, hn⟩
    clear hd hc hn
    by_cases c1 : size < 64
    · go_wp2
      exact bodyPost_ret (v := .int .i64 2) (by simp [results]) rfl HP.out
    · by_cases c2 : (16777216 : Int) < size
      · go_wp2
        exact bodyPost_ret (v := .int .i64 2) (by simp [results]) rfl HP.out
      · by_cases c3 : last < 0
        · go_wp2
          exact bodyPost_ret (v := .int .i64 2) (by simp [results]) rfl HP.out
        · have c4 : (576460752303423488 : Int) < last := by omega
          go_wp2
          exact bodyPost_ret (v := .int .i64 2) (by simp [results]) rfl HP.out
/-- a call of Begin or Resume that refuses -/
def BadP (d : Nat) (v : Value) (st : DkSt) (r : Int) (w : World) (e : Ending) (w' : World) : Prop := ∃ v', e = .returned (.tuple #[.pointer none, .int .i64 r]) ∧ DkAt w' d st v' ∧ ChgS (dkS d v) w w' ∧ NR v v' w
set_option maxRecDepth 20000 in
set_option maxHeartbeats 1000000 in
theorem begin_bad {w : World} {d : Nat} {st : DkSt} {v : Value} (h : DkAt w d st v) (ok : DkOk st) (hfu : st.fuse ≤ 1000000000000) (size last : Int) (hb : mayE size last ≠ 0) :
    Calls Tryz.prog 23 #[.pointer (some ⟨d, 0, none⟩), .int .i64 size, .int .i64 last] w (BadP d v st 2 w) := by
  have h2 : mayE size last = 2 := by unfold mayE at hb ⊢; split <;> simp_all
  have hm := may_any h ok hfu size last
  rw [h2] at hm
  have HM := Lib.hid hm
  clear h ok hfu hb h2 hm
  go_enter Tryz.func23, Tryz.ntmps23
  go_wp2_with fail
  refine HM.out.mono ?_
  rintro e w2 ⟨v', rfl, hd, hc, hn⟩
  have HP : Hid (BadP d v st 2 w (.returned (.tuple #[.pointer none, .int .i64 2])) w2) := ⟨v', rfl, hd, hc, hn⟩
  clear hd hc hn
  go_wp2
  exact bodyPost_ret (v := .tuple #[.pointer none, .int .i64 2]) (by simp [results]) rfl HP.out
theorem eql_nilI (a : Option Addr) (n c : Nat) (w : World) : Sem.run Tryz.prog (binOp .eql 25 (.slice a n c) (.slice none 0 0)) w = .ok (.bool a.isNone) w := by
  simp only [binOp]
  simp [run_equal_slice_nil (P := Tryz.prog) w 25 3 a n c Tryz.underlying25]
/-- numbers that a slice reads as -/
def RdI (w : World) (v : Value) (xs : List Int) : Prop := (∃ A c, v = .slice A 0 c ∧ xs = []) ∨
  ∃ b o c, v = .slice (some ⟨b, o, none⟩) xs.length c ∧ xs.length ≤ c ∧ c ≤ maxLen ∧ b < w.heap.size ∧ ∀ (j : Nat) (x : Int), xs[j]? = some x → w.cell? ⟨b, o + j, none⟩ = some (.int .i64 x)
theorem RdI.form {w : World} {v : Value} {xs : List Int} (h : RdI w v xs) : ∃ A c, v = .slice A xs.length c := by
  rcases h with ⟨A, c, rfl, rfl⟩ | ⟨b, o, c, rfl, _⟩
  · exact ⟨A, c, rfl⟩
  · exact ⟨_, c, rfl⟩
theorem RdI.at {w : World} {A : Option Addr} {n c : Nat} {xs : List Int} (h : RdI w (.slice A n c) xs) {j : Nat} {x : Int} (hj : xs[j]? = some x) : ∃ b o, A = some ⟨b, o, none⟩ ∧ w.cell? ⟨b, o + j, none⟩ = some (.int .i64 x) := by
  rcases h with ⟨_, _, _, rfl⟩ | ⟨b, o, c', hv, _, _, _, h4⟩
  · simp at hj
  · injection hv with hv
    exact ⟨b, o, hv, h4 j x hj⟩
theorem RdI.below {w w' : World} {v : Value} {xs : List Int} (h : RdI w v xs) (hb : Below w.heap.size w w') : RdI w' v xs := by
  rcases h with h | ⟨b, o, c, rfl, h1, h2, h3, h4⟩
  · exact .inl h
  · exact .inr ⟨b, o, c, rfl, h1, h2, Nat.lt_of_lt_of_le h3 hb.size, fun j x hj => cell_later hb (h4 j x hj)⟩
/-- numbers outside of S stay -/
theorem RdI.chgS {w w' : World} {S : List Nat} {v : Value} {xs : List Int} (h : RdI w v xs) (hc : ChgS S w w') (hS : ∀ x ∈ S, w.heap.size ≤ x ∨ (∀ k, v.ownBlock = some k → x ≠ k)) : RdI w' v xs := by
  rcases h with h | ⟨b, o, c, rfl, h1, h2, h3, h4⟩
  · exact .inl h
  · refine .inr ⟨b, o, c, rfl, h1, h2, Nat.lt_of_lt_of_le h3 hc.size, fun j x hj => ?_⟩
    exact (World.cell?_of_block (w := w) (a := ⟨b, o + j, none⟩) (hc.block b h3 (fun hm => by
      rcases hS b hm with h5 | h5
      · omega
      · exact h5 b rfl rfl))).trans (h4 j x hj)
set_option maxRecDepth 20000 in
set_option maxHeartbeats 1000000 in
theorem clone_ints (v : Value) (xs : List Int) (w : World) (hr : RdI w v xs) (h0 : 0 < xs.length) (hl : xs.length ≤ 1000000000) :
    Calls Tryz.prog 93 #[v] w fun e w' => ∃ A c, e = .returned (.slice A xs.length c) ∧ FsAt w' (.slice A xs.length c) xs ∧ (∀ k, Value.ownBlock (.slice A xs.length c) = some k → w.heap.size ≤ k) ∧ Below w.heap.size w w' := by
  obtain ⟨b, o, c, hv, hlc, hcm, hbl, hcell⟩ : ∃ b o c, v = .slice (some ⟨b, o, none⟩) xs.length c ∧ xs.length ≤ c ∧ c ≤ maxLen ∧ b < w.heap.size ∧ ∀ (j : Nat) (x : Int), xs[j]? = some x → w.cell? ⟨b, o + j, none⟩ = some (.int .i64 x) := by
    rcases hr with ⟨_, _, _, rfl⟩ | h
    · simp at h0
    · exact h
  subst hv
  obtain ⟨i0, hi, hz0, hz1, hz2⟩ := info_parts elI.info
  obtain ⟨W1, hW1⟩ : ∃ x, w.alloc (.cells #[] 3) = x := ⟨_, rfl⟩
  have hb1 : Below w.heap.size w W1 := by rw [← hW1]; exact below1 w _
  have hs1 : W1.heap.size = w.heap.size + 1 := by rw [← hW1]; simp
  obtain ⟨N, hN⟩ : ∃ N, xs.length = N := ⟨_, rfl⟩
  rw [hN] at h0 hl hlc
  have hsrc : Src Tryz.prog i0.size 25 (.slice (some ⟨b, o, none⟩) N c) N (xs.map (Value.int .i64)) W1 := Src.ofSlice W1 elI.ut ⟨b, o, none⟩ N c (xs.map (Value.int .i64)) (by rw [List.length_map, hz1, hN, Nat.mul_one]) (fun j x hj => by
    rw [List.getElem?_map] at hj
    cases hq : xs[j]? with
    | none => rw [hq] at hj; cases hj
    | some y =>
      rw [hq] at hj
      have hj : Value.int .i64 y = x := by simpa using hj
      subst hj
      rw [Addr.add_lit]
      exact cell_later hb1 (hcell j y hq)) (by intro x hx; obtain ⟨y, _, rfl⟩ := List.mem_map.1 hx; rfl)
  have hold : (Builtin.firstCells i0.size 0 (.slice (some ⟨w.heap.size, 0, none⟩) 0 0)).run Tryz.prog W1.drew = .ok ([] : List Value).toArray W1.drew := run_firstCells_some W1.drew i0.size 0 ⟨w.heap.size, 0, none⟩ 0 0 [] (by simp) (fun j x hj => by simp at hj)
  have hrun := run_append_grow_src (P := Tryz.prog) W1 25 25 25 3 i0 (.int .i64 0) elI.ut hi hz0 (some ⟨w.heap.size, 0, none⟩) 0 0 [] hold (.slice (some ⟨b, o, none⟩) N c) N (xs.map (Value.int .i64)) hsrc (by omega) (by omega) (growslice_fits (by omega) (by rw [hz2]; omega))
  rw [Nat.zero_add, List.nil_append] at hrun
  have hge := grownCap_ge W1 N 0 3
  have hcap := grownCap_le_maxLen W1 N 0 3 (by simp only [maxLen]; omega)
  obtain ⟨W9, hW9⟩ : ∃ x, W1.drew.alloc (.cells ((xs.map (Value.int .i64)).toArray ++ Builtin.zeroCells (Value.int .i64 0).cells (grownCap W1 N 0 3 - N)) 3) = x := ⟨_, rfl⟩
  have HF : Hid (FsAt W9 (.slice (some ⟨W1.heap.size, 0, none⟩) N (grownCap W1 N 0 3)) xs) := by
    refine .inr ⟨W1.heap.size, 0, _, _, by rw [hN], by rw [← hW9]; exact alloc_at W1.drew _, by rw [hN]; omega, hcap, ?_, fun j x hj => ?_⟩
    · rw [Array.size_append, List.size_toArray, List.length_map, hN, size_zeroCells, show (Value.int .i64 0).cells.size = 1 from rfl]
      omega
    · rw [Nat.zero_add, Array.getElem?_append_left (by
        rw [List.size_toArray, List.length_map]
        exact (List.getElem?_eq_some_iff.1 hj).1), List.getElem?_toArray, List.getElem?_map, hj]
      rfl
  have HB : Hid (Below w.heap.size w W9) := by
    show Below _ _ _
    rw [← hW9]
    exact hb1.drew.alloc (by show w.heap.size ≤ W1.heap.size; omega) _
  rw [hW9] at hrun
  have HR := Lib.hid hrun
  have hn := eql_nilI (some ⟨b, o, none⟩) N c w
  simp only [Option.isNone] at hn
  have HS1 := Lib.hid hs1
  rw [hN]
  clear hr hcell hsrc hold hrun hge hcap hb1 hs1 hi hz0 hz1 hz2 hN hW9
  go_enter Tryz.func93, Tryz.ntmps93
  go_upto_region 3 with fail
  go_wp2_with (at_builtin; refine Lib.wpList_append_run _ rfl _ _ 25 25 rfl (.slice (some ⟨w.heap.size, 0, none⟩) 0 0) (.slice (some ⟨b, o, none⟩) N c) rfl rfl _ _ (by first | exact HR.out | (rw [hW1]; exact HR.out)) ?_)
  refine bodyPost_ret (v := .slice (some ⟨W1.heap.size, 0, none⟩) N (grownCap W1 N 0 3)) (by simp [results]) rfl ?_
  exact ⟨_, _, rfl, HF.out, fun k hk => by
    have : W1.heap.size = k := by simpa [Value.ownBlock] using hk
    have := HS1.out
    omega, HB.out⟩
end Go.Proofs.YthehpafkaefohaaGreatDoor

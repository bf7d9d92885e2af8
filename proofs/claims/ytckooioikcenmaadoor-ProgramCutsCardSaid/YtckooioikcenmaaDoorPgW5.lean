/- program.Check. Conditions: none. -/
import Derived.Test.YtckooioikcenmaaDoorPgW4
import Derived.Deep.RegionHeld3
namespace Go.Proofs.YtckooioikcenmaaDoor
open Go.RowKit
/-- the cells of an instruction -/
def Ins.cells (x : Ins) : Array Value := #[.int .u8 x.op, .int .i64 x.a, .int .i64 x.b, .int .i64 x.c, .int .i64 x.n, .string x.s]
/-- an instruction stands at an address -/
structure InsAt (w : World) (b o : Nat) (x : Ins) : Prop where
  c0 : w.cell? ⟨b, o, none⟩ = some (.int .u8 x.op)
  c1 : w.cell? ⟨b, o + 1, none⟩ = some (.int .i64 x.a)
  c2 : w.cell? ⟨b, o + 2, none⟩ = some (.int .i64 x.b)
  c3 : w.cell? ⟨b, o + 3, none⟩ = some (.int .i64 x.c)
  c4 : w.cell? ⟨b, o + 4, none⟩ = some (.int .i64 x.n)
  c5 : w.cell? ⟨b, o + 5, none⟩ = some (.string x.s)
/-- a slice of instructions -/
def CodeAt (w : World) (v : Value) (xs : List Ins) : Prop := ((∃ A c, v = .slice A 0 c) ∧ xs = []) ∨
  ∃ b o c, v = .slice (some ⟨b, o, none⟩) xs.length c ∧ xs.length ≤ c ∧ c ≤ maxLen ∧ b < w.heap.size ∧ ∀ (k : Nat) (x : Ins), xs[k]? = some x → InsAt w b (o + k * 6) x
theorem InsAt.below {w w' : World} {b o : Nat} {x : Ins} (h : InsAt w b o x) (hb : Below w.heap.size w w') : InsAt w' b o x :=
  ⟨cell_later hb h.c0, cell_later hb h.c1, cell_later hb h.c2, cell_later hb h.c3, cell_later hb h.c4, cell_later hb h.c5⟩
theorem CodeAt.below {w w' : World} {v : Value} {xs : List Ins} (h : CodeAt w v xs) (hb : Below w.heap.size w w') : CodeAt w' v xs := by
  rcases h with h | ⟨b, o, c, rfl, h1, h2, h3, h4⟩
  · exact .inl h
  · exact .inr ⟨b, o, c, rfl, h1, h2, Nat.lt_of_lt_of_le h3 hb.size, fun k x hx => (h4 k x hx).below hb⟩
def checkN (name : ByteArray) (regs : Int) (xs : List Ins) (pol : Int) : Int := if checkOk name regs xs pol = true then 0 else 100
def CheckPost (name : ByteArray) (regs : Int) (xs : List Ins) (pol : Int) (w : World) (e : Ending) (w' : World) : Prop := e = .returned (.int .i64 (checkN name regs xs pol)) ∧ Below w.heap.size w w'
theorem check_no {name : ByteArray} {regs : Int} {xs : List Ins} {pol : Int} (h : checkOk name regs xs pol = false) : checkN name regs xs pol = 100 := by simp [checkN, h]
set_option maxRecDepth 20000 in
set_option maxHeartbeats 1000000 in
theorem check_head (name : ByteArray) (regs : Int) (A : Option Addr) (ln cp : Nat) (pol : Int) (w : World) (hln : ln ≤ 9223372036854775807) (xs : List Ins) (hx : ln = xs.length)
    (h : ¬ (namedOk name = true ∧ 1 ≤ regs ∧ regs ≤ 16 ∧ (1 : Int) ≤ ln ∧ (ln : Int) ≤ 500)) :
    Calls Tryd.prog 11 #[.agg #[.string name, .int .i64 regs, .slice A ln cp], .int .i64 pol] w (CheckPost name regs xs pol w) := by
  have HD := Lib.hid (check_no (name := name) (regs := regs) (xs := xs) (pol := pol) (by
    cases hk : checkOk name regs xs pol with
    | false => rfl
    | true =>
      exfalso
      apply h
      simp only [checkOk, Bool.and_eq_true, decide_eq_true_eq] at hk
      obtain ⟨⟨⟨⟨⟨⟨h1, h2⟩, h3⟩, h4⟩, h5⟩, _⟩, _⟩ := hk
      exact ⟨h1, h2, h3, by omega, by omega⟩))
  clear hx
  have hbel : Below w.heap.size w (w.alloc (.cells #[.string name, .int .i64 regs, .slice A ln cp] 24)) := (Below.refl _ _).alloc (Nat.le_refl _) _
  by_cases h1 : namedOk name = true
  · have HN := Lib.hid (named_walk name)
    rw [h1] at HN
    by_cases h2 : 1 ≤ regs
    · by_cases h3 : regs ≤ 16
      · by_cases h4 : (1 : Int) ≤ ln
        · have h5 : ¬ (ln : Int) ≤ 500 := fun h5 => h ⟨h1, h2, h3, h4, h5⟩
          clear h h1
          go_enter Tryd.func11, Tryd.ntmps11
          go_wp2_with fail
          refine (HN.out _).mono ?_
          rintro e w2 ⟨rfl, rfl⟩
          go_wp2
          go_ret
          exact ⟨by rw [HD.out]; rfl, hbel⟩
        · clear h h1
          go_enter Tryd.func11, Tryd.ntmps11
          go_wp2_with fail
          refine (HN.out _).mono ?_
          rintro e w2 ⟨rfl, rfl⟩
          go_wp2
          go_ret
          exact ⟨by rw [HD.out]; rfl, hbel⟩
      · clear h h1
        go_enter Tryd.func11, Tryd.ntmps11
        go_wp2_with fail
        refine (HN.out _).mono ?_
        rintro e w2 ⟨rfl, rfl⟩
        go_wp2
        go_ret
        exact ⟨by rw [HD.out]; rfl, hbel⟩
    · clear h h1
      go_enter Tryd.func11, Tryd.ntmps11
      go_wp2_with fail
      refine (HN.out _).mono ?_
      rintro e w2 ⟨rfl, rfl⟩
      go_wp2
      go_ret
      exact ⟨by rw [HD.out]; rfl, hbel⟩
  · have HN := Lib.hid (named_walk name)
    rw [Bool.not_eq_true] at h1
    rw [h1] at HN
    clear h h1
    go_enter Tryd.func11, Tryd.ntmps11
    go_wp2_with fail
    refine (HN.out _).mono ?_
    rintro e w2 ⟨rfl, rfl⟩
    go_wp2
    go_ret
    exact ⟨by rw [HD.out]; rfl, hbel⟩
theorem lastOk_append (pre : List Ins) (x : Ins) : lastOk (pre ++ [x]) = (decide (x.op = 8) || decide (x.op = 15) || decide (x.op = 16)) := by
  induction pre with
  | nil => rfl
  | cons y r ih =>
    cases r with
    | nil => rfl
    | cons z r' => simpa [lastOk] using ih
theorem lastOk_at {xs : List Ins} {q : Nat} {x : Ins} (hl : xs.length = q + 1) (hx : xs[q]? = some x) : lastOk xs = (decide (x.op = 8) || decide (x.op = 15) || decide (x.op = 16)) := by
  have e : xs = xs.take q ++ [x] := by
    obtain ⟨h1, h2⟩ := List.getElem?_eq_some_iff.1 hx
    have h3 := List.take_append_getElem h1
    rw [h2] at h3
    rw [h3, List.take_of_length_le (by omega)]
  rw [e]
  exact lastOk_append _ x
theorem check_unfold {name : ByteArray} {regs : Int} {xs : List Ins} {pol : Int} (h : namedOk name = true ∧ 1 ≤ regs ∧ regs ≤ 16 ∧ (1 : Int) ≤ xs.length ∧ (xs.length : Int) ≤ 500) :
    checkOk name regs xs pol = (xs.all (fitsOk regs xs.length pol) && lastOk xs) := by
  obtain ⟨h1, h2, h3, h4, h5⟩ := h
  have h4' : 1 ≤ xs.length := by omega
  have h5' : xs.length ≤ 500 := by omega
  simp [checkOk, h1, h2, h3, h4', h5']
theorem check_all {name : ByteArray} {regs : Int} {xs : List Ins} {pol : Int} {ln : Nat} (hl : xs.length = ln) (HU : checkOk name regs xs pol = (xs.all (fitsOk regs xs.length pol) && lastOk xs))
    (h : ∀ (j : Nat) (x : Ins), j < ln → xs[j]? = some x → fitsOk regs ln pol x = true) : checkOk name regs xs pol = lastOk xs := by
  have : xs.all (fitsOk regs xs.length pol) = true := by
    rw [List.all_eq_true]
    intro x hx
    obtain ⟨j, hj⟩ := List.mem_iff_getElem?.1 hx
    rw [hl]
    exact h j x (by rw [← hl]; exact (List.getElem?_eq_some_iff.1 hj).1) hj
  rw [HU, this, Bool.true_and]
theorem check_bad {name : ByteArray} {regs : Int} {xs : List Ins} {pol : Int} {ln k : Nat} {x : Ins} (hl : xs.length = ln) (HU : checkOk name regs xs pol = (xs.all (fitsOk regs xs.length pol) && lastOk xs))
    (hx : xs[k]? = some x) (h : fitsOk regs ln pol x = false) : checkOk name regs xs pol = false := by
  have : xs.all (fitsOk regs xs.length pol) = false := by
    rw [List.all_eq_false]
    exact ⟨x, List.mem_of_getElem? hx, by rw [hl, h]; simp⟩
  rw [HU, this, Bool.false_and]
section
attribute [local go_sem] frozen?_alloc_cells World.cell?_alloc_some
set_option maxRecDepth 20000 in
set_option maxHeartbeats 4000000 in
theorem check_tail (name : ByteArray) (regs : Int) (b o cp : Nat) (pol : Int) (w : World) (xs : List Ins) (hb : b < w.heap.size) (hx : ∀ (k : Nat) (x : Ins), xs[k]? = some x → InsAt w b (o + k * 6) x)
    (h1 : namedOk name = true) (h2 : 1 ≤ regs) (h3 : regs ≤ 16) (h4 : (1 : Int) ≤ xs.length) (h5 : (xs.length : Int) ≤ 500) :
    Calls Tryd.prog 11 #[.agg #[.string name, .int .i64 regs, .slice (some ⟨b, o, none⟩) xs.length cp], .int .i64 pol] w (CheckPost name regs xs pol w) := by
  have HU := Lib.hid (check_unfold (pol := pol) ⟨h1, h2, h3, h4, h5⟩)
  have HN := Lib.hid (named_walk name)
  rw [h1] at HN
  clear h1
  have HX := Lib.hid hx
  clear hx
  have HB := Lib.hid hb
  clear hb
  obtain ⟨ln, hln⟩ : ∃ ln, xs.length = ln := ⟨_, rfl⟩
  have HL := Lib.hid hln
  rw [hln] at h4 h5 ⊢
  clear hln
  have hbox := alloc_at w (.cells #[.string name, .int .i64 regs, .slice (some ⟨b, o, none⟩) ln cp] 24)
  have HBOX := Lib.hid hbox
  clear hbox
  have hbel : Below w.heap.size w (w.alloc (.cells #[.string name, .int .i64 regs, .slice (some ⟨b, o, none⟩) ln cp] 24)) := (Below.refl _ _).alloc (Nat.le_refl _) _
  have HBEL := Lib.hid hbel
  clear hbel
  go_enter Tryd.func11, Tryd.ntmps11
  go_wp2_with fail
  refine (HN.out _).mono ?_
  rintro e w2 ⟨rfl, rfl⟩
  go_wp2
  go_loopw [36] (fun i wr => ∃ k : Nat, i = .int .i64 k ∧ k ≤ ln ∧ Hid (Below w.heap.size w wr) ∧ Hid (wr.heap[w.heap.size]? = some (.cells #[.string name, .int .i64 regs, .slice (some ⟨b, o, none⟩) ln cp] 24)) ∧ Hid (∀ (j : Nat) (x : Ins), j < k → xs[j]? = some x → fitsOk regs ln pol x = true)) (fun i wr => ln - (intOf i).toNat)
  case atStart => exact ⟨0, rfl, by omega, HBEL, HBOX, fun j x hj => by omega⟩
  case round =>
    obtain ⟨k, rfl, hk, HBW, HBX, HA⟩ := hrel
    have d0 := blk_cell HBX.out 0
    have d1 := blk_cell HBX.out 1
    have d2 := blk_cell HBX.out 2
    simp at d0 d1 d2
    by_cases hk4 : k < ln
    · obtain ⟨x, hxk⟩ : ∃ x, xs[k]? = some x := ⟨xs[k]'(by rw [HL.out]; exact hk4), List.getElem?_eq_getElem _⟩
      have hI := (HX.out k x hxk).below HBW.out
      have HXK := Lib.hid hxk
      clear hxk
      obtain ⟨c0, c1, c2, c3, c4, c5⟩ := hI
      by_cases hf : fitsOk regs ln pol x = true
      · go_wp2_with fail
        refine (fits_walk name regs (some ⟨b, o, none⟩) ln cp x.op x.a x.b x.c x.n x.s pol _ (by omega)).mono ?_
        rw [show (⟨x.op, x.a, x.b, x.c, x.n, x.s⟩ : Ins) = x from rfl, hf]
        rintro e w2 ⟨rfl, hb2⟩
        go_wp2
        go_roundw
        case rel =>
          refine ⟨k + 1, by go_num, by omega, HBW.out.trans (below_alloc (Below.refl _ _) (Nat.le_refl _) hb2 |>.mono HBW.out.size), blk_below hb2 (blk_alloc HBX.out _), ?_⟩
          intro j y hj hy
          by_cases hjk : j < k
          · exact HA.out j y hjk hy
          · obtain rfl : j = k := by omega
            rw [HXK.out] at hy
            cases hy
            exact hf
        case measure => simp [intOf]; omega
      · rw [Bool.not_eq_true] at hf
        have HD := Lib.hid (check_no (check_bad HL.out HU.out HXK.out hf))
        go_wp2_with fail
        refine (fits_walk name regs (some ⟨b, o, none⟩) ln cp x.op x.a x.b x.c x.n x.s pol _ (by omega)).mono ?_
        rw [show (⟨x.op, x.a, x.b, x.c, x.n, x.s⟩ : Ins) = x from rfl, hf]
        rintro e w2 ⟨rfl, hb2⟩
        go_wp2
        go_ret
        exact ⟨by rw [HD.out]; rfl, HBW.out.trans (below_alloc (Below.refl _ _) (Nat.le_refl _) hb2 |>.mono HBW.out.size)⟩
    · obtain rfl : k = ln := by omega
      have HC := Lib.hid (check_all HL.out HU.out HA.out)
      obtain ⟨q, rfl⟩ : ∃ q, k = q + 1 := ⟨k - 1, by omega⟩
      obtain ⟨x, hxk⟩ : ∃ x, xs[q]? = some x := ⟨xs[q]'(by rw [HL.out]; omega), List.getElem?_eq_getElem _⟩
      have hI := (HX.out q x hxk).below HBW.out
      have c0 := hI.c0
      clear hI
      have HT := Lib.hid (HC.out.trans (lastOk_at HL.out hxk))
      clear hxk
      by_cases e1 : x.op = 8
      · have HD := Lib.hid (show checkN name regs xs pol = 0 by simp [checkN, HT.out, e1])
        rw [e1] at c0
        go_wp2
        go_ret
        exact ⟨by rw [HD.out]; rfl, HBW.out⟩
      · by_cases e2 : x.op = 15
        · have HD := Lib.hid (show checkN name regs xs pol = 0 by simp [checkN, HT.out, e2])
          rw [e2] at c0
          go_wp2
          go_ret
          exact ⟨by rw [HD.out]; rfl, HBW.out⟩
        · by_cases e3 : x.op = 16
          · have HD := Lib.hid (show checkN name regs xs pol = 0 by simp [checkN, HT.out, e3])
            rw [e3] at c0
            go_wp2
            go_ret
            exact ⟨by rw [HD.out]; rfl, HBW.out⟩
          · have HD := Lib.hid (show checkN name regs xs pol = 100 by simp [checkN, HT.out, e1, e2, e3])
            go_wp2
            go_ret
            exact ⟨by rw [HD.out]; rfl, HBW.out⟩
end
theorem check_walk (name : ByteArray) (regs : Int) (cv : Value) (pol : Int) (w : World) (xs : List Ins) (hc : CodeAt w cv xs) :
    Calls Tryd.prog 11 #[.agg #[.string name, .int .i64 regs, cv], .int .i64 pol] w (CheckPost name regs xs pol w) := by
  by_cases h : namedOk name = true ∧ 1 ≤ regs ∧ regs ≤ 16 ∧ (1 : Int) ≤ xs.length ∧ (xs.length : Int) ≤ 500
  · rcases hc with ⟨⟨A, c, rfl⟩, rfl⟩ | ⟨b, o, c, rfl, h1, h2, h3, h4⟩
    · simp at h
    · exact check_tail name regs b o c pol w xs h3 h4 h.1 h.2.1 h.2.2.1 h.2.2.2.1 h.2.2.2.2
  · rcases hc with ⟨⟨A, c, rfl⟩, rfl⟩ | ⟨b, o, c, rfl, h1, h2, h3, h4⟩
    · exact check_head name regs A 0 c pol w (by omega) [] rfl h
    · exact check_head name regs _ xs.length c pol w (by simp only [maxLen] at h2; omega) xs rfl h
end Go.Proofs.YtckooioikcenmaaDoor

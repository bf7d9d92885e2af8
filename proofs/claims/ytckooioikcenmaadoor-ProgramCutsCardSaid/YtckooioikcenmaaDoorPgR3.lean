/- Same, SameInstrs, SameBytes, CopyBytes. Conditions: sizes a machine can have. -/
import Derived.Test.YtckooioikcenmaaDoorPgR2
import Derived.Laws.StructEq
namespace Go.Proofs.YtckooioikcenmaaDoor
open Go.RowKit
def insEq (x y : Ins) : Bool := decide (x.op = y.op ∧ x.a = y.a ∧ x.b = y.b ∧ x.c = y.c ∧ x.n = y.n ∧ x.s = y.s)
theorem insEq_iff {x y : Ins} : insEq x y = true ↔ x = y := by
  unfold insEq
  rw [decide_eq_true_iff]
  constructor
  · rintro ⟨h1, h2, h3, h4, h5, h6⟩
    cases x; cases y
    simp only at h1 h2 h3 h4 h5 h6
    subst h1; subst h2; subst h3; subst h4; subst h5; subst h6
    rfl
  · rintro rfl; exact ⟨rfl, rfl, rfl, rfl, rfl, rfl⟩
instance insDec : DecidableEq Ins := fun x y => decidable_of_iff (insEq x y = true) insEq_iff
theorem s34 : Tryd.prog.underlying 34 = some (.struct (Tryd.prog.fieldsOf 34)) := by kernel_rfl
theorem h34 : Tryd.prog.stoodInHeld 34 = false := by kernel_rfl
theorem g34 : Tryd.prog.eqGuardType Tryd.prog.depth 34 = false := by kernel_rfl
theorem str_eq (a b : ByteArray) : a.toList = b.toList ↔ a = b := by
  rw [ByteArray.toList_eq, ByteArray.toList_eq]
  constructor
  · intro h
    apply ByteArray.ext
    exact Array.toList_inj.1 h
  · rintro rfl; rfl
set_option maxRecDepth 20000 in
theorem ins_neq (x y : Ins) (w : World) : Sem.run Tryd.prog (binOp .neq 34 (.agg #[.int .u8 x.op, .int .i64 x.a, .int .i64 x.b, .int .i64 x.c, .int .i64 x.n, .string x.s]) (.agg #[.int .u8 y.op, .int .i64 y.a, .int .i64 y.b, .int .i64 y.c, .int .i64 y.n, .string y.s])) w = .ok (.bool (!insEq x y)) w := by
  have u3 := Tryd.underlying3
  have u2 := Tryd.underlying2
  have u9 := Tryd.underlying9
  have u32 := Tryd.underlying32
  have a3 := Tryd.isAgg3
  have a2 := Tryd.isAgg2
  have a9 := Tryd.isAgg9
  have a32 := Tryd.isAgg32
  have z3 := Tryd.sizeOf3
  rw [run_neq_struct, show (10000 : Nat) = 9999 + 1 from rfl, run_equalIn_agg w 9999 34 _ _ s34 h34]
  simp only [Program.fieldsOf, Tryd.underlying34]
  go_simp
  simp only [str_eq, insEq]
  by_cases h1 : x.op = y.op <;> by_cases h2 : x.a = y.a <;> by_cases h3 : x.b = y.b <;> by_cases h4 : x.c = y.c <;> by_cases h5 : x.n = y.n <;> by_cases h6 : x.s = y.s <;> simp [h1, h2, h3, h4, h5, h6]
set_option maxRecDepth 20000 in
set_option maxHeartbeats 1000000 in
theorem sameBytes_any (u v : Value) (xs ys : List UInt8) (w : World) (hu : RdB w u xs) (hv : RdB w v ys) : Calls Tryd.prog 18 #[u, v] w fun e w' => e = .returned (.bool (decide (xs = ys))) ∧ w = w' := by
  have c1 := rd_text hu
  have c2 := rd_text hv
  obtain ⟨A, c, rfl, _, _⟩ := hu.form
  obtain ⟨A', c', rfl, _, _⟩ := hv.form
  clear hu hv
  by_cases h : xs = ys
  · subst h
    go_enter Tryd.func18, Tryd.ntmps18
    go_wp2
    go_ret
    exact ⟨by simp, rfl⟩
  · go_enter Tryd.func18, Tryd.ntmps18
    go_wp2
    go_ret
    exact ⟨by simp [h], rfl⟩
theorem CodeAt.form {w : World} {v : Value} {xs : List Ins} (h : CodeAt w v xs) : ∃ A c, v = .slice A xs.length c := by
  rcases h with ⟨⟨A, c, rfl⟩, rfl⟩ | ⟨b, o, c, rfl, _⟩
  · exact ⟨A, c, rfl⟩
  · exact ⟨_, c, rfl⟩
theorem CodeAt.at {w : World} {A : Option Addr} {n c : Nat} {xs : List Ins} (h : CodeAt w (.slice A n c) xs) {k : Nat} {x : Ins} (hx : xs[k]? = some x) : ∃ b o, A = some ⟨b, o, none⟩ ∧ InsAt w b (o + k * 6) x := by
  rcases h with ⟨_, h8⟩ | ⟨b', o, c, h9, h10, h11, h12, h13⟩
  · rw [h8] at hx; simp at hx
  · injection h9 with h9
    exact ⟨b', o, h9, h13 k x hx⟩
theorem CodeAt.max {w : World} {v : Value} {xs : List Ins} (h : CodeAt w v xs) : xs.length ≤ 9223372036854775807 := by
  rcases h with ⟨_, rfl⟩ | ⟨b, o, c, rfl, h1, h2, _⟩
  · simp
  · simp only [maxLen] at h2; omega
set_option maxRecDepth 20000 in
set_option maxHeartbeats 1000000 in
theorem sameIns_any (u v : Value) (xs ys : List Ins) (w : World) (hu : CodeAt w u xs) (hv : CodeAt w v ys) : Calls Tryd.prog 35 #[u, v] w fun e w' => e = .returned (.bool (decide (xs = ys))) ∧ ∃ n, w' = w.drewN n := by
  obtain ⟨A, c, rfl⟩ := hu.form
  obtain ⟨A', c', rfl⟩ := hv.form
  have hm := hu.max
  have HU := Lib.hid hu
  have HV := Lib.hid hv
  clear hu hv
  by_cases hl : xs.length = ys.length
  · have HL := Lib.hid hl
    obtain ⟨ln, hln⟩ : ∃ ln, xs.length = ln := ⟨_, rfl⟩
    have HLN := Lib.hid hln
    rw [hln] at hl HU hm ⊢
    rw [← hl] at HV ⊢
    clear hln hl
    go_enter Tryd.func35, Tryd.ntmps35
    go_wp2
    go_loopw [5] (fun i wr => ∃ k nq : Nat, i = .int .i64 k ∧ wr = w.drewN nq ∧ k ≤ ln ∧ Hid (xs.take k = ys.take k)) (fun i _ => ln - (intOf i).toNat)
    case atStart => exact ⟨0, 0, rfl, rfl, by omega, rfl⟩
    case round =>
      obtain ⟨k, nq, rfl, rfl, hk, HE⟩ := hrel
      by_cases hk4 : k < ln
      · obtain ⟨x, hxk⟩ : ∃ x, xs[k]? = some x := ⟨xs[k]'(by rw [HLN.out]; exact hk4), List.getElem?_eq_getElem _⟩
        obtain ⟨y, hyk⟩ : ∃ y, ys[k]? = some y := ⟨ys[k]'(by rw [← HL.out, HLN.out]; exact hk4), List.getElem?_eq_getElem _⟩
        obtain ⟨b, o, rfl, hI⟩ := HU.out.at hxk
        obtain ⟨b', o', rfl, hJ⟩ := HV.out.at hyk
        obtain ⟨d0, d1, d2, d3, d4, d5⟩ := hI
        obtain ⟨e0, e1, e2, e3, e4, e5⟩ := hJ
        have hq := ins_neq x y
        have HX := Lib.hid hxk
        have HY := Lib.hid hyk
        clear hxk hyk
        by_cases hxy : x = y
        · subst hxy
          rw [show (!insEq x x) = false by rw [insEq_iff.2 rfl]; rfl] at hq
          go_wp2
          go_quiet (fail)
          go_wp2
          go_roundw
          case rel => exact ⟨k + 1, _, by go_num, rfl, by omega, by show _ = _; rw [List.take_add_one, List.take_add_one, HE.out, HX.out, HY.out]⟩
          case measure => simp [intOf]; omega
        · have hz : insEq x y = false := by
            cases h : insEq x y with
            | false => rfl
            | true => exact absurd (insEq_iff.1 h) hxy
          rw [hz] at hq
          have HN : Hid (decide (xs = ys) = false) := by
            show _ = _
            apply decide_eq_false
            intro e
            rw [e, HY.out] at HX
            have := HX.out
            injection this with this
            exact hxy this.symm
          clear hz hxy
          go_wp2
          go_quiet (fail)
          go_wp2
          go_ret
          exact ⟨by rw [HN.out]; rfl, by first | exact ⟨_, rfl⟩ | exact ⟨_, World.drewN_drewN _ _ _⟩⟩
      · obtain rfl : k = ln := by omega
        have HN : Hid (decide (xs = ys) = true) := by
          show _ = _
          apply decide_eq_true
          have := HE.out
          rwa [List.take_of_length_le (by rw [HLN.out]; exact Nat.le_refl _), List.take_of_length_le (by rw [← HL.out, HLN.out]; exact Nat.le_refl _)] at this
        go_wp2
        go_ret
        exact ⟨by rw [HN.out]; rfl, _, rfl⟩
  · have HN := Lib.hid (decide_eq_false (fun e : xs = ys => hl (by rw [e])))
    have hm2 := HV.out.max
    go_enter Tryd.func35, Tryd.ntmps35
    go_wp2
    go_ret
    exact ⟨by rw [HN.out]; rfl, 0, rfl⟩
/-- Same: two programs -/
def sameB (n1 : ByteArray) (r1 : Int) (xs : List Ins) (n2 : ByteArray) (r2 : Int) (ys : List Ins) : Bool := decide (n1 = n2 ∧ r1 = r2 ∧ xs = ys)
def SamePost (n1 : ByteArray) (r1 : Int) (xs : List Ins) (n2 : ByteArray) (r2 : Int) (ys : List Ins) (w : World) (e : Ending) (w' : World) : Prop := e = .returned (.bool (sameB n1 r1 xs n2 r2 ys)) ∧ Below w.heap.size w w'
set_option maxRecDepth 20000 in
set_option maxHeartbeats 1000000 in
theorem same_any (n1 n2 : ByteArray) (r1 r2 : Int) (u v : Value) (xs ys : List Ins) (w : World) (hu : CodeAt w u xs) (hv : CodeAt w v ys) :
    Calls Tryd.prog 17 #[.agg #[.string n1, .int .i64 r1, u], .agg #[.string n2, .int .i64 r2, v]] w (SamePost n1 r1 xs n2 r2 ys w) := by
  obtain ⟨A, c, rfl⟩ := hu.form
  obtain ⟨A', c', rfl⟩ := hv.form
  have hb : Below w.heap.size w ((w.alloc (.cells #[.string n1, .int .i64 r1, .slice A xs.length c] 24)).alloc (.cells #[.string n2, .int .i64 r2, .slice A' ys.length c'] 24)) := ((Below.refl _ _).alloc (Nat.le_refl _) _).alloc (by simp) _
  have HB := Lib.hid hb
  have HC := Lib.hid (sameIns_any _ _ xs ys _ (hu.below hb) (hv.below hb))
  clear hu hv hb
  by_cases h1 : n1 = n2
  · subst h1
    by_cases h2 : r1 = r2
    · subst h2
      have HD : Hid (sameB n1 r1 xs n1 r1 ys = decide (xs = ys)) := by show _ = _; simp [sameB]
      go_enter Tryd.func17, Tryd.ntmps17
      go_wp2_with fail
      refine HC.out.mono ?_
      rintro e w2 ⟨rfl, n, rfl⟩
      generalize decide (xs = ys) = bb at *
      go_wp2
      go_ret
      exact ⟨by rw [HD.out]; rfl, below_drewN HB.out n⟩
    · have HD : Hid (sameB n1 r1 xs n1 r2 ys = false) := by show _ = _; simp [sameB, h2]
      have hd : (r1 == r2) = false := beq_eq_false_iff_ne.2 h2
      go_enter Tryd.func17, Tryd.ntmps17
      go_wp2
      go_ret
      exact ⟨by rw [HD.out]; rfl, HB.out⟩
  · have HD : Hid (sameB n1 r1 xs n2 r2 ys = false) := by show _ = _; simp [sameB, h1]
    have hd : (n1.toList == n2.toList) = false := beq_eq_false_iff_ne.2 (fun e => h1 ((str_eq _ _).1 e))
    clear h1
    go_enter Tryd.func17, Tryd.ntmps17
    go_wp2
    go_ret
    exact ⟨by rw [HD.out]; rfl, HB.out⟩
def CopyBPost (ys : List UInt8) (w : World) (e : Ending) (w' : World) : Prop := ∃ v, e = .returned v ∧ Bytes w.heap.size w' v ys ∧ Below w.heap.size w w'
set_option maxRecDepth 20000 in
set_option maxHeartbeats 1000000 in
theorem copyB_any (v : Value) (ys : List UInt8) (w : World) (hr : RdB w v ys) (hl : ys.length ≤ 1000000) : Calls Tryd.prog 19 #[v] w (CopyBPost ys w) := by
  obtain ⟨i0, hi, hz0, hz1, hz2⟩ := info_parts infoB
  obtain ⟨w1, hmk, hown, hg⟩ := run_make_own (P := Tryd.prog) w w.heap.size 35 5 i0 (.int .u8 0) 1 Tryd.underlying35 hi hz0 hz1 .i64 .i64 ys.length (by rw [hz2]; omega) (by simp only [maxLen]; omega) (Nat.le_refl _)
  have hb1 : Below w.heap.size w w1 := ⟨hg.os, hg.tape, hg.output, hg.size, fun k hk => hg.block k hk (by simp)⟩
  have HB1 := Lib.hid hb1
  have HO : Hid (Bytes w.heap.size w1 (.slice (some ⟨w.heap.size, 0, none⟩) 0 ys.length) []) := hown
  have HR := Lib.hid (hr.below hb1)
  obtain ⟨A, c, rfl, _, _⟩ := hr.form
  have hs : w.heap.size ≤ w1.heap.size := hb1.size
  clear hr hg hown hb1 hi hz0 hz1 hz2
  go_enter Tryd.func19, Tryd.ntmps19
  go_wp2_with (at_builtin; refine wpList_append_bytes rfl (.tmp 7) (.tmp 8) rfl w.heap.size _ _ [] ys rfl HO.out rfl HR.out (by simp; omega) hs ?_; intro v' w' hown hext)
  go_ret
  exact ⟨_, rfl, by simpa using hown, ext_below hext HO.out HB1.out (Nat.le_refl _)⟩
end Go.Proofs.YtckooioikcenmaaDoor

/- Great: what is too great for the statements. Conditions: sizes a machine can have. -/
import Derived.Test.YtckooioikcenmaaGreatCkM5
import Derived.Test.YtckooioikcenmaaGreatCkW7
namespace Go.Proofs.YtckooioikcenmaaGreat
open Go.RowKit
def GPost (b : Bool) (w : World) (e : Ending) (w' : World) : Prop := e = .returned (.bool b) ∧ Below w.heap.size w w'
theorem any_take {α : Type} {P : α → Bool} {l : List α} {k : Nat} {x : α} (hx : l[k]? = some x) (h : (l.take k).any P = false) (hp : P x = false) : (l.take (k + 1)).any P = false := by
  rw [List.take_add_one, hx, List.any_append, h]
  simp [hp]
theorem any_at {α : Type} {P : α → Bool} {l : List α} {k : Nat} {x : α} (hx : l[k]? = some x) (hp : P x = true) : l.any P = true := List.any_eq_true.2 ⟨x, List.mem_of_getElem? hx, hp⟩
theorem any_all {α : Type} {P : α → Bool} {l : List α} {k : Nat} (hk : l.length ≤ k) (h : (l.take k).any P = false) : l.any P = false := by rwa [List.take_of_length_le hk] at h
def gFair (l : List DTurn) : Bool := decide (30 < l.length) || l.any fun x => decide (3000 < x.1.size)
set_option maxRecDepth 20000 in
set_option maxHeartbeats 1000000 in
theorem great17_any (B : Nat) (qq qat : Int) (qhad : Bool) (v : Value) (l : List DTurn) (w : World) (hv : LRep mTurn B w v l) (hB : B ≤ w.heap.size) :
    Calls Tryz.prog 47 #[.agg #[.int .i64 qq, v, .int .i64 qat, .bool qhad]] w (GPost (gFair l) w) := by
  obtain ⟨A, c, rfl⟩ := hv.form
  have hm := hv.max
  have hb : Below w.heap.size w (w.alloc (.cells #[.int .i64 qq, .slice A l.length c, .int .i64 qat, .bool qhad] 28)) := (Below.refl _ _).alloc (Nat.le_refl _) _
  have HB := Lib.hid hb
  have HV := Lib.hid (hv.keep mTurn_law (hb.mono hB))
  clear hv hb
  obtain ⟨ln, hln⟩ : ∃ ln, l.length = ln := ⟨_, rfl⟩
  have HL := Lib.hid hln
  rw [hln] at hm HV HB ⊢
  clear hln
  by_cases h30 : 30 < ln
  · have HD : Hid (gFair l = true) := by show _ = _; unfold gFair; rw [HL.out]; simp [h30]
    go_enter Tryz.func47, Tryz.ntmps47
    go_wp2
    go_ret
    exact ⟨by rw [HD.out]; rfl, HB.out⟩
  · go_enter Tryz.func47, Tryz.ntmps47
    go_wp2
    go_loopw [3, 11] (fun _ i wr => ∃ (k : Nat), i = .int .i64 k ∧ wr = w.alloc (.cells #[.int .i64 qq, .slice A ln c, .int .i64 qat, .bool qhad] 28) ∧ k ≤ ln ∧ Hid ((l.take k).any (fun x => decide (3000 < x.1.size)) = false)) (fun _ i _ => ln - (intOf i).toNat)
    case atStart => exact ⟨0, rfl, rfl, by omega, rfl⟩
    case round =>
      obtain ⟨k, rfl, rfl, hk, HE⟩ := hrel
      by_cases hk4 : k < ln
      · obtain ⟨x, hxk⟩ : ∃ n, l[k]? = some n := ⟨l[k]'(by rw [HL.out]; exact hk4), List.getElem?_eq_getElem _⟩
        obtain ⟨b, o, us, rfl, hbb, hus, hrep⟩ := HV.out.at hxk
        obtain ⟨qs, qn, ql⟩ := x
        have hf := mTurn_form hrep
        subst hf
        have d0 := hus 0 _ rfl
        change World.cell? _ ⟨b, o + k * 3, none⟩ = some (.string qs) at d0
        have HX := Lib.hid hxk
        clear hxk hus hrep
        by_cases hx : 3000 < qs.size
        · have HD : Hid (gFair l = true) := by show _ = _; unfold gFair; rw [any_at HX.out (by simpa using hx)]; simp
          go_wp2
          go_ret
          exact ⟨by rw [HD.out]; rfl, HB.out⟩
        · have HE2 := Lib.hid (any_take HX.out HE.out (by simpa using hx))
          go_wp2
          go_roundw
          case rel => exact ⟨k + 1, by go_num, by first | trivial | rfl, by omega, HE2⟩
          case measure => simp [intOf]; omega
      · obtain rfl : k = ln := by omega
        have HD : Hid (gFair l = false) := by show _ = _; unfold gFair; rw [any_all (by rw [HL.out]; exact Nat.le_refl _) HE.out, HL.out]; simpa using h30
        go_wp2
        go_ret
        exact ⟨by rw [HD.out]; rfl, HB.out⟩
end Go.Proofs.YtckooioikcenmaaGreat

/- Walks of the closures of program.fits. Conditions: none. -/
import Derived.Test.YtckooioikcenmaaDoorPgW1
import Derived.Test.YtckooioikcenmaaDoorPgRegion
namespace Go.Proofs.YtckooioikcenmaaDoor
open Go.RowKit
/-- the function value that a bound has become -/
def below43 (b : Nat) : Value := .func (.func 43) #[] #[.pointer (some ⟨b, 0, none⟩)]
theorem fits1_walk (h : Int) (w : World) : Calls Tryd.prog 42 #[.int .i64 h] w fun e w' => e = .returned (below43 w.heap.size) ∧ w' = w.alloc (.cells #[.int .i64 h] 3) := by
  go_enter Tryd.func42, Tryd.ntmps42
  go_wp2
  go_ret
  exact ⟨rfl, rfl⟩
theorem fits2_walk (n : Int) (w : World) : Calls Tryd.prog 44 #[.int .i64 n] w fun e w' => e = .returned (.bool true) ∧ w = w' := by
  go_enter Tryd.func44, Tryd.ntmps44
  go_wp2
  go_ret
  exact ⟨rfl, rfl⟩
theorem fits11_walk (n h : Int) (b : Nat) (w : World) (hc : w.cell? ⟨b, 0, none⟩ = some (.int .i64 h)) :
    Calls Tryd.prog 43 #[.int .i64 n, .pointer (some ⟨b, 0, none⟩)] w fun e w' => e = .returned (.bool (belowOk h n)) ∧ w = w' := by
  by_cases h1 : 0 ≤ n
  · have hd := Lib.hid (show belowOk h n = decide (n < h) by simp only [belowOk, h1, decide_true, Bool.true_and])
    go_enter Tryd.func43, Tryd.ntmps43
    go_wp2
    go_ret
    exact ⟨by rw [hd.out]; rfl, rfl⟩
  · have hd := Lib.hid (show belowOk h n = false by simp only [belowOk, h1, decide_false, Bool.false_and])
    go_enter Tryd.func43, Tryd.ntmps43
    go_wp2
    go_ret
    exact ⟨by rw [hd.out]; rfl, rfl⟩
/-- a slot holds a value -/
def At (a : Act) (d : Nat) (v : Value) : Prop := a.tmps[d]? = some v
theorem At.eval {a : Act} {d : Nat} {v : Value} (h : At a d v) : a.eval (.tmp d) = v := by
  unfold At at h
  simp [Act.eval, h]
theorem At.put {a : Act} {d d' : Nat} {v v' : Value} (h : At a d v) (hne : d ≠ d') : At (a.put (some d') v') d v := by
  unfold At at *
  simp [Act.put, Array.getElem?_setIfInBounds_ne (Ne.symm hne), h]
theorem At.mk {a : Act} {d : Nat} (v : Value) (h : d < a.tmps.size) : At (a.put (some d) v) d v := by
  simp [At, Act.put, h]
/-- what an operation has left -/
inductive Lft
  | val (d : Nat) (v : Value)
  | box (d : Nat) (h : Int)
  | own
  | ins (k h : Int)
  | insv (k : Int) (v : Value)
  | same (d : Nat)
def Lft.slots : Lft → List Nat
  | .val d _ => [d]
  | .box d _ => [d]
  | .own => [12]
  | .ins _ _ => [12]
  | .insv _ _ => [12]
  | .same d => [12, d]
def Lft.key : Lft → Option Int
  | .ins k _ => some k
  | .insv k _ => some k
  | _ => none
def Boxed (w : World) (b : Nat) (h : Int) : Prop := w.heap[b]? = some (.cells #[.int .i64 h] 3)
def Lft.holds (B : Nat) (a : Act) (w : World) : Lft → Prop
  | .val d v => At a d v
  | .box d h => ∃ b, At a d (below43 b) ∧ Boxed w b h
  | .own => ∃ m, At a 12 (.map (some m)) ∧ B ≤ m ∧ MapR w m (fun _ => True) (fun _ _ => False)
  | .ins k h => ∃ m b, At a 12 (.map (some m)) ∧ Boxed w b h ∧ MapR w m (fun _ => True) (fun k' v' => k' = k ∧ v' = below43 b)
  | .insv k v => ∃ m, At a 12 (.map (some m)) ∧ MapR w m (fun _ => True) (fun k' v' => k' = k ∧ v' = v)
  | .same d => ∃ m, At a 12 (.map (some m)) ∧ At a d (.map (some m))
theorem Lft.grow {B : Nat} {a a' : Act} {w w' : World} {l : Lft} (h : l.holds B a w) (ha : ∀ d ∈ l.slots, ∀ v, At a d v → At a' d v) (hw : ∀ (b : Nat) (o : Obj), w.heap[b]? = some o → w'.heap[b]? = some o) : l.holds B a' w' := by
  have hm : ∀ {m N R}, MapR w m N R → MapR w' m N R := fun h => by
    obtain ⟨es, cl, h1, h2⟩ := h
    exact ⟨es, cl, hw _ _ h1, h2⟩
  cases l with
  | val d v => exact ha d (by simp [Lft.slots]) _ h
  | box d x => obtain ⟨b, h1, h2⟩ := h; exact ⟨b, ha d (by simp [Lft.slots]) _ h1, hw _ _ h2⟩
  | own => obtain ⟨m, h1, h2, h3⟩ := h; exact ⟨m, ha 12 (by simp [Lft.slots]) _ h1, h2, hm h3⟩
  | ins k x => obtain ⟨m, b, h1, h2, h3⟩ := h; exact ⟨m, b, ha 12 (by simp [Lft.slots]) _ h1, hw _ _ h2, hm h3⟩
  | insv k x => obtain ⟨m, h1, h2⟩ := h; exact ⟨m, ha 12 (by simp [Lft.slots]) _ h1, hm h2⟩
  | same d => obtain ⟨m, h1, h2⟩ := h; exact ⟨m, ha 12 (by simp [Lft.slots]) _ h1, ha d (by simp [Lft.slots]) _ h2⟩
theorem Lft.put {B : Nat} {a : Act} {w : World} {l : Lft} (h : l.holds B a w) {d : Nat} (v : Value) (hd : d ∉ l.slots) : l.holds B (a.put (some d) v) w :=
  Lft.grow h (fun _ hx _ hv => hv.put (fun e => hd (e ▸ hx))) (fun _ _ h => h)
theorem Lft.alloc {B : Nat} {a : Act} {w : World} {l : Lft} (h : l.holds B a w) {d : Nat} (v : Value) (o : Obj) (hd : d ∉ l.slots) : l.holds B (a.put (some d) v) (w.alloc o) :=
  Lft.grow h (fun _ hx _ hv => hv.put (fun e => hd (e ▸ hx))) (fun _ _ h => blk_alloc h _)
/-- another key was laid into the map -/
theorem Lft.insert {B : Nat} {a : Act} {w w' : World} {l : Lft} (h : l.holds B a w) {m : Nat} (hm : At a 12 (.map (some m))) {k : Int} {v : Value} (hk : ∀ k', l.key = some k' → k' ≠ k)
    (hmap : ∀ N R, MapR w m N R → MapR w' m (fun k' => N k' ∨ k' = k) (fun k' v' => (k' = k ∧ v' = v) ∨ (k' ≠ k ∧ R k' v'))) (hw : ∀ (b : Nat), b ≠ m → w'.heap[b]? = w.heap[b]?)
    (hmm : ∃ es cl, w.heap[m]? = some (.map es cl)) : l.holds B a w' := by
  have hbox : ∀ {b h}, Boxed w b h → Boxed w' b h := fun {b h} hb => by
    unfold Boxed at *
    rw [hw, hb]
    rintro rfl
    obtain ⟨es, cl, h9⟩ := hmm
    rw [h9] at hb; cases hb
  have hun : ∀ {m'}, At a 12 (.map (some m')) → m' = m := fun h' => by
    unfold At at h' hm
    rw [hm] at h'; injection h' with h'; injection h' with h'; injection h' with h'; exact h'.symm
  cases l with
  | val d v => exact h
  | box d x => obtain ⟨b, h1, h2⟩ := h; exact ⟨b, h1, hbox h2⟩
  | own => obtain ⟨m', h1, h2, h3⟩ := h; obtain rfl := hun h1; exact ⟨_, h1, h2, (hmap _ _ h3).weaken (fun _ _ => trivial) (fun _ _ h => h.elim)⟩
  | ins k' x =>
    obtain ⟨m', b, h1, h2, h3⟩ := h; obtain rfl := hun h1
    exact ⟨_, b, h1, hbox h2, (hmap _ _ h3).weaken (fun _ _ => trivial) (fun k'' v'' e => .inr ⟨by rw [e.1]; exact hk k' rfl, e⟩)⟩
  | insv k' x =>
    obtain ⟨m', h1, h3⟩ := h; obtain rfl := hun h1
    exact ⟨_, h1, (hmap _ _ h3).weaken (fun _ _ => trivial) (fun k'' v'' e => .inr ⟨by rw [e.1]; exact hk k' rfl, e⟩)⟩
  | same d => exact h
end Go.Proofs.YtckooioikcenmaaDoor

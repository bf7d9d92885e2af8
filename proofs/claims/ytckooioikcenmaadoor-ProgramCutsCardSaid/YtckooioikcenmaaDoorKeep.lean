/- What a call keeps of memory, for the walks of this seat. Conditions: none. -/
import Derived.Test.YtckooioikcenmaaDoorBase
import Derived.OwnWalk
namespace Go.Proofs.YtckooioikcenmaaDoor
open Go.RowKit
/-- Is a block a row of a type of E? -/
def rowE (E : TypeId → Bool) (w : World) (k : Nat) : Bool := match w.heap[k]? with
  | some (.cells _ t _) => E t
  | _ => false
/-- Of what was there, nothing has turned but rows of the types E, from block B on. -/
structure Keep (E : TypeId → Bool) (B : Nat) (w w' : World) : Prop where
  os : w'.os = w.os
  tape : w'.tape = w.tape
  output : w'.output = w.output
  size : w.heap.size ≤ w'.heap.size
  block : ∀ k, k < w.heap.size → (k < B ∨ rowE E w k = false) → w'.heap[k]? = w.heap[k]?
theorem Keep.refl (E : TypeId → Bool) (B : Nat) (w : World) : Keep E B w w := ⟨rfl, rfl, rfl, Nat.le_refl _, fun _ _ _ => rfl⟩
theorem Keep.trans {E : TypeId → Bool} {B : Nat} {a b c : World} (h : Keep E B a b) (k : Keep E B b c) : Keep E B a c :=
  ⟨k.os.trans h.os, k.tape.trans h.tape, k.output.trans h.output, Nat.le_trans h.size k.size, fun i hi hr => by
    have e := h.block i hi hr
    have hr' : i < B ∨ rowE E b i = false := hr.imp id (fun x => by unfold rowE at x ⊢; rw [e]; exact x)
    exact (k.block i (Nat.lt_of_lt_of_le hi h.size) hr').trans e⟩
theorem Keep.mono {E : TypeId → Bool} {B B' : Nat} {w w' : World} (h : Keep E B w w') (hB : B' ≤ B) : Keep E B' w w' :=
  ⟨h.os, h.tape, h.output, h.size, fun k hk hr => h.block k hk (hr.imp (fun x => Nat.lt_of_lt_of_le x hB) id)⟩
theorem Keep.types {E E' : TypeId → Bool} {B : Nat} {w w' : World} (h : Keep E B w w') (hE : ∀ t, E t = true → E' t = true) : Keep E' B w w' :=
  ⟨h.os, h.tape, h.output, h.size, fun k hk hr => h.block k hk (hr.imp id (fun x => by
    unfold rowE at x ⊢
    split <;> rename_i hh
    · rw [hh] at x
      simp only at x
      cases hv : E _ with
      | false => rfl
      | true => rw [hE _ hv] at x; cases x
    · rfl))⟩
theorem Keep.of_below {E : TypeId → Bool} {B : Nat} {w w' : World} (h : Below w.heap.size w w') : Keep E B w w' := ⟨h.os, h.tape, h.output, h.size, fun k hk _ => h.block k hk⟩
theorem Keep.below {E : TypeId → Bool} {B : Nat} {w w' : World} (h : Keep E B w w') (hB : B ≤ w.heap.size) : Below B w w' := ⟨h.os, h.tape, h.output, h.size, fun k hk => h.block k (by omega) (.inl hk)⟩
theorem Keep.drew {E : TypeId → Bool} {B : Nat} {a w : World} (h : Keep E B a w) : Keep E B a w.drew := ⟨h.os, h.tape, h.output, h.size, h.block⟩
theorem Keep.drewN {E : TypeId → Bool} {B : Nat} {a w : World} (h : Keep E B a w) (n : Nat) : Keep E B a (w.drewN n) := ⟨h.os, h.tape, h.output, h.size, h.block⟩
theorem Keep.alloc {E : TypeId → Bool} {B : Nat} {a w : World} (h : Keep E B a w) (o : Obj) : Keep E B a (w.alloc o) :=
  h.trans (Keep.of_below ((Below.refl _ _).alloc (Nat.le_refl _) o))
theorem Keep.setCell {E : TypeId → Bool} {B : Nat} {a w : World} (h : Keep E B a w) {b o : Nat} {cs : Array Value} {T : TypeId} {fr : Nat × Nat} (hb : w.heap[b]? = some (.cells cs T fr)) (hB : B ≤ b) (hE : E T = true) (v : Value) : Keep E B a (w.setCell ⟨b, o, none⟩ v) :=
  h.trans ⟨rfl, rfl, rfl, by simp [World.setCell], fun k hk hr => by
    by_cases e : k = b
    · subst e
      rcases hr with hr | hr
      · omega
      · unfold rowE at hr; rw [hb] at hr; simp only at hr; rw [hE] at hr; cases hr
    · exact Below.heap_setCell _ _ _ _ e⟩
/-- a store into a block that is younger than the start -/
theorem Keep.setNew {E : TypeId → Bool} {B : Nat} {a w : World} (h : Keep E B a w) {p : Addr} (hp : a.heap.size ≤ p.block) (v : Value) : Keep E B a (w.setCell p v) :=
  ⟨h.os, h.tape, h.output, by simpa [World.setCell] using h.size, fun k hk hr => by
    rw [Below.heap_setCell _ _ _ _ (by omega)]
    exact h.block k hk hr⟩
theorem Keep.grown {E : TypeId → Bool} {B base n size : Nat} {e : TypeId} {v : Value} {xs : List Value} {a w w' : World} (h : Keep E B a w) (ho : w.ownsRow base e size v n xs) (hg : w.grownBy w' v.ownBlock) (hB : B ≤ base) (hE : E e = true) : Keep E B a w' :=
  h.trans ⟨hg.os, hg.tape, hg.output, hg.size, fun k hk hr => by
    by_cases e1 : some k = v.ownBlock
    · rcases ho.2 with ⟨rfl, _⟩ | ⟨g, cap, cur, rfl, hb, hh, _⟩
      · simp [Value.ownBlock] at e1
      · have : k = g := by simpa [Value.ownBlock] using e1
        subst this
        rcases hr with hr | hr
        · omega
        · unfold rowE at hr; rw [hh] at hr; simp only at hr; rw [hE] at hr; cases hr
    · exact hg.block k hk e1⟩
/-- a block that a step keeps -/
theorem Keep.blk {E : TypeId → Bool} {B : Nat} {w w' : World} (h : Keep E B w w') {k : Nat} {cs : Array Value} {T : TypeId} {fr : Nat × Nat} (hk : w.heap[k]? = some (.cells cs T fr)) (hE : E T = false) : w'.heap[k]? = some (.cells cs T fr) :=
  (h.block k (blk_lt hk) (.inr (by unfold rowE; rw [hk]; exact hE))).trans hk
theorem Keep.old {E : TypeId → Bool} {B : Nat} {w w' : World} (h : Keep E B w w') {k : Nat} {o : Obj} (hk : w.heap[k]? = some o) (hB : k < B) : w'.heap[k]? = some o :=
  (h.block k (blk_lt hk) (.inl hB)).trans hk
theorem Keep.own {E : TypeId → Bool} {B base n size : Nat} {e : TypeId} {v : Value} {xs : List Value} {w w' : World} (h : Keep E B w w') (ho : w.ownsRow base e size v n xs) (hE : E e = false) : w'.ownsRow base e size v n xs := by
  refine ⟨ho.1, ?_⟩
  rcases ho.2 with h2 | ⟨g, cap, cur, rfl, hb, hh, hr⟩
  · exact .inl h2
  · exact .inr ⟨g, cap, cur, rfl, hb, h.blk hh hE, hr⟩
theorem own_below {base n size : Nat} {e : TypeId} {v : Value} {xs : List Value} {w w' : World} (h : Below w.heap.size w w') (ho : w.ownsRow base e size v n xs) : w'.ownsRow base e size v n xs := by
  refine ⟨ho.1, ?_⟩
  rcases ho.2 with h2 | ⟨g, cap, cur, rfl, hb, hh, hr⟩
  · exact .inl h2
  · exact .inr ⟨g, cap, cur, rfl, hb, blk_below h hh, hr⟩
theorem own_base {base base' n size : Nat} {e : TypeId} {v : Value} {xs : List Value} {w : World} (ho : w.ownsRow base e size v n xs) (hb : base' ≤ base) : w.ownsRow base' e size v n xs := by
  refine ⟨ho.1, ?_⟩
  rcases ho.2 with h2 | ⟨g, cap, cur, rfl, hb', hh, hr⟩
  · exact .inl h2
  · exact .inr ⟨g, cap, cur, rfl, Nat.le_trans hb hb', hh, hr⟩
/-- v, a row of the call's own, has become v': nothing else that was there has turned; v' lies where v lay, or in a new block -/
def Ext (w w' : World) (v v' : Value) : Prop := w.grownBy w' v.ownBlock ∧ (v'.ownBlock = v.ownBlock ∨ ∃ k, v'.ownBlock = some k ∧ w.heap.size ≤ k)
theorem Ext.refl (w : World) (v : Value) : Ext w w v v := ⟨⟨rfl, rfl, rfl, Nat.le_refl _, fun _ _ _ => rfl⟩, .inl rfl⟩
theorem Ext.size {w w' : World} {v v' : Value} (h : Ext w w' v v') : w.heap.size ≤ w'.heap.size := h.1.size
theorem Ext.trans {a b c : World} {u v x : Value} (h : Ext a b u v) (k : Ext b c v x) : Ext a c u x := by
  refine ⟨⟨k.1.os.trans h.1.os, k.1.tape.trans h.1.tape, k.1.output.trans h.1.output, Nat.le_trans h.1.size k.1.size, fun i hi hne => ?_⟩, ?_⟩
  · have e := h.1.block i hi hne
    refine (k.1.block i (Nat.lt_of_lt_of_le hi h.1.size) ?_).trans e
    rcases h.2 with h2 | ⟨j, h2, hj⟩
    · rw [h2]; exact hne
    · rw [h2]; intro e2; injection e2 with e2; omega
  · rcases k.2 with k2 | ⟨j, k2, hj⟩
    · rw [k2]; exact h.2
    · exact .inr ⟨j, k2, Nat.le_trans h.1.size hj⟩
theorem Ext.below {a b c : World} {u v : Value} (h : Ext a b u v) (k : Below b.heap.size b c) : Ext a c u v :=
  ⟨⟨k.os.trans h.1.os, k.tape.trans h.1.tape, k.output.trans h.1.output, Nat.le_trans h.1.size k.size, fun i hi hne => (k.block i (Nat.lt_of_lt_of_le hi h.1.size)).trans (h.1.block i hi hne)⟩, h.2⟩
theorem Ext.alloc {a b : World} {u v : Value} (h : Ext a b u v) (o : Obj) : Ext a (b.alloc o) u v := h.below ((Below.refl _ _).alloc (Nat.le_refl _) o)
/-- what the append law says, as a step -/
theorem Ext.of_at {w w' : World} {v v' : Value} (hg : w.grownBy w' v.ownBlock) (h : v'.ownBlock = v.ownBlock ∨ v'.ownBlock = some w.heap.size) : Ext w w' v v' :=
  ⟨hg, h.imp id (fun e => ⟨_, e, Nat.le_refl _⟩)⟩
theorem Ext.blk {w w' : World} {v v' : Value} (h : Ext w w' v v') {k : Nat} {o : Obj} (hk : w.heap[k]? = some o) (hne : some k ≠ v.ownBlock) : w'.heap[k]? = some o :=
  (h.1.block k (blk_lt hk) hne).trans hk
theorem Ext.keep {E : TypeId → Bool} {base n size : Nat} {e : TypeId} {v v' : Value} {xs : List Value} {w w' : World} (h : Ext w w' v v') (ho : w.ownsRow base e size v n xs) (hE : E e = true) : Keep E base w w' :=
  (Keep.refl _ _ _).grown ho h.1 (Nat.le_refl _) hE
/-- a step from behind a new block on -/
theorem Ext.from_alloc {w w' : World} {v v' : Value} {o : Obj} (h : Ext (w.alloc o) w' v v') : Ext w w' v v' := (((Ext.refl w v).alloc o)).trans h
end Go.Proofs.YtckooioikcenmaaDoor

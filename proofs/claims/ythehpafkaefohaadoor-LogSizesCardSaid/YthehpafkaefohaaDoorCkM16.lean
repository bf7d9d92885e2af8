/- What a call may turn: a list of blocks; how a disk and a log lie in memory. Conditions: none. -/
import Derived.Test.YthehpafkaefohaaDoorCkM15
import Derived.Test.YthehpafkaefohaaDoorCkM1
import Derived.Deep.MidRow
import Derived.Great.BuildSlice
import Derived.Maps.AppendAt
import Derived.Lib.AppendZerosOnto
import Derived.Laws.CopyRow
namespace Go.Proofs.YthehpafkaefohaaDoor
open Go.RowKit
/-- of what was there, the blocks of S alone have turned -/
structure ChgS (S : List Nat) (w w' : World) : Prop where
  os : w'.os = w.os
  tape : w'.tape = w.tape
  output : w'.output = w.output
  size : w.heap.size ≤ w'.heap.size
  block : ∀ k, k < w.heap.size → k ∉ S → w'.heap[k]? = w.heap[k]?
theorem ChgS.refl (S : List Nat) (w : World) : ChgS S w w := ⟨rfl, rfl, rfl, Nat.le_refl _, fun _ _ _ => rfl⟩
theorem ChgS.of_below {S : List Nat} {w w' : World} (h : Below w.heap.size w w') : ChgS S w w' := ⟨h.os, h.tape, h.output, h.size, fun k hk _ => h.block k hk⟩
/-- a step behind: what it turns is of S, or new -/
theorem ChgS.trans {S U : List Nat} {a b c : World} (h : ChgS S a b) (k : ChgS U b c) (hU : ∀ x ∈ U, x ∈ S ∨ a.heap.size ≤ x) : ChgS S a c :=
  ⟨k.os.trans h.os, k.tape.trans h.tape, k.output.trans h.output, Nat.le_trans h.size k.size, fun i hi h1 => (k.block i (Nat.lt_of_lt_of_le hi h.size) (fun h2 => by
    rcases hU i h2 with h3 | h3
    · exact h1 h3
    · omega)).trans (h.block i hi h1)⟩
theorem ChgS.sub {S U : List Nat} {a b : World} (h : ChgS S a b) (hs : ∀ x ∈ S, x ∈ U ∨ a.heap.size ≤ x) : ChgS U a b :=
  ⟨h.os, h.tape, h.output, h.size, fun k hk h1 => h.block k hk (fun h2 => by
    rcases hs k h2 with h3 | h3
    · exact h1 h3
    · omega)⟩
theorem ChgS.then {S : List Nat} {a b c : World} (h : ChgS S a b) (k : Below b.heap.size b c) : ChgS S a c := h.trans (ChgS.of_below (S := []) k) (fun _ h => by cases h)
theorem ChgS.alloc {S : List Nat} {a w : World} (h : ChgS S a w) (o : Obj) : ChgS S a (w.alloc o) := h.then ((Below.refl _ _).alloc (Nat.le_refl _) o)
theorem ChgS.drewN {S : List Nat} {a w : World} (h : ChgS S a w) (n : Nat) : ChgS S a (w.drewN n) := h.then (below_drewN (Below.refl _ _) n)
theorem ChgS.set {S : List Nat} {a w : World} (h : ChgS S a w) {b : Nat} (hb : b ∈ S ∨ a.heap.size ≤ b) (o : Nat) (u : Value) : ChgS S a (w.setCell ⟨b, o, none⟩ u) :=
  h.trans (U := [b]) ⟨rfl, rfl, rfl, by simp [World.setCell], fun k _ h1 => Below.heap_setCell _ _ _ _ (by simpa using h1)⟩ (by simpa using hb)
theorem ChgS.blk {S : List Nat} {w w' : World} {k : Nat} {o : Obj} (h : ChgS S w w') (hk : w.heap[k]? = some o) (h1 : k ∉ S) : w'.heap[k]? = some o := (h.block k (blk_lt hk) h1).trans hk
theorem ChgS.grown {S : List Nat} {a w w' : World} {row : Option Nat} (h : ChgS S a w) (hg : w.grownBy w' row) (hr : ∀ k, row = some k → k ∈ S ∨ a.heap.size ≤ k) : ChgS S a w' :=
  h.trans (U := row.toList) ⟨hg.os, hg.tape, hg.output, hg.size, fun k hk h1 => hg.block k hk (fun e => h1 (by rw [← e]; simp))⟩ (by
    intro x hx
    exact hr x (by simpa using hx))
theorem ChgS.below {S : List Nat} {w w' : World} {B : Nat} (h : ChgS S w w') (hS : ∀ x ∈ S, B ≤ x) (hB : B ≤ w.heap.size) : Below B w w' := ⟨h.os, h.tape, h.output, h.size, fun k hk => h.block k (by omega) (fun h1 => by have := hS k h1; omega)⟩
/-- rows of these types stay, where no block of S is one -/
theorem ChgS.stay {S : List Nat} {w w' : World} {ts : List TypeId} (h : ChgS S w w') (hS : ∀ x ∈ S, ∀ cs T fr, w.heap[x]? = some (.cells cs T fr) → T ∉ ts) : Stay ts w w' := fun k cs T fr hT hh =>
  (h.block k (blk_lt hh) (fun h1 => hS k h1 cs T fr hh hT)).trans hh
/-- bytes that belong to a file -/
def mBy : Mv (List UInt8) := ⟨1, [5], fun B w vs xs => ∃ v, vs = [v] ∧ RdB w v xs ∧ ∀ k, Value.readBlock v = some k → k < B, fun b w vs xs => ∃ v, vs = [v] ∧ Bytes b w v xs⟩
theorem bytes_stay {b : Nat} {w w' : World} {v : Value} {xs : List UInt8} (h : Bytes b w v xs) (hs : Stay [5] w w') : Bytes b w' v xs := own_stay h hs (by simp)
theorem rdB_block {w : World} {v : Value} {xs : List UInt8} (h : RdB w v xs) : ∀ k, Value.readBlock v = some k → k < w.heap.size := by
  intro k hk
  rcases h with ⟨rfl, _⟩ | ⟨b, o, c, rfl, _, _, h3, _⟩
  · cases hk
  · injection hk with hk
    subst hk; exact h3
theorem mBy_law : mBy.Lawful where
  pos := Nat.one_pos
  len h := by obtain ⟨v, rfl, _⟩ := h; rfl
  olen h := by obtain ⟨v, rfl, _⟩ := h; rfl
  keep h k := by
    obtain ⟨v, rfl, h1, h2⟩ := h
    exact ⟨v, rfl, h1.lower h2 k.size k, h2⟩
  toRep h := by
    obtain ⟨v, rfl, h⟩ := h
    exact ⟨v, rfl, h.reads, rdB_block h.reads⟩
  okeep h k := by
    obtain ⟨v, rfl, h⟩ := h
    exact ⟨v, rfl, bytes_stay h k⟩
  cell h := by
    obtain ⟨v, rfl, h⟩ := h
    obtain ⟨A, c, rfl, _⟩ := h.reads.form
    intro u hu
    simp at hu
    subst hu; rfl
  rcell h := by
    obtain ⟨v, rfl, h, _⟩ := h
    obtain ⟨A, c, rfl, _⟩ := h.form
    intro u hu
    simp at hu
    subst hu; rfl
/-- a file's three cells -/
def mFl : Mv DF := mIso (fun f => (f.nm, f.bs, f.sf)) (mSeq mS (mSeq mBy mI))
theorem mFl_law : mFl.Lawful := mIso_law _ (mSeq_law mS_law (mSeq_law mBy_law mI_law))
theorem mFl_form {b : Nat} {w : World} {vs : List Value} {f : DF} (h : mFl.own b w vs f) : ∃ v, vs = [.string f.nm, v, .int .i64 f.sf] ∧ Bytes b w v f.bs := by
  obtain ⟨us, ws, rfl, h1, us2, ws2, rfl, ⟨v, h2, h3⟩, h4⟩ := h
  have h1 : us = [Value.string f.nm] := h1
  have h4 : ws2 = [Value.int .i64 f.sf] := h4
  subst h1; subst h2; subst h4
  exact ⟨v, rfl, h3⟩
theorem mFl_mk {b : Nat} {w : World} {v : Value} {f : DF} (h : Bytes b w v f.bs) : mFl.own b w [.string f.nm, v, .int .i64 f.sf] f :=
  ⟨[_], _, rfl, rfl, [_], [_], rfl, ⟨v, rfl, h⟩, rfl⟩
/-- a disk in memory: its block, the row of its files -/
structure DkAt (w : World) (d : Nat) (st : DkSt) (v : Value) : Prop where
  blk : w.heap[d]? = some (.cells #[v, .int .i64 st.room, .int .i64 st.fuse, .bool st.dark, .func (.func 17) #[] #[]] 52)
  own : LOwn 58 mFl 0 w v st.fs
/-- the blocks that a disk's deeds turn -/
def dkS (d : Nat) (v : Value) : List Nat := d :: v.ownBlock.toList
/-- the numbers of a log's segments: a part of a row, from some place on -/
def FsAt (w : World) (v : Value) (fs : List Int) : Prop := (v = .slice none 0 0 ∧ fs = []) ∨
  ∃ (g o c : Nat) (cur : Array Value), v = .slice (some ⟨g, o, none⟩) fs.length c ∧ w.heap[g]? = some (.cells cur 3) ∧ fs.length ≤ c ∧ c ≤ maxLen ∧ cur.size = o + c ∧ ∀ (j : Nat) (x : Int), fs[j]? = some x → cur[o + j]? = some (.int .i64 x)
theorem FsAt.nil (w : World) : FsAt w (.slice none 0 0) [] := .inl ⟨rfl, rfl⟩
theorem FsAt.form {w : World} {v : Value} {fs : List Int} (h : FsAt w v fs) : ∃ A c, v = .slice A fs.length c := by
  rcases h with ⟨rfl, rfl⟩ | ⟨g, o, c, cur, rfl, _⟩
  · exact ⟨_, _, rfl⟩
  · exact ⟨_, _, rfl⟩
theorem FsAt.len {w : World} {v : Value} {fs : List Int} (h : FsAt w v fs) : fs.length ≤ maxLen := by
  rcases h with ⟨_, rfl⟩ | ⟨g, o, c, cur, _, _, h1, h2, _⟩
  · simp
  · omega
theorem FsAt.rowT {w : World} {v : Value} {fs : List Int} (h : FsAt w v fs) : ∀ k, v.ownBlock = some k → k < w.heap.size ∧ ∃ cs, w.heap[k]? = some (.cells cs 3) := by
  intro k hk
  rcases h with ⟨rfl, _⟩ | ⟨g, o, c, cur, rfl, hh, _⟩
  · simp [Value.ownBlock] at hk
  · simp [Value.ownBlock] at hk
    subst hk
    exact ⟨blk_lt hh, _, hh⟩
theorem FsAt.keepRow {w w' : World} {v : Value} {fs : List Int} (h : FsAt w v fs) (hr : ∀ k, v.ownBlock = some k → w'.heap[k]? = w.heap[k]?) : FsAt w' v fs := by
  rcases h with h | ⟨g, o, c, cur, rfl, hh, h2⟩
  · exact .inl h
  · exact .inr ⟨g, o, c, cur, rfl, (hr g (by simp [Value.ownBlock])).trans hh, h2⟩
/-- a number of the row -/
theorem first_at {w : World} {u : Value} {fs : List Int} (h : FsAt w u fs) {i : Nat} {x : Int} (hx : fs[i]? = some x) : ∃ g o c, u = .slice (some ⟨g, o, none⟩) fs.length c ∧ w.cell? ⟨g, o + i, none⟩ = some (.int .i64 x) ∧ g < w.heap.size ∧ fs.length ≤ c ∧ c ≤ maxLen := by
  rcases h with ⟨_, rfl⟩ | ⟨g, o, c, cur, rfl, hh, h1, h2, h3, h4⟩
  · simp at hx
  · exact ⟨g, o, c, rfl, by rw [blk_cell hh]; exact h4 i x hx, blk_lt hh, h1, h2⟩
theorem FsAt.of_own {w : World} {v : Value} {fs : List Int} (h : LOwn 3 mI 0 w v fs) : FsAt w v fs := by
  obtain ⟨cells, ho, he⟩ := h
  rcases ho.2 with ⟨rfl, h2⟩ | ⟨g, cap, cur, rfl, hb, hh, h3, h4, h5, h6⟩
  · exact .inl ⟨rfl, List.eq_nil_of_length_eq_zero h2⟩
  · refine .inr ⟨g, 0, cap, cur, rfl, hh, h3, h4, by rw [h5]; show cap * 1 = 0 + cap; omega, fun j x hj => ?_⟩
    have h7 : (cells.drop (j * 1)).take 1 = [.int .i64 x] := he j x hj
    have h8 : ((cells.drop (j * 1)).take 1)[0]? = some (.int .i64 x) := by rw [h7]; rfl
    rw [List.getElem?_take, if_pos (by omega), List.getElem?_drop, ← h6, List.getElem?_take] at h8
    split at h8
    · rw [show j * 1 + 0 = 0 + j by omega] at h8
      simpa using h8
    · cases h8
theorem FsAt.tail {w : World} {g o n c : Nat} {a : Int} {fs : List Int} (h : FsAt w (.slice (some ⟨g, o, none⟩) n c) (a :: fs)) : FsAt w (.slice (some ⟨g, o + 1, none⟩) (n - 1) (c - 1)) fs := by
  rcases h with ⟨h, _⟩ | ⟨g', o', c', cur, h, hh, h1, h2, h3, h4⟩
  · cases h
  · injection h with h5 h6 h7
    injection h5 with h5
    injection h5 with h5 h8
    subst h5; subst h8; subst h7
    rw [List.length_cons] at h1 h6
    refine .inr ⟨g, o + 1, c - 1, cur, by rw [h6]; rfl, hh, by omega, by omega, by omega, fun j x hj => ?_⟩
    rw [show o + 1 + j = o + (j + 1) by omega]
    exact h4 (j + 1) x (by simpa using hj)
/-- a log in memory -/
structure LgAt (w : World) (l d : Nat) (lg : LgSt) (v : Value) : Prop where
  blk : w.heap[l]? = some (.cells #[.pointer (some ⟨d, 0, none⟩), .int .i64 lg.size, v, .int .i64 lg.last, .int .i64 lg.acked, .bool lg.over] 56)
  own : FsAt w v lg.firsts
theorem LOwn.rowT {α : Type} {T : TypeId} {m : Mv α} {base : Nat} {w : World} {v : Value} {xs : List α} (h : LOwn T m base w v xs) : ∀ k, v.ownBlock = some k → k < w.heap.size ∧ ∃ cs, w.heap[k]? = some (.cells cs T) := by
  obtain ⟨cells, ho, _⟩ := h
  intro k hk
  rcases ho.2 with ⟨rfl, h2⟩ | ⟨g, cap, cur, rfl, hb, hh, h3⟩
  · simp [Value.ownBlock] at hk
  · simp [Value.ownBlock] at hk
    subst hk
    exact ⟨blk_lt hh, _, hh⟩
/-- a list stays where its row, and what its elements lean on, do -/
theorem LOwn.keepRow {α : Type} {T : TypeId} {m : Mv α} (hm : m.Lawful) {base : Nat} {w w' : World} {v : Value} {xs : List α} (h : LOwn T m base w v xs) (hr : ∀ k, v.ownBlock = some k → w'.heap[k]? = w.heap[k]?) (hs : Stay m.ts w w') : LOwn T m base w' v xs := by
  obtain ⟨cells, ho, he⟩ := h
  refine ⟨cells, ⟨ho.1, ?_⟩, fun j x hj => hm.okeep (he j x hj) hs⟩
  rcases ho.2 with h2 | ⟨g, cap, cur, rfl, hb, hh, h3⟩
  · exact .inl h2
  · exact .inr ⟨g, cap, cur, rfl, hb, (hr g (by simp [Value.ownBlock])).trans hh, h3⟩
theorem DkAt.types {w : World} {d : Nat} {st : DkSt} {v : Value} (h : DkAt w d st v) : ∀ x ∈ dkS d v, ∃ cs T, w.heap[x]? = some (.cells cs T) ∧ (T = 52 ∨ T = 58) := by
  intro x hx
  rcases List.mem_cons.1 hx with rfl | hx
  · exact ⟨_, _, h.blk, .inl rfl⟩
  · obtain ⟨_, cs, h2⟩ := h.own.rowT x (by simpa using hx)
    exact ⟨cs, _, h2, .inr rfl⟩
/-- a disk stays where another's deeds turn what they may -/
theorem DkAt.keep {w w' : World} {d : Nat} {st : DkSt} {v : Value} {S : List Nat} (h : DkAt w d st v) (hc : ChgS S w w') (hS : ∀ x ∈ S, x ∉ dkS d v) (hu : ∀ x ∈ S, ∀ cs T fr, w.heap[x]? = some (.cells cs T fr) → T ≠ 5) : DkAt w' d st v :=
  ⟨hc.blk h.blk (fun h1 => hS d h1 (by simp [dkS])), h.own.keepRow mFl_law (fun k hk => hc.block k (h.own.rowT k hk).1 (fun h1 => hS k h1 (by simp [dkS, hk]))) (hc.stay fun x hx cs T fr hh hT => hu x hx cs T fr hh (by
    have : T ∈ [5] := hT
    simpa using this))⟩
theorem DkAt.below {w w' : World} {d : Nat} {st : DkSt} {v : Value} (h : DkAt w d st v) (hb : Below w.heap.size w w') : DkAt w' d st v :=
  h.keep (S := []) (ChgS.of_below hb) (fun _ h => by cases h) (fun _ h => by cases h)
theorem LgAt.keep {w w' : World} {l d : Nat} {lg : LgSt} {v : Value} {S : List Nat} (h : LgAt w l d lg v) (hc : ChgS S w w') (hS : ∀ x ∈ S, x ≠ l ∧ some x ≠ v.ownBlock) : LgAt w' l d lg v :=
  ⟨hc.blk h.blk (fun h1 => (hS l h1).1 rfl), h.own.keepRow (fun k hk => hc.block k (h.own.rowT k hk).1 (fun h1 => (hS k h1).2 hk.symm))⟩
theorem LgAt.below {w w' : World} {l d : Nat} {lg : LgSt} {v : Value} (h : LgAt w l d lg v) (hb : Below w.heap.size w w') : LgAt w' l d lg v := h.keep (S := []) (ChgS.of_below hb) (fun _ h => by cases h)
end Go.Proofs.YthehpafkaefohaaDoor
namespace Go.Proofs.YthehpafkaefohaaDoor
open Go.RowKit
theorem LOwn.elem {α : Type} {T : TypeId} {m : Mv α} {base : Nat} {w : World} {v : Value} {xs : List α} (h : LOwn T m base w v xs) {i : Nat} {x : α} (hx : xs[i]? = some x) :
    ∃ g c cur us, v = .slice (some ⟨g, 0, none⟩) xs.length c ∧ w.heap[g]? = some (.cells cur T) ∧ xs.length ≤ c ∧ c ≤ maxLen ∧ m.own base w us x ∧ ∀ (j : Nat) (u : Value), us[j]? = some u → cur[i * m.n + j]? = some u := by
  obtain ⟨cells, ho, he⟩ := h
  have hlt := (List.getElem?_eq_some_iff.1 hx).1
  rcases ho.2 with ⟨rfl, h2⟩ | ⟨g, cap, cur, rfl, hb, hh, h3, h4, h5, h6⟩
  · omega
  · refine ⟨g, cap, cur, _, rfl, hh, h3, h4, he i x hx, fun j u hj => ?_⟩
    rw [List.getElem?_take] at hj
    split at hj
    · rename_i hjn
      rw [List.getElem?_drop, ← h6, List.getElem?_take] at hj
      split at hj
      · simpa using hj
      · cases hj
    · cases hj
/-- cell j of element i is turned: the element reads otherwise -/
theorem LOwn.turn {α : Type} {T : TypeId} {m : Mv α} (hm : m.Lawful) (hT : T ∉ m.ts) {base : Nat} {w : World} {g c : Nat} {n : Nat} {xs : List α} (h : LOwn T m base w (.slice (some ⟨g, 0, none⟩) n c) xs) {i j : Nat} {x y : α} {u : Value} (hx : xs[i]? = some x)
    (hj : j < m.n) (hy : ∀ us : List Value, m.own base w us x → m.own base w (us.set j u) y) : LOwn T m base (w.setCell ⟨g, i * m.n + j, none⟩ u) (.slice (some ⟨g, 0, none⟩) n c) (xs.set i y) := by
  obtain ⟨cells, ho, he⟩ := h
  have hlt := (List.getElem?_eq_some_iff.1 hx).1
  have hst : Stay m.ts w (w.setCell ⟨g, i * m.n + j, none⟩ u) := fun k cs T' fr hT' hh => by
    by_cases e : k = g
    · subst e
      rcases ho.2 with ⟨h9, _⟩ | ⟨g', cap, cur, h1, hb, hh2, _⟩
      · cases h9
      · injection h1 with h1
        injection h1 with h1
        injection h1 with h1
        subst h1
        rw [hh] at hh2
        injection hh2 with hh2
        injection hh2 with _ hh2
        exact absurd (hh2 ▸ hT') hT
    · exact (Below.heap_setCell _ _ _ _ e).trans hh
  have hcl := ho.1
  have hmul : i * m.n + m.n ≤ xs.length * m.n := by
    have : (i + 1) * m.n ≤ xs.length * m.n := Nat.mul_le_mul_right _ hlt
    rwa [Nat.add_mul, Nat.one_mul] at this
  refine ⟨cells.set (i * m.n + j) u, ⟨by rw [List.length_set, List.length_set]; exact hcl, ?_⟩, fun k z hz => ?_⟩
  · rcases ho.2 with ⟨h9, _⟩ | ⟨g', cap, cur, h1, hb, hh, h3, h4, h5, h6⟩
    · cases h9
    · injection h1 with h1 h8 h7
      injection h1 with h1
      injection h1 with h1
      subst h1; subst h7
      refine .inr ⟨g, c, cur.setIfInBounds (i * m.n + j) u, by rw [h8, List.length_set], hb, blk_set hh _ _, by rw [List.length_set]; exact h3, h4, by simp [h5], ?_⟩
      rw [← h6, List.length_set, Array.toList_setIfInBounds, List.take_set]
  · rw [List.getElem?_set] at hz
    by_cases e : i = k
    · subst e
      rw [if_pos rfl, if_pos hlt] at hz
      injection hz with hz
      subst hz
      have e2 : ((cells.set (i * m.n + j) u).drop (i * m.n)).take m.n = ((cells.drop (i * m.n)).take m.n).set j u := by
        apply List.ext_getElem?
        intro q
        rw [List.getElem?_take, List.getElem?_drop, List.getElem?_set, List.getElem?_set, List.getElem?_take, List.getElem?_drop, List.length_take, List.length_drop]
        by_cases hq : q < m.n
        · rw [if_pos hq]
          by_cases hqj : j = q
          · subst hqj
            rw [if_pos rfl, if_pos rfl, if_pos (by omega), if_pos (by omega)]
          · rw [if_neg (by omega), if_neg hqj, if_pos hq]
        · rw [if_neg hq]
          split
          · omega
          · first | rfl | rw [if_neg hq]
      rw [e2]
      exact hm.okeep (hy _ (he i x hx)) hst
    · rw [if_neg e] at hz
      have hk := (List.getElem?_eq_some_iff.1 hz).1
      have e2 : ((cells.set (i * m.n + j) u).drop (k * m.n)).take m.n = (cells.drop (k * m.n)).take m.n := by
        apply List.ext_getElem?
        intro q
        rw [List.getElem?_take, List.getElem?_take]
        split
        · rename_i hq
          rw [List.getElem?_drop, List.getElem?_drop, List.getElem?_set, if_neg]
          intro e3
          rcases Nat.lt_or_gt_of_ne e with h | h
          · have : (i + 1) * m.n ≤ k * m.n := Nat.mul_le_mul_right _ h
            rw [Nat.add_mul, Nat.one_mul] at this
            omega
          · have : (k + 1) * m.n ≤ i * m.n := Nat.mul_le_mul_right _ h
            rw [Nat.add_mul, Nat.one_mul] at this
            omega
        · rfl
      rw [e2]
      exact hm.okeep (he k z hz) hst
end Go.Proofs.YthehpafkaefohaaDoor
namespace Go.Proofs.YthehpafkaefohaaDoor
open Go.RowKit
/-- a row is the one of before, or new -/
def NR (v v' : Value) (w : World) : Prop := ∀ k, v'.ownBlock = some k → v.ownBlock = some k ∨ w.heap.size ≤ k
theorem NR.refl (v : Value) (w : World) : NR v v w := fun _ h => .inl h
theorem NR.trans {v1 v2 v3 : Value} {w w' : World} (h : NR v1 v2 w) (k : NR v2 v3 w') (hs : w.heap.size ≤ w'.heap.size) : NR v1 v3 w := fun i hi => by
  rcases k i hi with h1 | h1
  · exact h i h1
  · exact .inr (Nat.le_trans hs h1)
/-- what a disk's deed comes to -/
def DPost (d : Nat) (v : Value) (st' : DkSt) (r : Int) (w : World) (e : Ending) (w' : World) : Prop :=
  ∃ v', e = .returned (.int .i64 r) ∧ DkAt w' d st' v' ∧ ChgS (dkS d v) w w' ∧ NR v v' w
theorem dkS_sub {d : Nat} {v v' : Value} {w : World} (h : NR v v' w) : ∀ x ∈ dkS d v', x ∈ dkS d v ∨ w.heap.size ≤ x := by
  intro x hx
  rcases List.mem_cons.1 hx with rfl | hx
  · exact .inl (by simp [dkS])
  · rcases h x (by simpa using hx) with h1 | h1
    · exact .inl (by simp [dkS, h1])
    · exact .inr h1
theorem LgAt.types {w : World} {l d : Nat} {lg : LgSt} {u : Value} (h : LgAt w l d lg u) : ∀ x ∈ l :: u.ownBlock.toList, ∃ cs T, w.heap[x]? = some (.cells cs T) ∧ (T = 56 ∨ T = 3) := by
  intro x hx
  rcases List.mem_cons.1 hx with rfl | hx
  · exact ⟨_, _, h.blk, .inl rfl⟩
  · obtain ⟨_, cs, h2⟩ := h.own.rowT x (by simpa using hx)
    exact ⟨cs, _, h2, .inr rfl⟩
theorem dl_apart {w : World} {d : Nat} {st : DkSt} {v : Value} {l d' : Nat} {lg : LgSt} {u : Value} (hd : DkAt w d st v) (hl : LgAt w l d' lg u) : ∀ x ∈ dkS d v, x ∉ l :: u.ownBlock.toList := by
  intro x hx hx2
  obtain ⟨cs, T, h1, h2⟩ := hd.types x hx
  obtain ⟨cs2, T2, h3, h4⟩ := hl.types x hx2
  rw [h1] at h3
  injection h3 with h3
  injection h3 with _ h3
  subst h3
  rcases h2 with h2 | h2 <;> rcases h4 with h4 | h4 <;> (rw [h2] at h4; exact absurd h4 (by decide))
theorem LgAt.keepD {w w' : World} {d : Nat} {st : DkSt} {v : Value} {l d' : Nat} {lg : LgSt} {u : Value} (hl : LgAt w l d' lg u) (hd : DkAt w d st v) (hc : ChgS (dkS d v) w w') : LgAt w' l d' lg u :=
  hl.keep hc fun x hx => by
    have := dl_apart hd hl x hx
    simp at this
    exact ⟨this.1, fun e => this.2 e.symm⟩
theorem DkAt.keepL {w w' : World} {d : Nat} {st : DkSt} {v : Value} {l d' : Nat} {lg : LgSt} {u : Value} (hd : DkAt w d st v) (hl : LgAt w l d' lg u) (hc : ChgS (l :: u.ownBlock.toList) w w') : DkAt w' d st v :=
  hd.keep hc (fun x hx h2 => dl_apart hd hl x h2 hx) fun x hx cs T fr hh => by
    obtain ⟨cs2, T2, h3, h4⟩ := hl.types x hx
    rw [hh] at h3
    injection h3 with h3
    injection h3 with _ h3
    subst h3
    rcases h4 with rfl | rfl <;> decide
theorem LgAt.l_ne {w : World} {l d : Nat} {lg : LgSt} {u : Value} (h : LgAt w l d lg u) : ∀ k, u.ownBlock = some k → k ≠ l := by
  rintro k hk rfl
  obtain ⟨_, cs, h2⟩ := h.own.rowT k hk
  rw [h.blk] at h2
  injection h2 with h2
  injection h2 with _ h2
  exact absurd h2 (by decide)
theorem LgAt.setc {w : World} {l d : Nat} {lg lg' : LgSt} {u : Value} (h : LgAt w l d lg u) {o : Nat} {z : Value} (hf : lg'.firsts = lg.firsts) (hz : (#[Value.pointer (some ⟨d, 0, none⟩), .int .i64 lg.size, u, .int .i64 lg.last, .int .i64 lg.acked, .bool lg.over].setIfInBounds o z) = #[Value.pointer (some ⟨d, 0, none⟩), .int .i64 lg'.size, u, .int .i64 lg'.last, .int .i64 lg'.acked, .bool lg'.over]) : LgAt (w.setCell ⟨l, o, none⟩ z) l d lg' u :=
  ⟨by rw [← hz]; exact blk_set h.blk _ _, by
    rw [hf]
    exact h.own.keepRow (fun k hk => Below.heap_setCell _ _ _ _ (h.l_ne k hk))⟩
theorem LgAt.set_over {w : World} {l d : Nat} {lg : LgSt} {u : Value} (h : LgAt w l d lg u) (b : Bool) : LgAt (w.setCell ⟨l, 5, none⟩ (.bool b)) l d { lg with over := b } u := h.setc rfl rfl
theorem LgAt.set_acked {w : World} {l d : Nat} {lg : LgSt} {u : Value} (h : LgAt w l d lg u) (n : Int) : LgAt (w.setCell ⟨l, 4, none⟩ (.int .i64 n)) l d { lg with acked := n } u := h.setc rfl rfl
theorem LgAt.set_last {w : World} {l d : Nat} {lg : LgSt} {u : Value} (h : LgAt w l d lg u) (n : Int) : LgAt (w.setCell ⟨l, 3, none⟩ (.int .i64 n)) l d { lg with last := n } u := h.setc rfl rfl
theorem LgAt.cells {w : World} {l d : Nat} {lg : LgSt} {u : Value} (h : LgAt w l d lg u) : w.cell? ⟨l, 0, none⟩ = some (.pointer (some ⟨d, 0, none⟩)) ∧ w.cell? ⟨l, 1, none⟩ = some (.int .i64 lg.size) ∧ w.cell? ⟨l, 2, none⟩ = some u ∧ w.cell? ⟨l, 3, none⟩ = some (.int .i64 lg.last) ∧ w.cell? ⟨l, 4, none⟩ = some (.int .i64 lg.acked) ∧ w.cell? ⟨l, 5, none⟩ = some (.bool lg.over) := by
  refine ⟨?_, ?_, ?_, ?_, ?_, ?_⟩ <;> (rw [blk_cell h.blk]; rfl)
/-- a row of firsts that is set -/
theorem LgAt.set_firsts {w w' : World} {l d : Nat} {lg : LgSt} {u u' : Value} {fs : List Int} (h : LgAt w l d lg u) (hb : w'.heap[l]? = w.heap[l]?) (ho : FsAt w' u' fs) (hne : ∀ k, u'.ownBlock = some k → k ≠ l) : LgAt (w'.setCell ⟨l, 2, none⟩ u') l d { lg with firsts := fs } u' :=
  ⟨blk_set (hb.trans h.blk) _ _, ho.keepRow (fun k hk => Below.heap_setCell _ _ _ _ (hne k hk))⟩
theorem DkAt.d_ne {w : World} {d : Nat} {st : DkSt} {v : Value} (h : DkAt w d st v) : ∀ k, v.ownBlock = some k → k ≠ d := by
  rintro k hk rfl
  obtain ⟨_, cs, h2⟩ := h.own.rowT k hk
  rw [h.blk] at h2
  injection h2 with h2
  injection h2 with _ h2
  exact absurd h2 (by decide)
theorem dk_stay {w : World} {d : Nat} {cs : Array Value} (hb : w.heap[d]? = some (.cells cs 52)) (o : Nat) (z : Value) : Stay mFl.ts w (w.setCell ⟨d, o, none⟩ z) := fun k c T fr hT hh => by
  by_cases e : k = d
  · subst e
    rw [hb] at hh
    injection hh with hh
    injection hh with _ hh
    subst hh
    have hT : 52 ∈ [5] := hT
    exact absurd hT (by decide)
  · exact (Below.heap_setCell _ _ _ _ e).trans hh
theorem DkAt.setc {w : World} {d : Nat} {st st' : DkSt} {v : Value} (h : DkAt w d st v) {o : Nat} {z : Value} (hf : st'.fs = st.fs) (hz : (#[v, .int .i64 st.room, .int .i64 st.fuse, .bool st.dark, .func (.func 17) #[] #[]].setIfInBounds o z) = #[v, .int .i64 st'.room, .int .i64 st'.fuse, .bool st'.dark, .func (.func 17) #[] #[]]) : DkAt (w.setCell ⟨d, o, none⟩ z) d st' v :=
  ⟨by rw [← hz]; exact blk_set h.blk _ _, by
    rw [hf]
    exact h.own.keepRow mFl_law (fun k hk => Below.heap_setCell _ _ _ _ (h.d_ne k hk)) (dk_stay h.blk _ _)⟩
theorem DkAt.set_fuse {w : World} {d : Nat} {st : DkSt} {v : Value} (h : DkAt w d st v) (n : Int) : DkAt (w.setCell ⟨d, 2, none⟩ (.int .i64 n)) d { st with fuse := n } v := h.setc rfl rfl
theorem DkAt.set_dark {w : World} {d : Nat} {st : DkSt} {v : Value} (h : DkAt w d st v) (b : Bool) : DkAt (w.setCell ⟨d, 3, none⟩ (.bool b)) d { st with dark := b } v := h.setc rfl rfl
/-- the row of files is set -/
theorem DkAt.set_fs {w w' : World} {d : Nat} {st : DkSt} {v v' : Value} {fs : List DF} (h : DkAt w d st v) (hb : w'.heap[d]? = w.heap[d]?) (ho : LOwn 58 mFl 0 w' v' fs) (hne : ∀ k, v'.ownBlock = some k → k ≠ d) : DkAt (w'.setCell ⟨d, 0, none⟩ v') d { st with fs := fs } v' :=
  ⟨blk_set (hb.trans h.blk) _ _, ho.keepRow mFl_law (fun k hk => Below.heap_setCell _ _ _ _ (hne k hk)) (dk_stay (hb.trans h.blk) _ _)⟩
theorem ChgS.setD {S : List Nat} {a w : World} (h : ChgS S a w) {d : Nat} (hd : d ∈ S) (o : Nat) (u : Value) : ChgS S a (w.setCell ⟨d, o, none⟩ u) := h.set (.inl hd) o u
/-- a disk and its log in memory; S: the blocks -/
def LB (w : World) (d l : Nat) (dk : DkSt) (lg : LgSt) (S : List Nat) : Prop := ∃ v u, DkAt w d dk v ∧ LgAt w l d lg u ∧ S = dkS d v ++ (l :: u.ownBlock.toList)
structure Nx (S : List Nat) (w w' : World) (S' : List Nat) : Prop where
  chg : ChgS S w w'
  sub : ∀ x ∈ S', x ∈ S ∨ w.heap.size ≤ x
theorem Nx.refl (S : List Nat) (w : World) : Nx S w w S := ⟨ChgS.refl _ _, fun _ h => .inl h⟩
theorem Nx.trans {S S1 S2 : List Nat} {w w1 w2 : World} (h : Nx S w w1 S1) (k : Nx S1 w1 w2 S2) : Nx S w w2 S2 :=
  ⟨h.chg.trans k.chg h.sub, fun x hx => by
    rcases k.sub x hx with h1 | h1
    · exact h.sub x h1
    · exact .inr (Nat.le_trans h.chg.size h1)⟩
theorem Nx.below {S S1 : List Nat} {w w1 w2 : World} (h : Nx S w w1 S1) (k : Below w1.heap.size w1 w2) : Nx S w w2 S1 := ⟨h.chg.then k, h.sub⟩
theorem LB.types {w : World} {d l : Nat} {dk : DkSt} {lg : LgSt} {S : List Nat} (h : LB w d l dk lg S) : ∀ x ∈ S, ∃ cs T, w.heap[x]? = some (.cells cs T) ∧ T ≠ 5 := by
  obtain ⟨v, u, h1, h2, rfl⟩ := h
  intro x hx
  rcases List.mem_append.1 hx with hx | hx
  · obtain ⟨cs, T, h3, h4⟩ := h1.types x hx
    exact ⟨cs, T, h3, by rcases h4 with rfl | rfl <;> decide⟩
  · obtain ⟨cs, T, h3, h4⟩ := h2.types x hx
    exact ⟨cs, T, h3, by rcases h4 with rfl | rfl <;> decide⟩
theorem LB.lt {w : World} {d l : Nat} {dk : DkSt} {lg : LgSt} {S : List Nat} (h : LB w d l dk lg S) : ∀ x ∈ S, x < w.heap.size := fun x hx => by
  obtain ⟨cs, T, h1, _⟩ := h.types x hx
  exact blk_lt h1
theorem LB.keep {w w' : World} {d l d2 l2 : Nat} {dk dk2 : DkSt} {lg lg2 : LgSt} {S S2 : List Nat} (h2 : LB w d2 l2 dk2 lg2 S2) (h : LB w d l dk lg S) (hc : ChgS S w w') (hx : ∀ x ∈ S, x ∉ S2) : LB w' d2 l2 dk2 lg2 S2 := by
  have ht := h.types
  obtain ⟨v, u, a1, a2, rfl⟩ := h2
  refine ⟨v, u, a1.keep hc (fun x h1 h3 => hx x h1 (List.mem_append_left _ h3)) (fun x h1 cs T fr hh => ?_), a2.keep hc (fun x h1 => ?_), rfl⟩
  · obtain ⟨cs2, T2, h3, h4⟩ := ht x h1
    rw [hh] at h3
    injection h3 with h3
    injection h3 with _ h3
    subst h3
    exact h4
  · have := hx x h1
    simp at this
    exact ⟨this.2.1, fun e => this.2.2 e.symm⟩
theorem LB.below {w w' : World} {d l : Nat} {dk : DkSt} {lg : LgSt} {S : List Nat} (h : LB w d l dk lg S) (hb : Below w.heap.size w w') : LB w' d l dk lg S := by
  obtain ⟨v, u, h1, h2, rfl⟩ := h
  exact ⟨v, u, h1.below hb, h2.below hb, rfl⟩
/-- bytes that stand outside of S stay -/
theorem RdB.chgS {w w' : World} {S : List Nat} {v : Value} {ys : List UInt8} (h : RdB w v ys) (hc : ChgS S w w') (hS : ∀ k, Value.readBlock v = some k → k ∉ S) : RdB w' v ys := by
  rcases h with h | ⟨b, o, c, rfl, h1, h2, h3, h4⟩
  · exact .inl h
  · refine .inr ⟨b, o, c, rfl, h1, h2, Nat.lt_of_lt_of_le h3 hc.size, fun j y hj => ?_⟩
    exact (World.cell?_of_block (w := w) (a := ⟨b, o + j, none⟩) (hc.block b h3 (hS b rfl))).trans (h4 j y hj)
end Go.Proofs.YthehpafkaefohaaDoor
namespace Go.Proofs.YthehpafkaefohaaDoor
open Go.RowKit
/-- what an append asks of the type of the elements -/
structure Elem (T t : TypeId) (n bytes : Nat) (z : Value) : Prop where
  ut : Tryd.prog.underlying t = some (.slice T)
  info : (Tryd.prog.info? T).map (fun i => (i.zero, i.size, i.bytes)) = some (some z, n, bytes)
  zs : z.cells.size = n
/-- 'append(s, x)' of one element that lies in a block of its own -/
theorem wpList_push {α : Type} {T t : TypeId} {m : Mv α} {ops : Array Oper} {rest : List Oper} {o : Oper} {a : Act} {w : World} {Q : Exit → Act → World → Prop} (hgd : o.guard = none) (s x : Operand)
    (ho : o.op = .call { callee := .builtin .append, args := #[s, x], argTypes := #[t, t] }) {bytes : Nat} {z : Value} (hE : Elem T t m.n bytes z) (hm : m.Lawful) (hT : T ∉ m.ts)
    (base : Nat) (v : Value) (xs : List α) (y : α) (us : List Value) (b : Nat) (hs : a.eval s = v) (hown : LOwn T m base w v xs) (hx : a.eval x = .slice (some ⟨b, 0, none⟩) 1 1) {U : TypeId} (hc : w.heap[b]? = some (.cells us.toArray U)) (hy : m.own base w us y)
    (hl : xs.length + 1 ≤ 100000000000) (hby : bytes ≤ 1000) (hb : base ≤ w.heap.size)
    (h : ∀ v' w', LOwn T m base w' v' (xs ++ [y]) → w.grownBy w' v.ownBlock → (v'.ownBlock = v.ownBlock ∨ v'.ownBlock = some w.heap.size) → wpList Tryd.prog ops Q rest (a.put o.dst v') w') : wpList Tryd.prog ops Q (o :: rest) a w := by
  obtain ⟨i0, hi, hz0, hz1, hz2⟩ := info_parts hE.info
  obtain ⟨cells, ho1, he⟩ := hown
  have hul := hm.olen hy
  refine wpList_append_own_at _ hgd s x t ho base T i0 z m.n bytes hE.ut hi hz0 hz1 hz2 hE.zs hm.pos v xs.length _ hs ho1 ⟨b, 0, none⟩ 1 1 us hx (by omega) ?_ (hm.cell hy) ?_ ?_ hb ?_
  · intro j u hj
    rw [addr_add, blk_cell hc]
    simpa using hj
  · simp only [maxLen]; omega
  · have : (xs.length + 1) * bytes ≤ 100000000000 * 1000 := Nat.mul_le_mul hl hby
    omega
  · intro v' w' h1 h2 _ h3
    exact h v' w' (LOwn.push hm hT ho1 he hy h1 h2) h2 h3
theorem elF : Elem 58 50 3 48 (.agg #[.string ⟨#[]⟩, .slice none 0 0, .int .i64 0]) := ⟨by kernel_rfl, by kernel_rfl, by kernel_rfl⟩
theorem elI : Elem 3 54 1 8 (.int .i64 0) := ⟨by kernel_rfl, by kernel_rfl, by kernel_rfl⟩
/-- a row with an element put in, where there is room -/
theorem ins_room {α : Type} (cur cells us : List α) (n i k : Nat) (hc : cur.take (n * k) = cells) (hcl : cells.length = n * k) (hi : i ≤ n) (hu : us.length = k) (hs : (n + 1) * k ≤ cur.length) (cur1 : List α)
    (h1 : cur1 = cur.take ((i + 1) * k) ++ cells.drop (i * k) ++ cur.drop ((i + 1) * k + (cells.drop (i * k)).length)) :
    (cur1.take (i * k) ++ us ++ cur1.drop (i * k + us.length)).take ((n + 1) * k) = cells.take (i * k) ++ us ++ cells.drop (i * k) ∧ (cur1.take (i * k) ++ us ++ cur1.drop (i * k + us.length)).length = cur.length ∧ cur1.length = cur.length := by
  have e1 : i * k ≤ n * k := Nat.mul_le_mul_right _ hi
  have e2 : (n + 1) * k = n * k + k := by rw [Nat.add_mul, Nat.one_mul]
  have e3 : (i + 1) * k = i * k + k := by rw [Nat.add_mul, Nat.one_mul]
  have hd : (cells.drop (i * k)).length = n * k - i * k := by rw [List.length_drop, hcl]
  have hl1 : cur1.length = cur.length := by
    rw [h1]
    simp only [List.length_append, List.length_take, List.length_drop, hcl, e3]
    omega
  have ht : cur1.take (i * k) = cells.take (i * k) := by
    rw [h1, List.append_assoc, List.take_append_of_le_length (by rw [List.length_take]; omega), List.take_take, Nat.min_eq_left (by omega), ← hc, List.take_take, Nat.min_eq_left e1]
  have hdr : ∃ r, cur1.drop (i * k + k) = cells.drop (i * k) ++ r := by
    refine ⟨cur.drop ((i + 1) * k + (cells.drop (i * k)).length), ?_⟩
    rw [h1, List.append_assoc, List.drop_append_of_le_length (by rw [List.length_take]; omega), List.drop_eq_nil_of_le (by rw [List.length_take]; omega), List.nil_append]
  obtain ⟨r, hr⟩ := hdr
  refine ⟨?_, ?_, hl1⟩
  · rw [ht, hu, hr, ← List.append_assoc, List.take_append_of_le_length (by simp only [List.length_append, List.length_take, hd, hu, hcl]; omega), List.take_of_length_le (by simp only [List.length_append, List.length_take, hd, hu, hcl]; omega)]
  · simp only [List.length_append, List.length_take, List.length_drop, hl1, hu]
    omega
theorem chg_setRow {S : List Nat} {a w : World} (h : ChgS S a w) {g : Nat} (hg : g ∈ S ∨ a.heap.size ≤ g) (cs : Array Value) : ChgS S a (w.setRow g cs) :=
  h.trans (U := [g]) ⟨rfl, rfl, rfl, by simp, fun k _ h1 => setRow_other _ _ _ _ (by simpa using h1)⟩ (by simpa using hg)
end Go.Proofs.YthehpafkaefohaaDoor
namespace Go.Proofs.YthehpafkaefohaaDoor
open Go.RowKit
theorem seg_ins {α : Type} {cells us : List α} {N n i j : Nat} (hl : cells.length = N * n) (hi : i ≤ N) (hu : us.length = n) (_hj : j ≤ N) :
    ((cells.take (i * n) ++ us ++ cells.drop (i * n)).drop (j * n)).take n = if j < i then (cells.drop (j * n)).take n else if j = i then us else (cells.drop ((j - 1) * n)).take n := by
  have e0 : i * n ≤ cells.length := by rw [hl]; exact Nat.mul_le_mul_right _ hi
  have el : (cells.take (i * n)).length = i * n := by rw [List.length_take]; omega
  apply List.ext_getElem?
  intro q
  rw [List.getElem?_take]
  by_cases hq : q < n
  · rw [if_pos hq, List.getElem?_drop, List.append_assoc]
    by_cases h1 : j < i
    · have h2 : (j + 1) * n ≤ i * n := Nat.mul_le_mul_right _ h1
      rw [Nat.add_mul, Nat.one_mul] at h2
      rw [if_pos h1, List.getElem?_append_left (by omega), List.getElem?_take, if_pos (by omega), List.getElem?_take, if_pos hq, List.getElem?_drop]
    · rw [if_neg h1]
      by_cases h2 : j = i
      · subst h2
        rw [if_pos rfl, List.getElem?_append_right (by omega), el, List.getElem?_append_left (by omega)]
        congr 1
        omega
      · rw [if_neg h2, List.getElem?_take, if_pos hq, List.getElem?_drop]
        have h3 : (i + 1) * n ≤ j * n := Nat.mul_le_mul_right _ (by omega)
        rw [Nat.add_mul, Nat.one_mul] at h3
        have h4 : (j - 1) * n + n = j * n := by
          have : (j - 1 + 1) * n = j * n := by rw [show j - 1 + 1 = j by omega]
          rw [Nat.add_mul, Nat.one_mul] at this
          exact this
        rw [List.getElem?_append_right (by omega), el, List.getElem?_append_right (by omega), hu, List.getElem?_drop]
        congr 1
        omega
  · rw [if_neg hq]
    symm
    apply List.getElem?_eq_none
    split
    · rw [List.length_take]; omega
    · split
      · omega
      · rw [List.length_take]; omega
/-- the cells of a list with an element put in -/
theorem LOwn.ins {α : Type} {T : TypeId} {m : Mv α} (hm : m.Lawful) {base : Nat} {w w' : World} {v v' : Value} {xs : List α} {cells us : List Value} {x : α} {i : Nat} (ho : w.ownsRow base T m.n v xs.length cells)
    (he : ∀ (j : Nat) (y : α), xs[j]? = some y → m.own base w ((cells.drop (j * m.n)).take m.n) y) (hi : i ≤ xs.length) (hx : m.own base w us x) (hs : Stay m.ts w w')
    (ho' : w'.ownsRow base T m.n v' (xs.length + 1) (cells.take (i * m.n) ++ us ++ cells.drop (i * m.n))) : LOwn T m base w' v' (xs.take i ++ x :: xs.drop i) := by
  have hul := hm.olen hx
  have hlen : (xs.take i ++ x :: xs.drop i).length = xs.length + 1 := by simp; omega
  refine ⟨_, by rw [hlen]; exact ho', fun j y hj => ?_⟩
  have hjl := (List.getElem?_eq_some_iff.1 hj).1
  rw [hlen] at hjl
  rw [seg_ins ho.1 hi hul (by omega)]
  by_cases h1 : j < i
  · rw [if_pos h1]
    rw [List.getElem?_append_left (by rw [List.length_take]; omega), List.getElem?_take, if_pos h1] at hj
    exact hm.okeep (he j y hj) hs
  · rw [if_neg h1]
    rw [List.getElem?_append_right (by rw [List.length_take]; omega), List.length_take, Nat.min_eq_left hi] at hj
    by_cases h2 : j = i
    · subst h2
      rw [if_pos rfl]
      simp at hj
      subst hj
      exact hm.okeep hx hs
    · rw [if_neg h2]
      obtain ⟨k, hk⟩ : ∃ k, j - i = k + 1 := ⟨j - i - 1, by omega⟩
      rw [hk, List.getElem?_cons_succ, List.getElem?_drop] at hj
      rw [show j - 1 = i + k by omega]
      exact hm.okeep (he _ y hj) hs
/-- 'copy(d, s)' of elements of any number of cells into a row -/
theorem run_copy_rowK {P : Program} (w : World) (dT sT ty elem : TypeId) (g o dLen dCap : Nat) (a : Addr) (sLen sCap n : Nat) (cur : Array Value) (t : TypeId) (cs : List Value)
    (hu : P.underlying dT = some (.slice elem)) (hs : (P.info? elem).map (·.size) = some n)
    (hg : w.heap[g]? = some (.cells cur t (0, 0))) (hn : cs.length = Nat.min sLen dLen * n)
    (hsrc : ∀ j v, cs[j]? = some v → w.cell? (a.add j) = some v) (hfit : o + cs.length ≤ cur.size) (h1 : ∀ v ∈ cs, v.oneCell' = true) :
    (Builtin.copy_ #[dT, sT] ty #[.slice (some ⟨g, o, none⟩) dLen dCap, .slice (some a) sLen sCap]).run P w =
      .ok (goInt (Nat.min sLen dLen)) (w.setRow g (cur.toList.take o ++ cs ++ cur.toList.drop (o + cs.length)).toArray) := by
  have hl := run_loadCells_list (P := P) w a cs hsrc
  have hst := run_storeCells_at P g o t cs 0 cur w hg (by simpa using hfit) h1
  cases hq : P.info? elem with
  | none => simp [hq] at hs
  | some i =>
    have hi : i.size = n := by simpa [hq] using hs
    subst hi
    simp [Builtin.copy_, run_underlying hu, Builtin.lenOf, Builtin.firstCells, sizeOf, typeInfo, hq, ← hn, hl, hst]
end Go.Proofs.YthehpafkaefohaaDoor

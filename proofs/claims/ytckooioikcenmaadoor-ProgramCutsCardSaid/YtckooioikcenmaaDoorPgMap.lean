/- Maps of the call's own, whose keys are single bytes: what is laid in is found. Conditions: none. -/
import Derived.Test.YtckooioikcenmaaDoorBase
import Derived.MapKept
import Derived.Maps.Own
namespace Go.Proofs.YtckooioikcenmaaDoor
open Go.RowKit Go.MapKept
/-- block b is a map; what R tells of is in it; its keys are among N's -/
def MapR (w : World) (b : Nat) (N : Int → Prop) (R : Int → Value → Prop) : Prop :=
  ∃ es clock, w.heap[b]? = some (.map es clock) ∧ Stamped es clock ∧ (∀ x ∈ es.toList, IsKey (.int .u8) x.key) ∧
    (∀ x ∈ es.toList, ∃ k, x.key = .int .u8 k ∧ N k) ∧ ∀ k v, R k v → ∃ x ∈ es.toList, x.key = .int .u8 k ∧ x.val = v
theorem MapR.empty (w : World) : MapR (w.alloc (.map #[] 0)) w.heap.size (fun _ => False) (fun _ _ => False) :=
  ⟨_, _, alloc_at _ _, stamped_empty 0, by simp, by simp, fun _ _ h => h.elim⟩
theorem MapR.keep {w w' : World} {b : Nat} {N : Int → Prop} {R : Int → Value → Prop} (h : MapR w b N R) (hb : w'.heap[b]? = w.heap[b]?) : MapR w' b N R := by
  obtain ⟨es, cl, h1, h2⟩ := h
  exact ⟨es, cl, hb.trans h1, h2⟩
theorem MapR.lt {w : World} {b : Nat} {N : Int → Prop} {R : Int → Value → Prop} (h : MapR w b N R) : b < w.heap.size := by
  obtain ⟨es, cl, h1, h2⟩ := h
  exact blk_lt h1
theorem MapR.weaken {w : World} {b : Nat} {N N' : Int → Prop} {R R' : Int → Value → Prop} (h : MapR w b N R) (hN : ∀ k, N k → N' k) (hR : ∀ k v, R' k v → R k v) : MapR w b N' R' := by
  obtain ⟨es, cl, h1, h2, h3, h4, h5⟩ := h
  exact ⟨es, cl, h1, h2, h3, fun x hx => by obtain ⟨k, hk, hn⟩ := h4 x hx; exact ⟨k, hk, hN k hn⟩, fun k v hr => h5 k v (hR k v hr)⟩
theorem MapR.both {w : World} {b : Nat} {N N' : Int → Prop} {R R' : Int → Value → Prop} (h : MapR w b N R) (h' : MapR w b N' R') : MapR w b N (fun k v => R k v ∨ R' k v) := by
  obtain ⟨es, cl, h1, h2, h3, h4, h5⟩ := h
  obtain ⟨es', cl', h1', _, _, _, h5'⟩ := h'
  rw [h1] at h1'
  cases h1'
  exact ⟨es, cl, h1, h2, h3, h4, fun k v hr => hr.elim (h5 k v) (h5' k v)⟩
theorem key8 (k : Int) : IsKey (.int .u8) (.int .u8 k) := rfl
theorem nodup_key {l : List MapEntry} (h : (l.map (·.key)).Nodup) {x y : MapEntry} (hx : x ∈ l) (hy : y ∈ l) (hk : x.key = y.key) : x = y := by
  induction l with
  | nil => cases hx
  | cons a l ih =>
    simp only [List.map_cons, List.nodup_cons] at h
    rcases List.mem_cons.1 hx with rfl | hx' <;> rcases List.mem_cons.1 hy with rfl | hy'
    · rfl
    · exact (h.1 (by rw [hk]; exact List.mem_map.2 ⟨y, hy', rfl⟩)).elim
    · exact (h.1 (by rw [← hk]; exact List.mem_map.2 ⟨x, hx', rfl⟩)).elim
    · exact ih h.2 hx' hy'
section
variable {P : Program} {w : World} {mty kt et : TypeId} {b : Nat} {N : Int → Prop} {R : Int → Value → Prop}
theorem MapR.insert (h : MapR w b N R) (hm : P.underlying mty = some (.map kt et)) (hk : P.underlying kt = some (.int .u8)) (k : Int) (v : Value) :
    ∃ w', (Instr.mapUpdate mty (.map (some b)) (.int .u8 k) v).run P w = .ok () w' ∧ MapR w' b (fun k' => N k' ∨ k' = k) (fun k' v' => (k' = k ∧ v' = v) ∨ (k' ≠ k ∧ R k' v')) ∧
      (∀ b', b' ≠ b → w'.heap[b']? = w.heap[b']?) ∧ ∃ o, w' = { w with heap := w.heap.setIfInBounds b o } := by
  obtain ⟨es, cl, hb, hs, hks, hN, hR⟩ := h
  rcases findNow_spec (key8 k) es.toList 0 hks with ⟨h1, h2⟩ | ⟨j, e, h1, h2, h3⟩
  · refine ⟨_, by simp [Instr.mapUpdate, run_underlying hm, Go.MapKept.run_getObj_map hb, Go.MapKept.run_checkKey hk (key8 k), Go.MapKept.run_findKey hk h1, Go.MapKept.run_setObj_map _ hb, Result.andThen]; rfl, ?_, (heap_set hb).2, _, rfl⟩
    refine ⟨_, _, (heap_set hb).1, stamped_push hs h2, ?_, ?_, ?_⟩
    · intro x hx
      simp only [Array.toList_push, List.mem_append, List.mem_singleton] at hx
      rcases hx with hx | rfl
      · exact hks x hx
      · exact key8 k
    · intro x hx
      simp only [Array.toList_push, List.mem_append, List.mem_singleton] at hx
      rcases hx with hx | rfl
      · obtain ⟨k', e', n'⟩ := hN x hx
        exact ⟨k', e', .inl n'⟩
      · exact ⟨k, rfl, .inr rfl⟩
    · rintro k' v' (⟨rfl, rfl⟩ | ⟨_, hr⟩)
      · exact ⟨⟨.int .u8 k', v', cl⟩, by simp, rfl, rfl⟩
      · obtain ⟨x, hx, hx2⟩ := hR k' v' hr
        exact ⟨x, by simp [Array.mem_toList_iff] at hx ⊢; exact .inl hx, hx2⟩
  · have hj : es[j]? = some e := by simpa using h2
    refine ⟨_, by simp [Instr.mapUpdate, run_underlying hm, Go.MapKept.run_getObj_map hb, Go.MapKept.run_checkKey hk (key8 k), Go.MapKept.run_findKey hk h1, hj, h3, run_keyThatStays (key8 k), Go.MapKept.run_setObj_map _ hb, Result.andThen]; rfl, ?_, (heap_set hb).2, _, rfl⟩
    have hkey : ∀ e', es[j]? = some e' → ({ e' with key := .int .u8 k, val := v } : MapEntry).key = e'.key := fun e' he' => by rw [hj] at he'; cases he'; exact h3.symm
    have hat : ∀ i, (es.modify j fun e => { e with key := .int .u8 k, val := v })[i]? = if j = i then (es[i]?).map (fun e => { e with key := .int .u8 k, val := v }) else es[i]? := fun i => by
      rw [Array.getElem?_modify]
    refine ⟨_, _, (heap_set hb).1, stamped_modify hs _ _ (fun _ _ => rfl) (fun e' _ he' => hkey e' he'), isKey_modify hks _ _ hkey, ?_, ?_⟩
    · intro x hx
      obtain ⟨i, hi⟩ := Array.mem_iff_getElem?.1 (Array.mem_toList_iff.1 hx)
      rw [hat] at hi
      split at hi
      · rename_i hji
        subst hji
        rw [hj] at hi
        simp only [Option.map_some, Option.some.injEq] at hi
        subst hi
        exact ⟨k, rfl, .inr rfl⟩
      · obtain ⟨k', e', n'⟩ := hN x (Array.mem_toList_iff.2 (Array.mem_iff_getElem?.2 ⟨i, hi⟩))
        exact ⟨k', e', .inl n'⟩
    · rintro k' v' (⟨rfl, rfl⟩ | ⟨hne, hr⟩)
      · refine ⟨{ e with key := .int .u8 k', val := v' }, Array.mem_toList_iff.2 (Array.mem_iff_getElem?.2 ⟨j, ?_⟩), rfl, rfl⟩
        rw [hat, if_pos rfl, hj]; rfl
      · obtain ⟨x, hx, hx2, hx3⟩ := hR k' v' hr
        obtain ⟨i, hi⟩ := Array.mem_iff_getElem?.1 (Array.mem_toList_iff.1 hx)
        refine ⟨x, Array.mem_toList_iff.2 (Array.mem_iff_getElem?.2 ⟨i, ?_⟩), hx2, hx3⟩
        rw [hat, if_neg, hi]
        rintro rfl
        rw [hj] at hi
        cases hi
        rw [h3] at hx2
        injection hx2 with _ q
        exact hne q.symm
theorem MapR.found (h : MapR w b N R) (hm : P.underlying mty = some (.map kt et)) (hk : P.underlying kt = some (.int .u8)) {k : Int} {v : Value} (hr : R k v) :
    (Instr.lookup mty (.map (some b)) (.int .u8 k) false).run P w = .ok v w := by
  obtain ⟨es, cl, hb, hs, hks, hN, hR⟩ := h
  obtain ⟨x, hx, hx2, hx3⟩ := hR k v hr
  rcases findNow_spec (key8 k) es.toList 0 hks with ⟨h1, h2⟩ | ⟨j, e, h1, h2, h3⟩
  · exact (h2 x hx hx2).elim
  · obtain rfl : x = e := nodup_key hs.2.2 hx (List.mem_of_getElem? h2) (hx2.trans h3.symm)
    simp [Instr.lookup, run_underlying hm, Go.MapKept.run_getObj_map hb, Go.MapKept.run_checkKey hk (key8 k), Go.MapKept.run_findKey hk h1, Result.andThen, hx3]
theorem MapR.lacks (h : MapR w b N R) (hm : P.underlying mty = some (.map kt et)) (hk : P.underlying kt = some (.int .u8)) {k : Int} (hr : ¬ N k) {z : Value} (hz : (zeroValue et).run P w = .ok z w) :
    (Instr.lookup mty (.map (some b)) (.int .u8 k) false).run P w = .ok z w := by
  obtain ⟨es, cl, hb, hs, hks, hN, hR⟩ := h
  rcases findNow_spec (key8 k) es.toList 0 hks with ⟨h1, h2⟩ | ⟨j, e, h1, h2, h3⟩
  · simp [Instr.lookup, run_underlying hm, Go.MapKept.run_getObj_map hb, Go.MapKept.run_checkKey hk (key8 k), Go.MapKept.run_findKey hk h1, Result.andThen, hz]
  · obtain ⟨k', e', n'⟩ := hN e (List.mem_of_getElem? h2)
    rw [h3] at e'
    injection e' with _ q
    exact (hr (q ▸ n')).elim
end
theorem below_map {B : Nat} {w0 w : World} (h : Below B w0 w) {b : Nat} (hb : B ≤ b) (o : Obj) : Below B w0 { w with heap := w.heap.setIfInBounds b o } :=
  ⟨h.os, h.tape, h.output, by simpa using h.size, fun r hr => by
    rw [← h.block r hr]
    show (w.heap.setIfInBounds b o)[r]? = _
    rw [Array.getElem?_setIfInBounds_ne (by omega)]⟩
/-- what a list of pairs has at a key -/
def look (k : Int) : List (Int × Value) → Option Value
  | [] => none
  | (k', v) :: r => if k = k' then some v else look k r
/-- block b is a map that has what the list has -/
def MapL (w : World) (b : Nat) (L : List (Int × Value)) : Prop := MapR w b (fun k => look k L ≠ none) (fun k v => look k L = some v)
theorem MapL.empty (w : World) : MapL (w.alloc (.map #[] 0)) w.heap.size [] := (MapR.empty w).weaken (fun _ h => h.elim) (fun _ _ h => by cases h)
theorem MapL.keep {w w' : World} {b : Nat} {L : List (Int × Value)} (h : MapL w b L) (hb : w'.heap[b]? = w.heap[b]?) : MapL w' b L := MapR.keep h hb
theorem MapL.lt {w : World} {b : Nat} {L : List (Int × Value)} (h : MapL w b L) : b < w.heap.size := MapR.lt h
theorem MapL.insert {P : Program} {w : World} {mty kt et : TypeId} {b : Nat} {L : List (Int × Value)} (h : MapL w b L) (hm : P.underlying mty = some (.map kt et)) (hk : P.underlying kt = some (.int .u8)) (k : Int) (v : Value) :
    ∃ w', (Instr.mapUpdate mty (.map (some b)) (.int .u8 k) v).run P w = .ok () w' ∧ MapL w' b ((k, v) :: L) ∧
      (∀ b', b' ≠ b → w'.heap[b']? = w.heap[b']?) ∧ ∃ o, w' = { w with heap := w.heap.setIfInBounds b o } := by
  obtain ⟨w', h1, h2, h3⟩ := MapR.insert h hm hk k v
  refine ⟨w', h1, h2.weaken ?_ ?_, h3⟩
  · rintro k' (h | rfl)
    · simp only [look]; split
      · simp
      · exact h
    · simp [look]
  · intro k' v' h
    simp only [look] at h
    split at h
    · rename_i e; injection h with h; exact .inl ⟨e, h.symm⟩
    · rename_i e; exact .inr ⟨e, h⟩
theorem MapL.found {P : Program} {w : World} {mty kt et : TypeId} {b : Nat} {L : List (Int × Value)} (h : MapL w b L) (hm : P.underlying mty = some (.map kt et)) (hk : P.underlying kt = some (.int .u8)) {k : Int} {v : Value} (hr : look k L = some v) :
    (Instr.lookup mty (.map (some b)) (.int .u8 k) false).run P w = .ok v w := MapR.found h hm hk hr
theorem MapL.lacks {P : Program} {w : World} {mty kt et : TypeId} {b : Nat} {L : List (Int × Value)} (h : MapL w b L) (hm : P.underlying mty = some (.map kt et)) (hk : P.underlying kt = some (.int .u8)) {k : Int} (hr : look k L = none)
    {z : Value} (hz : (zeroValue et).run P w = .ok z w) : (Instr.lookup mty (.map (some b)) (.int .u8 k) false).run P w = .ok z w := MapR.lacks h hm hk (by rw [hr]; simp) hz
/-- an insert at the operation -/
theorem wpList_insert {P : Program} (w : World) {ops : Array Oper} {rest : List Oper} {o : Oper} {a : Act} {Q : Exit → Act → World → Prop}
    (hg : o.guard = none) (m x v : Operand) (t : TypeId) (hop : o.op = Op.insert t m x v) (kt et : TypeId) (ht : P.underlying t = some (.map kt et)) (hk : P.underlying kt = some (.int .u8))
    (b : Nat) (L : List (Int × Value)) (hm : a.eval m = .map (some b)) (hmap : MapL w b L) (k : Int) (val : Value) (hx : a.eval x = .int .u8 k) (hv : a.eval v = val)
    (B : Nat) (w0 : World) (hB : B ≤ b) (hbel : Below B w0 w)
    (hK : ∀ w', MapL w' b ((k, val) :: L) → Below B w0 w' → wpList P ops Q rest (a.put o.dst undef) w') :
    wpList P ops Q (o :: rest) a w := by
  refine wpList_plain hg fun K' hK' => ?_
  obtain ⟨w', hrun, r1, r2, ob, rfl⟩ := hmap.insert ht hk k val
  unfold Oper.wp
  simp [execOp, hop, hm, hx, hv, hrun, Result.andThen]
  exact hK' _ _ (hK _ r1 (below_map hbel hB ob))
end Go.Proofs.YtckooioikcenmaaDoor

/- The region of program.fits that makes the map of what a letter lets be. Conditions: none. -/
import Derived.Test.YtckooioikcenmaaDoorPgW2
import Derived.Deep.CutRange
namespace Go.Proofs.YtckooioikcenmaaDoor
open Go.RowKit
def f42 : Value := .func (.func 42) #[] #[]
def fitsLeft (pb : Nat) (regs len pol : Int) (cv : Value) : List Lft := [.own, .val 13 f42, .val 14 (.pointer (some ⟨pb, 1, none⟩)), .val 15 (.int .i64 regs), .box 16 regs, .ins 114 regs, .val 17 f42, .val 18 (.pointer (some ⟨pb, 2, none⟩)), .val 19 cv, .val 20 (.int .i64 len), .box 21 len, .ins 106 len, .val 22 f42, .val 23 (.int .i64 pol), .box 24 pol, .ins 112 pol, .insv 110 (.func (.func 44) #[] #[]), .val 25 f42, .box 26 1, .ins 45 1, .same 27, .same 8]
def fitsSlots : List (List Nat) := [[12], [13], [14], [15], [16], [12], [17], [18], [19], [20], [21], [12], [22], [23], [24], [12], [12], [25], [26], [12], [12, 27], [12, 8]]
theorem fitsLeft_slots (pb : Nat) (regs len pol : Int) (cv : Value) : (fitsLeft pb regs len pol cv).map Lft.slots = fitsSlots := rfl
theorem fitsLeft_at {pb : Nat} {regs len pol : Int} {cv : Value} {j : Nat} {l : Lft} (h : (fitsLeft pb regs len pol cv)[j]? = some l) : fitsSlots[j]? = some l.slots := by
  rw [← fitsLeft_slots pb regs len pol cv, List.getElem?_map, h]; rfl
structure FI (base : Array Value) (w0 : World) (T : List Lft) (L : Nat → Bool) (a : Act) (w : World) : Prop where
  size : a.tmps.size = base.size
  defers : a.defers = []
  same : ∀ d, (d < 12 ∧ d ≠ 8) ∨ 28 ≤ d → a.tmps[d]? = base[d]?
  bel : Below w0.heap.size w0 w
  fact : ∀ (i : Nat) (l : Lft), T[i]? = some l → L i = true → l.holds w0.heap.size a w
theorem FI.next {base : Array Value} {w0 w w' : World} {T : List Lft} {L : Nat → Bool} {a : Act} {i d : Nat} {v : Value} {l : Lft} (h : FI base w0 T L a w) (hd : (12 ≤ d ∧ d < 28) ∨ d = 8)
    (hb : Below w0.heap.size w0 w') (hw : ∀ (b : Nat) (o : Obj), w.heap[b]? = some o → w'.heap[b]? = some o) (hl : T[i]? = some l)
    (hdis : ∀ (j : Nat) (l : Lft), T[j]? = some l → d ∈ l.slots → j = i ∨ L j = false) (hL : L i = false) (hnew : l.holds w0.heap.size (a.put (some d) v) w') :
    FI base w0 T (fun j => j == i || L j) (a.put (some d) v) w' where
  size := by simp [Act.put, h.size]
  defers := h.defers
  same := fun x hx => by
    rw [← h.same x hx]
    simp only [Act.put]
    rw [Array.getElem?_setIfInBounds_ne (by omega)]
  bel := hb
  fact := fun j l' hj hj2 => by
    by_cases hji : j = i
    · subst hji
      rw [hl] at hj; cases hj
      exact hnew
    · have hLj : L j = true := by simpa [hji] using hj2
      refine Lft.grow (h.fact j l' hj hLj) (fun x hx v' hv => hv.put ?_) hw
      rintro rfl
      rcases hdis j l' hj hx with h1 | h1
      · exact hji h1
      · rw [hLj] at h1; cases h1
theorem FI.insert {base : Array Value} {w0 w w' : World} {T : List Lft} {L : Nat → Bool} {a : Act} {i m : Nat} {k : Int} {v : Value} {l : Lft} (h : FI base w0 T L a w)
    (hb : Below w0.heap.size w0 w') (hm : At a 12 (.map (some m))) (hl : T[i]? = some l) (hk : ∀ (j : Nat) (l : Lft), T[j]? = some l → l.key = some k → j = i)
    (hmap : ∀ N R, MapR w m N R → MapR w' m (fun k' => N k' ∨ k' = k) (fun k' v' => (k' = k ∧ v' = v) ∨ (k' ≠ k ∧ R k' v'))) (hw : ∀ b, b ≠ m → w'.heap[b]? = w.heap[b]?)
    (hmm : ∃ es cl, w.heap[m]? = some (.map es cl)) (hnew : l.holds w0.heap.size a w') :
    FI base w0 T (fun j => j == i || L j) a w' where
  size := h.size
  defers := h.defers
  same := h.same
  bel := hb
  fact := fun j l' hj hj2 => by
    by_cases hji : j = i
    · subst hji
      rw [hl] at hj; cases hj
      exact hnew
    · have hLj : L j = true := by simpa [hji] using hj2
      exact Lft.insert (h.fact j l' hj hLj) hm (fun k' hk' e => hji (hk j l' hj (by rw [hk', e]))) hmap hw hmm
theorem under88 : Tryd.prog.underlying 88 = some (.map 5 86) := by kernel_rfl
theorem under5 : Tryd.prog.underlying 5 = some (.int .u8) := by kernel_rfl
theorem FI.lay {base : Array Value} {w0 w : World} {T : List Lft} {L : Nat → Bool} {a : Act} {i : Nat} {k : Int} {v : Value} {l : Lft} (h : FI base w0 T L a w)
    (h0 : Lft.own.holds w0.heap.size a w) (hl : T[i]? = some l) (hk : ∀ (j : Nat) (l : Lft), T[j]? = some l → l.key = some k → j = i)
    (hnew : ∀ m w', At a 12 (.map (some m)) → MapR w' m (fun _ => True) (fun k' v' => k' = k ∧ v' = v) → (∀ (b : Nat) (x : Int), Boxed w b x → Boxed w' b x) → l.holds w0.heap.size a w') :
    ∃ m w', At a 12 (.map (some m)) ∧ (Instr.mapUpdate 88 (.map (some m)) (.int .u8 k) v).run Tryd.prog w = .ok () w' ∧ FI base w0 T (fun j => j == i || L j) a w' := by
  obtain ⟨m, hm, hB, hM⟩ := h0
  obtain ⟨w', hrun, hM', hoth, ob, hw'⟩ := hM.insert under88 under5 k v
  have hmap : ∀ N R, MapR w m N R → MapR w' m (fun k' => N k' ∨ k' = k) (fun k' v' => (k' = k ∧ v' = v) ∨ (k' ≠ k ∧ R k' v')) := fun N R hNR => by
    obtain ⟨w'', hrun', hM'', _⟩ := hNR.insert under88 under5 k v
    rw [hrun] at hrun'
    cases hrun'
    exact hM''
  have hmm : ∃ es cl, w.heap[m]? = some (.map es cl) := by
    obtain ⟨es, cl, h1, _⟩ := hM
    exact ⟨es, cl, h1⟩
  refine ⟨m, w', hm, hrun, h.insert (by rw [hw']; exact below_map h.bel hB ob) hm hl hk hmap hoth hmm (hnew m w' hm (hM'.weaken (fun _ _ => trivial) (fun _ _ e => .inl e)) fun b x hb => ?_)⟩
  unfold Boxed at *
  rw [hoth, hb]
  rintro rfl
  obtain ⟨es, cl, h1⟩ := hmm
  rw [h1] at hb; cases hb
def fitsKeys : List (Option Int) := [none, none, none, none, none, some 114, none, none, none, none, none, some 106, none, none, none, some 112, some 110, none, none, some 45, none, none]
theorem keys_alone (i : Nat) (k : Int) (hd : ∀ j < 22, fitsKeys.getD j none = some k → j = i) {pb : Nat} {regs len pol : Int} {cv : Value} :
    ∀ (j : Nat) (l : Lft), (fitsLeft pb regs len pol cv)[j]? = some l → l.key = some k → j = i := fun j l hj hx => by
  have h1 : fitsKeys[j]? = some l.key := by
    rw [show fitsKeys = (fitsLeft pb regs len pol cv).map Lft.key from rfl, List.getElem?_map, hj]; rfl
  have h2 : j < 22 := by
    have := (List.getElem?_eq_some_iff.1 hj).1
    simpa [fitsLeft] using this
  exact hd j h2 (by rw [List.getD_eq_getElem?_getD, h1]; exact hx)
theorem slots_alone (i d : Nat) (hd : ∀ j < 22, d ∈ fitsSlots.getD j [] → j = i) {pb : Nat} {regs len pol : Int} {cv : Value} {L : Nat → Bool} :
    ∀ (j : Nat) (l : Lft), (fitsLeft pb regs len pol cv)[j]? = some l → d ∈ l.slots → j = i ∨ L j = false := fun j l hj hx => by
  have h1 := fitsLeft_at hj
  have h2 : j < 22 := by
    have := (List.getElem?_eq_some_iff.1 hj).1
    simpa [fitsLeft] using this
  exact .inl (hd j h2 (by rw [List.getD_eq_getElem?_getD, h1]; exact hx))
theorem slots_first {pb : Nat} {regs len pol : Int} {cv : Value} {L : Nat → Bool} (hcl : ∀ j, 0 < j → j < 22 → 12 ∈ fitsSlots.getD j [] → L j = true → L 0 = true) (hL : L 0 = false) :
    ∀ (j : Nat) (l : Lft), (fitsLeft pb regs len pol cv)[j]? = some l → 12 ∈ l.slots → j = 0 ∨ L j = false := fun j l hj hx => by
  have h1 := fitsLeft_at hj
  have h2 : j < 22 := by
    have := (List.getElem?_eq_some_iff.1 hj).1
    simpa [fitsLeft] using this
  have h3 : 12 ∈ fitsSlots.getD j [] := by rw [List.getD_eq_getElem?_getD, h1]; exact hx
  by_cases h0 : j = 0
  · exact .inl h0
  · right
    cases hLj : L j with
    | false => rfl
    | true =>
      have := hcl j (by omega) h2 h3 hLj
      rw [hL] at this; cases this
/-- a map in which each letter has its own test -/
def May (w : World) (m : Nat) (regs len pol : Int) : Prop :=
  ∃ b1 b2 b3 b4, Boxed w b1 regs ∧ Boxed w b2 len ∧ Boxed w b3 pol ∧ Boxed w b4 1 ∧
    MapR w m (fun _ => True) (fun k v => (k = 114 ∧ v = below43 b1) ∨ (k = 106 ∧ v = below43 b2) ∨ (k = 112 ∧ v = below43 b3) ∨ (k = 110 ∧ v = .func (.func 44) #[] #[]) ∨ (k = 45 ∧ v = below43 b4))
theorem may_of {B : Nat} {a : Act} {w : World} {regs len pol : Int} (h8 : (Lft.same 8).holds B a w) (h1 : (Lft.ins 114 regs).holds B a w) (h2 : (Lft.ins 106 len).holds B a w) (h3 : (Lft.ins 112 pol).holds B a w)
    (h4 : (Lft.insv 110 (.func (.func 44) #[] #[])).holds B a w) (h5 : (Lft.ins 45 1).holds B a w) : ∃ m, At a 8 (.map (some m)) ∧ May w m regs len pol := by
  obtain ⟨m, hm, h8⟩ := h8
  have hun : ∀ {m'}, At a 12 (.map (some m')) → m' = m := fun h' => by
    unfold At at h' hm
    rw [hm] at h'; injection h' with h'; injection h' with h'; injection h' with h'; exact h'.symm
  obtain ⟨m1, b1, e1, x1, y1⟩ := h1
  obtain ⟨m2, b2, e2, x2, y2⟩ := h2
  obtain ⟨m3, b3, e3, x3, y3⟩ := h3
  obtain ⟨m4, e4, y4⟩ := h4
  obtain ⟨m5, b5, e5, x5, y5⟩ := h5
  obtain rfl := hun e1
  obtain rfl := hun e2
  obtain rfl := hun e3
  obtain rfl := hun e4
  obtain rfl := hun e5
  exact ⟨_, h8, b1, b2, b3, b5, x1, x2, x3, x5, y1.both (y2.both (y3.both (y4.both y5)))⟩
end Go.Proofs.YtckooioikcenmaaDoor

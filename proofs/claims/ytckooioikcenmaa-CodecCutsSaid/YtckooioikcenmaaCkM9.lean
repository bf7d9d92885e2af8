/- A region that draws its order, by a condition on what has been carried out so far. Conditions: none. -/
import Derived.RegionTactic
import Derived.Orders
import Derived.Test.YtckooioikcenmaaCkA0
import Derived.Deep.MidRow
import Derived.Deep.AppendLies
namespace Go.Proofs.Ytckooioikcenmaa
open Go
/-- f at each operation, by its number -/
def Steps (f : Nat → Oper → Prop) : Nat → List Oper → Prop
  | _, [] => True
  | i, o :: r => f i o ∧ Steps f (i + 1) r
theorem Steps.at {f : Nat → Oper → Prop} : ∀ (l : List Oper) (i j : Nat) (o : Oper), Steps f i l → l[j]? = some o → f (i + j) o
  | [], _, _, _, _, h => by simp at h
  | o' :: r, i, 0, o, hs, h => by simp at h; subst h; exact hs.1
  | o' :: r, i, j + 1, o, hs, h => by
    have := Steps.at r (i + 1) j o hs.2 (by simpa using h)
    rwa [show i + 1 + j = i + (j + 1) by omega] at this
/-- what has been carried out is closed under 'comes after' -/
def Closed (ops : Array Oper) (L : Nat → Bool) : Prop :=
  ∀ (i : Nat) (o : Oper) (e : Edge), ops[i]? = some o → L i = true → e ∈ o.after.toList → Region.binds .any e = true → L e.on = true
/-- one operation keeps the condition -/
def StepOk (P : Program) (ops : Array Oper) (Q : Exit → Act → World → Prop) (I : (Nat → Bool) → Act → World → Prop) (i : Nat) (o : Oper) : Prop :=
  ∀ (L : Nat → Bool) (a : Act) (w : World), I L a w → Closed ops L → (∀ e ∈ o.after.toList, Region.binds .any e = true → L e.on = true) → L i = false →
    ∀ K' : Act → World → Prop, (∀ a w, I (fun j => j == i || L j) a w → K' a w) → if Region.wanted o (yielded ops a.tmps) = true then Oper.wp P o a w K' Q else K' (a.put o.dst undef) w
/-- the operations stand in an order that fits -/
def sorted (ops : Array Oper) : Bool := (List.range ops.size).all fun i => ((ops[i]?).map (·.after.all fun e => !Region.binds .any e || decide (e.on < i))).getD true
def listOf (L : Array Bool) (i : Nat) : Bool := L.getD i false
theorem wpAny_inv {P : Program} {ops : Array Oper} {Q : Exit → Act → World → Prop} {I : (Nat → Bool) → Act → World → Prop} (hsort : sorted ops = true)
    (hI : ∀ (L L' : Nat → Bool) a w, (∀ i, i < ops.size → L i = L' i) → I L a w → I L' a w)
    (hstep : Steps (StepOk P ops Q I) 0 ops.toList)
    (hdone : ∀ L a w, I L a w → (∀ i, i < ops.size → L i = true) → Q .normal a w) :
    ∀ (n : Nat) (L : Array Bool) (a : Act) (w : World), L.size = ops.size → (L.toList.count false ≤ n) → Closed ops (listOf L) → I (listOf L) a w → wpAny P .any ops Q n L a w := by
  have hrdy : ∀ (L : Array Bool), L.size = ops.size → Region.ready .any ops L = [] → ∀ i, i < ops.size → listOf L i = true := by
    intro L hL hr i
    induction i using Nat.strongRecOn with
    | _ i ih =>
      intro hi
      by_cases hl : listOf L i = true
      · exact hl
      · exfalso
        have hmem : i ∈ Region.ready .any ops L := by
          unfold Region.ready
          rw [List.mem_filter]
          refine ⟨List.mem_range.2 hi, ?_⟩
          have h1 : L.getD i true = false := by
            have : i < L.size := by omega
            simp only [listOf, Array.getD, this, dif_pos] at hl ⊢
            simpa using hl
          have ho : ops[i]? = some ops[i] := Array.getElem?_eq_getElem hi
          rw [h1, ho]
          simp only [Bool.not_false, Bool.true_and, Option.map_some, Option.getD_some]
          rw [Array.all_eq_true]
          intro j hj
          have hs := hsort
          unfold sorted at hs
          rw [List.all_eq_true] at hs
          have := hs i (List.mem_range.2 hi)
          rw [ho] at this
          simp only [Option.map_some, Option.getD_some, Array.all_eq_true] at this
          have hlt := this j hj
          simp only [Bool.or_eq_true, Bool.not_eq_true', decide_eq_true_eq] at hlt
          rcases hlt with hlt | hlt
          · simp [hlt]
          · have := ih _ hlt (by omega)
            simp only [listOf] at this
            simp [this]
        rw [hr] at hmem
        cases hmem
  intro n
  induction n with
  | zero =>
    intro L a w hL hc hcl hi
    have hall : ∀ i, i < ops.size → listOf L i = true := by
      intro i hi'
      have hlt : i < L.size := by omega
      have hz : L.toList.count false = 0 := by omega
      rw [List.count_eq_zero] at hz
      cases hb : L[i] with
      | true => simp [listOf, Array.getD, hlt, hb]
      | false => exact (hz (by rw [← hb]; exact Array.mem_toList_iff.2 (Array.getElem_mem hlt))).elim
    refine ⟨?_, hdone _ a w hi hall⟩
    unfold Region.ready
    rw [List.filter_eq_nil_iff]
    intro i hi'
    have hlt : i < L.size := by rw [hL]; exact List.mem_range.1 hi'
    have := hall i (List.mem_range.1 hi')
    simp only [listOf, Array.getD, hlt, dif_pos] at this
    have h9 : L[i] = true := this
    simp [Array.getD, hlt, h9]
  | succ n ih =>
    intro L a w hL hc hcl hi
    refine ⟨fun hr => hdone _ a w hi (hrdy L hL hr), ?_⟩
    intro i hi'
    unfold Region.ready at hi'
    rw [List.mem_filter] at hi'
    obtain ⟨hr, hp⟩ := hi'
    have hlt := List.mem_range.1 hr
    have hltL : i < L.size := by omega
    have ho : ops[i]? = some ops[i] := Array.getElem?_eq_getElem hlt
    rw [ho] at hp
    simp only [Option.map_some, Option.getD_some, Bool.and_eq_true, Bool.not_eq_true', Array.all_eq_true] at hp
    obtain ⟨hp1, hp2⟩ := hp
    have hLi : L[i] = false := by simpa [Array.getD, hltL] using hp1
    have hpre : ∀ e ∈ (ops[i]).after.toList, Region.binds .any e = true → listOf L e.on = true := by
      intro e he hb
      obtain ⟨j, hj, rfl⟩ := Array.mem_iff_getElem.1 (Array.mem_toList_iff.1 he)
      have := hp2 j hj
      rw [hb] at this
      simpa [listOf] using this
    have hset : ∀ j, j < ops.size → (fun j => j == i || listOf L j) j = listOf (L.setIfInBounds i true) j := by
      intro j hj
      by_cases hji : j = i
      · subst hji; simp [listOf, Array.getD, hltL]
      · have : j < L.size := by omega
        simp [listOf, Array.getD, this, hji, Ne.symm hji]
    have hst := Steps.at ops.toList 0 i ops[i] hstep (by simp)
    rw [Nat.zero_add] at hst
    refine wpOp_step ho fun K' hK' => hst (listOf L) a w hi hcl hpre (by simp [listOf, Array.getD, hltL, hLi]) K' fun a' w' h' => hK' a' w' ?_
    refine ih _ a' w' (by simp [hL]) ?_ ?_ (hI _ _ a' w' hset h')
    · have e1 : L.toList = L.toList.take i ++ L[i] :: L.toList.drop (i + 1) := by
        have h8 : i < L.toList.length := by simpa using hltL
        have := List.drop_eq_getElem_cons h8
        rw [Array.getElem_toList] at this
        rw [← this, List.take_append_drop]
      have e2 : (L.setIfInBounds i true).toList = L.toList.take i ++ true :: L.toList.drop (i + 1) := by
        rw [Array.toList_setIfInBounds, List.set_eq_take_append_cons_drop]; simp [hltL]
      rw [e2]
      rw [e1, hLi] at hc
      simp only [List.count_append, List.count_cons] at hc ⊢
      simp at hc ⊢
      omega
    · intro j o e hjo hj he hb
      have hjl : j < ops.size := (Array.getElem?_eq_some_iff.1 hjo).1
      rw [← hset j hjl] at hj
      have hsort' := hsort
      unfold sorted at hsort'
      rw [List.all_eq_true] at hsort'
      have hon := hsort' j (List.mem_range.2 hjl)
      rw [hjo] at hon
      simp only [Option.map_some, Option.getD_some, Array.all_eq_true] at hon
      obtain ⟨q, hq, rfl⟩ := Array.mem_iff_getElem.1 (Array.mem_toList_iff.1 he)
      have hlt2 := hon q hq
      rw [hb] at hlt2
      simp only [Bool.not_true, Bool.false_or, decide_eq_true_eq] at hlt2
      rw [← hset _ (by omega)]
      simp only [Bool.or_eq_true, beq_iff_eq] at hj ⊢
      rcases hj with rfl | hj
      · right
        rw [ho] at hjo
        cases hjo
        exact hpre _ he hb
      · right
        exact hcl j o _ hjo hj he hb
theorem wp_region_inv {P : Program} {id : Nat} {ops : Array Oper} {Q : Exit → Act → World → Prop} {a : Act} {w : World} (I : (Nat → Bool) → Act → World → Prop) (hm : P.follows .mixedOrders = true) (hsort : sorted ops = true)
    (hI : ∀ (L L' : Nat → Bool) a w, (∀ i, i < ops.size → L i = L' i) → I L a w → I L' a w)
    (h0 : I (fun _ => false) a w.drew)
    (hstep : Steps (StepOk P ops Q I) 0 ops.toList)
    (hdone : ∀ L a w, I L a w → (∀ i, i < ops.size → L i = true) → Q .normal a w) : (Code.region id ops true).wp P Q a w := by
  refine wp_region_any hm ?_
  have hf : ∀ i, listOf (Array.replicate ops.size false) i = false := by
    intro i
    simp only [listOf, Array.getD]
    split
    · simp
    · rfl
  refine wpAny_inv hsort hI hstep hdone ops.size _ a _ (by simp) ?_ ?_ ?_
  · refine Nat.le_trans List.count_le_length (by simp)
  · intro i o e _ h
    rw [hf] at h; cases h
  · exact hI _ _ _ _ (fun i _ => (hf i).symm) h0
def At (a : Act) (d : Nat) (v : Value) : Prop := a.tmps[d]? = some v
theorem At.eval {a : Act} {d : Nat} {v : Value} (h : At a d v) : a.eval (.tmp d) = v := by
  unfold At at h
  simp [Act.eval, h]
theorem At.put {a : Act} {d d' : Nat} {v v' : Value} (h : At a d v) (hne : d ≠ d') : At (a.put (some d') v') d v := by
  unfold At at *
  simp [Act.put, Array.getElem?_setIfInBounds_ne (Ne.symm hne), h]
theorem At.mk {a : Act} {d : Nat} (v : Value) (h : d < a.tmps.size) : At (a.put (some d) v) d v := by
  simp [At, Act.put, h]
/-- a frame with the slots ds out of another -/
def setAll (t : Array Value) : List Nat → Array Value → Array Value
  | [], b => b
  | d :: ds, b => setAll t ds (b.setIfInBounds d (t.getD d undef))
theorem setAll_size (t : Array Value) : ∀ (ds : List Nat) (b : Array Value), (setAll t ds b).size = b.size
  | [], _ => rfl
  | d :: ds, b => by rw [setAll, setAll_size t ds]; simp
theorem setAll_at (t : Array Value) : ∀ (ds : List Nat) (b : Array Value), t.size = b.size → (∀ i, i ∉ ds → t[i]? = b[i]?) → setAll t ds b = t
  | [], b, hs, h => by
    apply Array.ext_getElem?
    intro i
    exact (h i (by simp)).symm
  | d :: ds, b, hs, h => by
    refine setAll_at t ds _ (by simpa using hs) fun i hi => ?_
    by_cases hd : d = i
    · subst hd
      rw [Array.getElem?_setIfInBounds]
      simp only [if_true]
      split
      · rename_i hlt
        have : d < t.size := by omega
        simp [Array.getD, this]
      · rename_i hlt
        rw [Array.getElem?_eq_none (by omega)]
    · rw [Array.getElem?_setIfInBounds_ne hd]
      exact h i (by simp [Ne.symm hd, hi])
end Go.Proofs.Ytckooioikcenmaa
namespace Go.Proofs.Ytckooioikcenmaa
open Go.RowKit
/-- the operations: where they stand, the slots that they read and write, the function that reads, its types -/
def moreOps (pos : String) (tA tX : Nat) (sl : Nat → Nat) (f : FuncId) (R T : TypeId) : Array Oper := #[
  { dst := some (sl 0), op := .move (.tmp tA), type := 36, pos := pos, after := #[], guard := none },
  { dst := some (sl 1), op := .call { callee := .value (.func 14), args := #[.tmp (sl 0)], argTypes := #[36] }, type := 36, pos := pos, after := #[{ on := 0, ground := .data }], guard := none },
  { dst := some (sl 2), op := .fieldAddr 51 (.tmp tX) 2, type := 0, pos := pos, after := #[], guard := none },
  { dst := some (sl 3), op := .load 5 (.tmp (sl 2)), type := 5, pos := pos, after := #[{ on := 2, ground := .data }], guard := none },
  { dst := some (sl 4), op := .buildSlice 36 1 #[(0, .tmp (sl 3))], type := 36, pos := pos, after := #[{ on := 3, ground := .data }], guard := none },
  { dst := some (sl 5), op := .call { callee := .builtin .append, args := #[.tmp (sl 1), .tmp (sl 4)], argTypes := #[36, 36] }, type := 36, pos := pos, after := #[{ on := 1, ground := .data }, { on := 4, ground := .data }, { on := 1, ground := .chain }], guard := none },
  { dst := some (sl 6), op := .call { callee := .value (.func f), args := #[.tmp (sl 5)], argTypes := #[36] }, type := R, pos := pos, after := #[{ on := 5, ground := .data }, { on := 5, ground := .chain }], guard := none },
  { dst := some (sl 7), op := .move (.tmp (sl 6)), type := R, pos := pos, after := #[{ on := 6, ground := .data }], guard := none },
  { dst := some (sl 8), op := .extract (.tmp (sl 7)) 0, type := T, pos := pos, after := #[{ on := 7, ground := .data }], guard := none },
  { dst := some (sl 9), op := .extract (.tmp (sl 7)) 1, type := 39, pos := pos, after := #[{ on := 7, ground := .data }, { on := 11, ground := .gcOnly .lateStores }], guard := none },
  { dst := some (sl 10), op := .alloc T, type := 0, pos := pos, after := #[], guard := none },
  { dst := none, op := .store T (.tmp (sl 10)) (.tmp (sl 8)), type := 0, pos := pos, after := #[{ on := 10, ground := .data }, { on := 8, ground := .data }, { on := 6, ground := .chain }, { on := 0, ground := .phase }, { on := 1, ground := .phase }, { on := 2, ground := .phase }, { on := 3, ground := .phase }, { on := 4, ground := .phase }, { on := 5, ground := .phase }, { on := 6, ground := .phase }, { on := 7, ground := .phase }, { on := 8, ground := .phase }, { on := 9, ground := .textOnly .lateStores }, { on := 10, ground := .phase }], guard := none },
  { dst := some (sl 12), op := .assign (.tmp (sl 9)), type := 39, pos := pos, after := #[{ on := 9, ground := .data }, { on := 11, ground := .chain }, { on := 0, ground := .phase }, { on := 1, ground := .phase }, { on := 2, ground := .phase }, { on := 3, ground := .phase }, { on := 4, ground := .phase }, { on := 5, ground := .phase }, { on := 6, ground := .phase }, { on := 7, ground := .phase }, { on := 8, ground := .phase }, { on := 9, ground := .phase }, { on := 10, ground := .phase }, { on := 11, ground := .phase }], guard := none }]
/-- what is given -/
structure MP where
  w1 : World
  base : Array Value
  sl : Nat → Nat
  tA : Nat
  tX : Nat
  av : Value
  ax : List UInt8
  bx : Nat
  mo : Nat
  Z : Array Value
  T : TypeId
/-- what an operation has left, while it is wanted -/
def MF (p : MP) : Nat → Value → (Nat → Bool) → World → Prop
  | 0, v, _, _ => v = p.av
  | 1, v, L, W => L 5 = false → Bytes p.w1.heap.size W v p.ax
  | 2, v, _, _ => v = .pointer (some ⟨p.bx, 12, none⟩)
  | 3, v, _, _ => v = .int .u8 (p.mo : Int)
  | 4, v, L, W => L 5 = false → ∃ gb, v = .slice (some ⟨gb, 0, none⟩) 1 1 ∧ W.heap[gb]? = some (.cells #[.int .u8 (p.mo : Int)] 5)
  | 5, v, L, W => L 6 = false → RdB W v (p.ax ++ [UInt8.ofNat p.mo])
  | 6, v, _, _ => v = .tuple #[.agg p.Z, .int .i64 10]
  | 7, v, _, _ => v = .tuple #[.agg p.Z, .int .i64 10]
  | 8, v, _, _ => v = .agg p.Z
  | 9, v, _, _ => v = .int .i64 10
  | 10, v, L, W => L 11 = false → ∃ gp cs, v = .pointer (some ⟨gp, 0, none⟩) ∧ p.w1.heap.size ≤ gp ∧ W.heap[gp]? = some (.cells cs p.T) ∧ cs.size = p.Z.size
  | 12, v, _, _ => v = .int .i64 10
  | _, _, _, _ => True
theorem MF.keep {p : MP} {L L' : Nat → Bool} {W W' : World} (hL : ∀ k, L k = true → L' k = true) (hb : Below W.heap.size W W') : ∀ (j : Nat) (v : Value), MF p j v L W → MF p j v L' W'
  | 0, v, h => h
  | 1, v, h => fun h5 => (h (by cases h9 : L 5 with
    | false => rfl
    | true => rw [hL 5 h9] at h5; cases h5)).below hb
  | 2, v, h => h
  | 3, v, h => h
  | 4, v, h => fun h5 => by
    obtain ⟨gb, h1, h2⟩ := h (by cases h9 : L 5 with
      | false => rfl
      | true => rw [hL 5 h9] at h5; cases h5)
    exact ⟨gb, h1, blk_below hb h2⟩
  | 5, v, h => fun h5 => (h (by cases h9 : L 6 with
    | false => rfl
    | true => rw [hL 6 h9] at h5; cases h5)).below hb
  | 6, v, h => h
  | 7, v, h => h
  | 8, v, h => h
  | 9, v, h => h
  | 10, v, h => fun h5 => by
    obtain ⟨gp, cs, h1, h2, h3, h4⟩ := h (by cases h9 : L 11 with
      | false => rfl
      | true => rw [hL 11 h9] at h5; cases h5)
    exact ⟨gp, cs, h1, h2, blk_below hb h3, h4⟩
  | 11, _, _ => trivial
  | 12, v, h => h
  | n + 13, _, _ => trivial
structure MI (p : MP) (L : Nat → Bool) (a : Act) (W : World) : Prop where
  size : a.tmps.size = p.base.size
  defers : a.defers = []
  same : ∀ d, (∀ i, i < 13 → i ≠ 11 → d ≠ p.sl i) → a.tmps[d]? = p.base[d]?
  bel : Below p.w1.heap.size p.w1 W
  fact : ∀ i, i < 13 → i ≠ 11 → L i = true → ∃ v, At a (p.sl i) v ∧ MF p i v L W
theorem MI.next {p : MP} {L : Nat → Bool} {a : Act} {W W' : World} (h : MI p L a W) (hinj : ∀ i j, i < 13 → j < 13 → p.sl i = p.sl j → i = j) (i : Nat) (hi : i < 13) (hne : i ≠ 11) (hsz : p.sl i < p.base.size) (hL : L i = false) (v : Value) (hb : Below p.w1.heap.size p.w1 W')
    (hk : ∀ j x, j < 13 → j ≠ 11 → j ≠ i → L j = true → MF p j x L W → MF p j x (fun k => k == i || L k) W') (hnew : MF p i v (fun k => k == i || L k) W') : MI p (fun k => k == i || L k) (a.put (some (p.sl i)) v) W' where
  size := by simp [Act.put, h.size]
  defers := h.defers
  same := fun d hd => by
    rw [← h.same d hd]
    simp only [Act.put]
    rw [Array.getElem?_setIfInBounds_ne (Ne.symm (hd i hi hne))]
  bel := hb
  fact := fun j hj hj11 hLj => by
    by_cases e : j = i
    · subst e
      exact ⟨v, At.mk _ (by rw [h.size]; exact hsz), hnew⟩
    · have hLj' : L j = true := by simpa [e] using hLj
      obtain ⟨x, h1, h2⟩ := h.fact j hj hj11 hLj'
      exact ⟨x, h1.put (fun e2 => e (hinj j i hj hi e2)), hk j x hj hj11 e hLj' h2⟩
/-- the same, where the world has only grown -/
theorem MI.grow {p : MP} {L : Nat → Bool} {a : Act} {W W' : World} (h : MI p L a W) (hinj : ∀ i j, i < 13 → j < 13 → p.sl i = p.sl j → i = j) (i : Nat) (hi : i < 13) (hne : i ≠ 11) (hsz : p.sl i < p.base.size) (hL : L i = false) (v : Value) (hb : Below W.heap.size W W') (hnew : MF p i v (fun k => k == i || L k) W') : MI p (fun k => k == i || L k) (a.put (some (p.sl i)) v) W' :=
  h.next hinj i hi hne hsz hL v (h.bel.trans (hb.mono h.bel.size)) (fun j x _ _ _ _ hx => MF.keep (fun k hk => by simp [hk]) hb j x hx) hnew
theorem below_setCells {B : Nat} {a : World} {g : Nat} (hg : B ≤ g) : ∀ (vs : List Value) (o : Nat) (w : World), Below B a w → Below B a (w.setCells g o vs)
  | [], _, _, h => h
  | v :: r, o, w, h => below_setCells hg r (o + 1) (w.setCell ⟨g, o, none⟩ v) (h.setCell hg v)
theorem MF.append {p : MP} {L : Nat → Bool} {W W' : World} {r : Option Nat} (hg : W.grownBy W' r) (hr : ∀ k cs, W.heap[k]? = some (.cells cs p.T) → some k ≠ r) : ∀ (j : Nat) (v : Value), j ≠ 5 → MF p j v L W → MF p j v (fun k => k == 5 || L k) W'
  | 0, v, _, h => h
  | 1, v, _, _ => fun h5 => by cases h5
  | 2, v, _, h => h
  | 3, v, _, h => h
  | 4, v, _, _ => fun h5 => by cases h5
  | 5, v, h, _ => absurd rfl h
  | 6, v, _, h => h
  | 7, v, _, h => h
  | 8, v, _, h => h
  | 9, v, _, h => h
  | 10, v, _, h => fun h11 => by
    obtain ⟨gp, cs, h1, h2, h3, h4⟩ := h (by simpa using h11)
    exact ⟨gp, cs, h1, h2, (hg.block gp (blk_lt h3) (hr gp cs h3)).trans h3, h4⟩
  | 11, _, _, _ => trivial
  | 12, v, _, h => h
  | n + 13, _, _, _ => trivial
theorem MF.store {p : MP} {L : Nat → Bool} {W W' : World} (h5 : L 5 = true) (h6 : L 6 = true) : ∀ (j : Nat) (v : Value), MF p j v L W → MF p j v (fun k => k == 11 || L k) W'
  | 0, v, h => h
  | 1, v, _ => fun h => by simp [h5] at h
  | 2, v, h => h
  | 3, v, h => h
  | 4, v, _ => fun h => by simp [h5] at h
  | 5, v, _ => fun h => by simp [h6] at h
  | 6, v, h => h
  | 7, v, h => h
  | 8, v, h => h
  | 9, v, h => h
  | 10, v, _ => fun h => by cases h
  | 11, _, _ => trivial
  | 12, v, h => h
  | n + 13, _, _ => trivial
theorem MI.same' {p : MP} {L L' : Nat → Bool} {a : Act} {W : World} (h : MI p L a W) (hL : ∀ i, i < 13 → L i = L' i) : MI p L' a W := ⟨h.size, h.defers, h.same, h.bel, fun i hi hne hl => by
  obtain ⟨v, h1, h2⟩ := h.fact i hi hne (by rw [hL i hi]; exact hl)
  refine ⟨v, h1, ?_⟩
  match i, h2 with
  | 0, h2 => exact h2
  | 1, h2 => exact fun h5 => h2 (by rw [hL 5 (by omega)]; exact h5)
  | 2, h2 => exact h2
  | 3, h2 => exact h2
  | 4, h2 => exact fun h5 => h2 (by rw [hL 5 (by omega)]; exact h5)
  | 5, h2 => exact fun h5 => h2 (by rw [hL 6 (by omega)]; exact h5)
  | 6, h2 => exact h2
  | 7, h2 => exact h2
  | 8, h2 => exact h2
  | 9, h2 => exact h2
  | 10, h2 => exact fun h5 => h2 (by rw [hL 11 (by omega)]; exact h5)
  | 11, _ => trivial
  | 12, h2 => exact h2
  | n + 13, _ => trivial⟩
set_option linter.unusedSimpArgs false in
set_option maxRecDepth 20000 in
set_option maxHeartbeats 2000000 in
theorem more_region (p : MP) (pos : String) (f : FuncId) (R : TypeId) (id : Nat) {Q : Exit → Act → World → Prop} (hsort : sorted (moreOps pos p.tA p.tX p.sl f R p.T) = true)
    (hinj : ∀ i j, i < 13 → j < 13 → p.sl i = p.sl j → i = j) (hss : ∀ i, i < 13 → p.sl i < p.base.size) (htA : ∀ i, i < 13 → i ≠ 11 → p.tA ≠ p.sl i) (htX : ∀ i, i < 13 → i ≠ 11 → p.tX ≠ p.sl i)
    (hA : p.base[p.tA]? = some p.av) (hX : p.base[p.tX]? = some (.pointer (some ⟨p.bx, 0, none⟩))) (hmo : p.mo < 256) (hr : RdB p.w1 p.av p.ax) (hal : p.ax.length ≤ 100000000000) (hc : p.w1.cell? ⟨p.bx, 12, none⟩ = some (.int .u8 (p.mo : Int)))
    (hf : ∀ v W, RdB W v (p.ax ++ [UInt8.ofNat p.mo]) → Calls Try.prog f #[v] W fun e W' => e = .returned (.tuple #[.agg p.Z, .int .i64 10]) ∧ Below W.heap.size W W')
    (hcall : ∀ v w, Sem.run Try.prog (callFunc f #[v]) w = .ok (.enter f #[v]) w) (hz : ∃ zc : Array Value, zc.size = p.Z.size ∧ ∀ w, Sem.run Try.prog (zeroValue p.T) w = .ok (.agg zc) w)
    (hT : p.T ≠ 5) (hinfo : (Try.prog.info? p.T).map (·.size) = some p.Z.size) (hZ1 : p.Z.all (·.oneCell') = true)
    (hQ : ∀ a W, a.tmps.size = p.base.size → a.defers = [] → (∀ d, (∀ i, i < 13 → i ≠ 11 → d ≠ p.sl i) → a.tmps[d]? = p.base[d]?) → At a (p.sl 12) (.int .i64 10) → Below p.w1.heap.size p.w1 W → Q .normal a W) :
    (Code.region id (moreOps pos p.tA p.tX p.sl f R p.T) true).wp Try.prog Q ⟨p.base, []⟩ p.w1 := by
  refine wp_region_inv (MI p) (by kernel_rfl) hsort ?_ ?_ ?_ ?_
  · intro L L' a w hLL h
    exact h.same' hLL
  · exact ⟨rfl, rfl, fun _ _ => rfl, below_drewN (Below.refl _ _) 1, fun _ _ _ h => by cases h⟩
  · refine ⟨?_, ?_, ?_, ?_, ?_, ?_, ?_, ?_, ?_, ?_, ?_, ?_, ?_, trivial⟩
    · intro L a w hI hcl hpre hL K' hK'
      rw [if_pos (by rfl)]
      unfold Oper.wp
      have ve := (show At a p.tA p.av from (hI.same _ (htA)).trans hA).eval
      generalize a.eval = E at *
      simp [execOp, ve, go_sem, Result.andThen, Oper.upon]
      exact hK' _ _ (hI.grow hinj 0 (by omega) (by omega) (hss 0 (by omega)) hL _ (Below.refl _ _) rfl)
    · intro L a w hI hcl hpre hL K' hK'
      rw [if_pos (by rfl)]
      unfold Oper.wp
      obtain ⟨v0, a0, rfl⟩ := hI.fact 0 (by omega) (by omega) (hpre ⟨0, .data⟩ (by simp) rfl)
      have ve := a0.eval
      have vf : ∀ f, a.eval (.func f) = .func (.func f) #[] #[] := fun _ => rfl
      generalize a.eval = E at *
      simp [execOp, ve, vf, go_sem, Result.andThen, Oper.upon]
      refine (copyB_any _ p.ax _ (hr.below hI.bel) hal).mono ?_
      rintro e w9 ⟨vc, rfl, hown, hb⟩
      exact hK' _ _ (hI.grow hinj 1 (by omega) (by omega) (hss 1 (by omega)) hL vc hb (fun _ => own_base hown hI.bel.size))
    · intro L a w hI hcl hpre hL K' hK'
      rw [if_pos (by rfl)]
      unfold Oper.wp
      have ve := (show At a p.tX (.pointer (some ⟨p.bx, 0, none⟩)) from (hI.same _ (htX)).trans hX).eval
      generalize a.eval = E at *
      simp [execOp, ve, go_sem, Result.andThen, Oper.upon]
      exact hK' _ _ (hI.grow hinj 2 (by omega) (by omega) (hss 2 (by omega)) hL _ (Below.refl _ _) rfl)
    · intro L a w hI hcl hpre hL K' hK'
      rw [if_pos (by rfl)]
      unfold Oper.wp
      obtain ⟨v0, a0, rfl⟩ := hI.fact 2 (by omega) (by omega) (hpre ⟨2, .data⟩ (by simp) rfl)
      have ve := a0.eval
      have hc' := cell_later hI.bel hc
      generalize a.eval = E at *
      simp [execOp, ve, hc', go_sem, Result.andThen, Oper.upon]
      exact hK' _ _ (hI.grow hinj 3 (by omega) (by omega) (hss 3 (by omega)) hL _ (Below.refl _ _) rfl)
    · intro L a w hI hcl hpre hL K' hK'
      rw [if_pos (by rfl)]
      unfold Oper.wp
      obtain ⟨v0, a0, rfl⟩ := hI.fact 3 (by omega) (by omega) (hpre ⟨3, .data⟩ (by simp) rfl)
      have ve := a0.eval
      have vc : ∀ v, a.eval (.const v) = v := fun _ => rfl
      generalize a.eval = E at *
      simp [execOp, ve, vc, go_sem, Result.andThen, Oper.upon]
      exact hK' _ _ (hI.grow hinj 4 (by omega) (by omega) (hss 4 (by omega)) hL _ ((Below.refl _ _).alloc (Nat.le_refl _) _) (fun _ => ⟨w.heap.size, rfl, alloc_at _ _⟩))
    · intro L a w hI hcl hpre hL K' hK'
      rw [if_pos (by rfl)]
      obtain ⟨v1, a1, h1⟩ := hI.fact 1 (by omega) (by omega) (hpre ⟨1, .data⟩ (by simp) rfl)
      obtain ⟨v4, a4, h4⟩ := hI.fact 4 (by omega) (by omega) (hpre ⟨4, .data⟩ (by simp) rfl)
      have hown : Bytes p.w1.heap.size w v1 p.ax := h1 hL
      obtain ⟨gb, rfl, hgb⟩ := h4 hL
      obtain ⟨i0, hi, hz0, hz1, hz2⟩ := info_parts infoB
      refine wp_append_own w (.tmp (p.sl 1)) (.tmp (p.sl 4)) 36 rfl p.w1.heap.size 5 i0 (.int .u8 0) 1 1 Try.underlying36 hi hz0 hz1 hz2 rfl (by decide) v1 p.ax.length _ a1.eval hown ⟨gb, 0, none⟩ 1 1 [.int .u8 (p.mo : Int)] a4.eval rfl ?_ ?_ ?_ ?_ hI.bel.size ?_
      · intro j u hj
        match j, hj with
        | 0, hj =>
          simp at hj; subst hj
          have := blk_cell hgb 0
          rw [addr_add]
          simpa using this
        | j + 1, hj => simp at hj
      · intro u hu; simp at hu; subst hu; rfl
      · simp only [maxLen]; omega
      · omega
      · intro v' w' k1 hg _
        have hown9 := hown
        refine hK' _ _ (hI.next hinj 5 (by omega) (by omega) (hss 5 (by omega)) hL v' ?_ (fun j x _ _ hj5 _ hx => MF.append hg ?_ j x hj5 hx) (fun _ => (bytes_own hmo k1).reads))
        · refine hI.bel.grown hg hI.bel.size fun k hk => ?_
          rcases hown9.2 with ⟨rfl, _⟩ | ⟨g, cap, cur, rfl, hbs, _⟩
          · cases hk
          · have : g = k := by simpa [Value.ownBlock] using hk
            omega
        · intro k cs hk e
          rcases hown9.2 with ⟨rfl, _⟩ | ⟨g, cap, cur, rfl, _, hh, _⟩
          · cases e
          · have : k = g := by simpa [Value.ownBlock] using e
            subst this
            rw [hk] at hh
            injection hh with hh
            injection hh with _ hh
            exact hT hh
    · intro L a w hI hcl hpre hL K' hK'
      rw [if_pos (by rfl)]
      unfold Oper.wp
      obtain ⟨v0, a0, h0⟩ := hI.fact 5 (by omega) (by omega) (hpre ⟨5, .data⟩ (by simp) rfl)
      have hrd := h0 hL
      have ve := a0.eval
      have vf : ∀ f, a.eval (.func f) = .func (.func f) #[] #[] := fun _ => rfl
      generalize a.eval = E at *
      simp [execOp, ve, vf, hcall, go_sem, Result.andThen, Oper.upon]
      refine (hf _ _ hrd).mono ?_
      rintro e w9 ⟨rfl, hb⟩
      exact hK' _ _ (hI.grow hinj 6 (by omega) (by omega) (hss 6 (by omega)) hL _ hb rfl)
    · intro L a w hI hcl hpre hL K' hK'
      rw [if_pos (by rfl)]
      unfold Oper.wp
      obtain ⟨v0, a0, rfl⟩ := hI.fact 6 (by omega) (by omega) (hpre ⟨6, .data⟩ (by simp) rfl)
      have ve := a0.eval
      generalize a.eval = E at *
      simp [execOp, ve, go_sem, Result.andThen, Oper.upon]
      exact hK' _ _ (hI.grow hinj 7 (by omega) (by omega) (hss 7 (by omega)) hL _ (Below.refl _ _) rfl)
    · intro L a w hI hcl hpre hL K' hK'
      rw [if_pos (by rfl)]
      unfold Oper.wp
      obtain ⟨v0, a0, rfl⟩ := hI.fact 7 (by omega) (by omega) (hpre ⟨7, .data⟩ (by simp) rfl)
      have ve := a0.eval
      generalize a.eval = E at *
      simp [execOp, ve, go_sem, Result.andThen, Oper.upon]
      exact hK' _ _ (hI.grow hinj 8 (by omega) (by omega) (hss 8 (by omega)) hL _ (Below.refl _ _) rfl)
    · intro L a w hI hcl hpre hL K' hK'
      rw [if_pos (by rfl)]
      unfold Oper.wp
      obtain ⟨v0, a0, rfl⟩ := hI.fact 7 (by omega) (by omega) (hpre ⟨7, .data⟩ (by simp) rfl)
      have ve := a0.eval
      generalize a.eval = E at *
      simp [execOp, ve, go_sem, Result.andThen, Oper.upon]
      exact hK' _ _ (hI.grow hinj 9 (by omega) (by omega) (hss 9 (by omega)) hL _ (Below.refl _ _) rfl)
    · intro L a w hI hcl hpre hL K' hK'
      rw [if_pos (by rfl)]
      unfold Oper.wp
      obtain ⟨zc, hzc, hzr⟩ := hz
      generalize a.eval = E at *
      simp [execOp, hzr, go_sem, Result.andThen, Oper.upon]
      exact hK' _ _ (hI.grow hinj 10 (by omega) (by omega) (hss 10 (by omega)) hL _ ((Below.refl _ _).alloc (Nat.le_refl _) _) (fun _ => ⟨w.heap.size, zc, rfl, hI.bel.size, alloc_at _ _, hzc⟩))
    · intro L a w hI hcl hpre hL K' hK'
      rw [if_pos (by rfl)]
      obtain ⟨v10, a10, h10⟩ := hI.fact 10 (by omega) (by omega) (hpre ⟨10, .data⟩ (by simp) rfl)
      obtain ⟨gp, cs, rfl, hgp, hblk, hcs⟩ := h10 hL
      obtain ⟨v8, a8, rfl⟩ := hI.fact 8 (by omega) (by omega) (hpre ⟨8, .data⟩ (by simp) rfl)
      have h5 : L 5 = true := hpre ⟨5, .phase⟩ (by simp) rfl
      have h6 : L 6 = true := hpre ⟨6, .phase⟩ (by simp) rfl
      refine wp_store_mid p.T (.tmp (p.sl 10)) (.tmp (p.sl 8)) rfl gp 0 p.Z a10.eval a8.eval (fun j hj => ⟨?_, blk_free hblk _⟩) hinfo hZ1 ?_
      · rw [blk_cell hblk, Nat.zero_add, Array.getElem?_eq_getElem (by omega)]; rfl
      · exact hK' _ _ ⟨hI.size, hI.defers, hI.same, below_setCells hgp _ _ _ hI.bel, fun j hj hj11 hLj => by
          obtain ⟨x, k1, k2⟩ := hI.fact j hj hj11 (by simpa [hj11] using hLj)
          exact ⟨x, k1, MF.store h5 h6 j x k2⟩⟩
    · intro L a w hI hcl hpre hL K' hK'
      rw [if_pos (by rfl)]
      unfold Oper.wp
      obtain ⟨v0, a0, rfl⟩ := hI.fact 9 (by omega) (by omega) (hpre ⟨9, .data⟩ (by simp) rfl)
      have ve := a0.eval
      generalize a.eval = E at *
      simp [execOp, ve, go_sem, Result.andThen, Oper.upon]
      exact hK' _ _ (hI.grow hinj 12 (by omega) (by omega) (hss 12 (by omega)) hL _ (Below.refl _ _) rfl)
  · intro L a w hI hall
    obtain ⟨v, h1, h2⟩ := hI.fact 12 (by omega) (by omega) (hall 12 (by show 12 < 13; decide))
    have h2' : v = .int .i64 10 := h2
    subst h2'
    exact hQ a w hI.size hI.defers hI.same h1 hI.bel
end Go.Proofs.Ytckooioikcenmaa

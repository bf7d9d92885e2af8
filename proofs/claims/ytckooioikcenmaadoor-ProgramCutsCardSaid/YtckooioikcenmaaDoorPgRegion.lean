/- A region that draws its order, by a condition on what has been carried out so far. Conditions: none. -/
import Derived.RegionTactic
import Derived.Orders
namespace Go.Proofs.YtckooioikcenmaaDoor
open Go
/-- f at each operation, by its number -/
def Steps (f : Nat → Oper → Prop) : Nat → List Oper → Prop
  | _, [] => True
  | i, o :: r => f i o ∧ Steps f (i + 1) r
theorem Steps.at {f : Nat → Oper → Prop} : ∀ (l : List Oper) (i j : Nat) (o : Oper), Steps f i l → l[j]? = some o → f (i + j) o
  | [], _, _, _, _, h => by simp at h
  | o' :: r, i, 0, o, hs, h => by simp at h; subst h; exact hs.1
  | o' :: r, i, j + 1, o, hs, h => by
    have := Steps.at r (i + 1) j o hs.2 (by simpa using h)
    rwa [show i + 1 + j = i + (j + 1) by omega] at this
/-- what has been carried out is closed under 'comes after' -/
def Closed (ops : Array Oper) (L : Nat → Bool) : Prop :=
  ∀ (i : Nat) (o : Oper) (e : Edge), ops[i]? = some o → L i = true → e ∈ o.after.toList → Region.binds .any e = true → L e.on = true
/-- one operation keeps the condition -/
def StepOk (P : Program) (ops : Array Oper) (Q : Exit → Act → World → Prop) (I : (Nat → Bool) → Act → World → Prop) (i : Nat) (o : Oper) : Prop :=
  ∀ (L : Nat → Bool) (a : Act) (w : World), I L a w → Closed ops L → (∀ e ∈ o.after.toList, Region.binds .any e = true → L e.on = true) → L i = false →
    ∀ K' : Act → World → Prop, (∀ a w, I (fun j => j == i || L j) a w → K' a w) → if Region.wanted o (yielded ops a.tmps) = true then Oper.wp P o a w K' Q else K' (a.put o.dst undef) w
/-- the operations stand in an order that fits -/
def sorted (ops : Array Oper) : Bool := (List.range ops.size).all fun i => ((ops[i]?).map (·.after.all fun e => decide (e.on < i))).getD true
def listOf (L : Array Bool) (i : Nat) : Bool := L.getD i false
theorem wpAny_inv {P : Program} {ops : Array Oper} {Q : Exit → Act → World → Prop} {I : (Nat → Bool) → Act → World → Prop} (hsort : sorted ops = true)
    (hI : ∀ (L L' : Nat → Bool) a w, (∀ i, i < ops.size → L i = L' i) → I L a w → I L' a w)
    (hstep : Steps (StepOk P ops Q I) 0 ops.toList)
    (hdone : ∀ L a w, I L a w → (∀ i, i < ops.size → L i = true) → Q .normal a w) :
    ∀ (n : Nat) (L : Array Bool) (a : Act) (w : World), L.size = ops.size → (L.toList.count false ≤ n) → Closed ops (listOf L) → I (listOf L) a w → wpAny P .any ops Q n L a w := by
  have hrdy : ∀ (L : Array Bool), L.size = ops.size → Region.ready .any ops L = [] → ∀ i, i < ops.size → listOf L i = true := by
    intro L hL hr i
    induction i using Nat.strongRecOn with
    | _ i ih =>
      intro hi
      by_cases hl : listOf L i = true
      · exact hl
      · exfalso
        have hmem : i ∈ Region.ready .any ops L := by
          unfold Region.ready
          rw [List.mem_filter]
          refine ⟨List.mem_range.2 hi, ?_⟩
          have h1 : L.getD i true = false := by
            have : i < L.size := by omega
            simp only [listOf, Array.getD, this, dif_pos] at hl ⊢
            simpa using hl
          have ho : ops[i]? = some ops[i] := Array.getElem?_eq_getElem hi
          rw [h1, ho]
          simp only [Bool.not_false, Bool.true_and, Option.map_some, Option.getD_some]
          rw [Array.all_eq_true]
          intro j hj
          have hs := hsort
          unfold sorted at hs
          rw [List.all_eq_true] at hs
          have := hs i (List.mem_range.2 hi)
          rw [ho] at this
          simp only [Option.map_some, Option.getD_some, Array.all_eq_true, decide_eq_true_eq] at this
          have hlt := this j hj
          have := ih _ hlt (by omega)
          simp only [listOf] at this
          simp [this]
        rw [hr] at hmem
        cases hmem
  intro n
  induction n with
  | zero =>
    intro L a w hL hc hcl hi
    have hall : ∀ i, i < ops.size → listOf L i = true := by
      intro i hi'
      have hlt : i < L.size := by omega
      have hz : L.toList.count false = 0 := by omega
      rw [List.count_eq_zero] at hz
      cases hb : L[i] with
      | true => simp [listOf, Array.getD, hlt, hb]
      | false => exact (hz (by rw [← hb]; exact Array.mem_toList_iff.2 (Array.getElem_mem hlt))).elim
    refine ⟨?_, hdone _ a w hi hall⟩
    unfold Region.ready
    rw [List.filter_eq_nil_iff]
    intro i hi'
    have hlt : i < L.size := by rw [hL]; exact List.mem_range.1 hi'
    have := hall i (List.mem_range.1 hi')
    simp only [listOf, Array.getD, hlt, dif_pos] at this
    have h9 : L[i] = true := this
    simp [Array.getD, hlt, h9]
  | succ n ih =>
    intro L a w hL hc hcl hi
    refine ⟨fun hr => hdone _ a w hi (hrdy L hL hr), ?_⟩
    intro i hi'
    unfold Region.ready at hi'
    rw [List.mem_filter] at hi'
    obtain ⟨hr, hp⟩ := hi'
    have hlt := List.mem_range.1 hr
    have hltL : i < L.size := by omega
    have ho : ops[i]? = some ops[i] := Array.getElem?_eq_getElem hlt
    rw [ho] at hp
    simp only [Option.map_some, Option.getD_some, Bool.and_eq_true, Bool.not_eq_true', Array.all_eq_true] at hp
    obtain ⟨hp1, hp2⟩ := hp
    have hLi : L[i] = false := by simpa [Array.getD, hltL] using hp1
    have hpre : ∀ e ∈ (ops[i]).after.toList, Region.binds .any e = true → listOf L e.on = true := by
      intro e he hb
      obtain ⟨j, hj, rfl⟩ := Array.mem_iff_getElem.1 (Array.mem_toList_iff.1 he)
      have := hp2 j hj
      rw [hb] at this
      simpa [listOf] using this
    have hset : ∀ j, j < ops.size → (fun j => j == i || listOf L j) j = listOf (L.setIfInBounds i true) j := by
      intro j hj
      by_cases hji : j = i
      · subst hji; simp [listOf, Array.getD, hltL]
      · have : j < L.size := by omega
        simp [listOf, Array.getD, this, hji, Ne.symm hji]
    have hst := Steps.at ops.toList 0 i ops[i] hstep (by simp)
    rw [Nat.zero_add] at hst
    refine wpOp_step ho fun K' hK' => hst (listOf L) a w hi hcl hpre (by simp [listOf, Array.getD, hltL, hLi]) K' fun a' w' h' => hK' a' w' ?_
    refine ih _ a' w' (by simp [hL]) ?_ ?_ (hI _ _ a' w' hset h')
    · have e1 : L.toList = L.toList.take i ++ L[i] :: L.toList.drop (i + 1) := by
        have h8 : i < L.toList.length := by simpa using hltL
        have := List.drop_eq_getElem_cons h8
        rw [Array.getElem_toList] at this
        rw [← this, List.take_append_drop]
      have e2 : (L.setIfInBounds i true).toList = L.toList.take i ++ true :: L.toList.drop (i + 1) := by
        rw [Array.toList_setIfInBounds, List.set_eq_take_append_cons_drop]; simp [hltL]
      rw [e2]
      rw [e1, hLi] at hc
      simp only [List.count_append, List.count_cons] at hc ⊢
      simp at hc ⊢
      omega
    · intro j o e hjo hj he hb
      have hjl : j < ops.size := (Array.getElem?_eq_some_iff.1 hjo).1
      rw [← hset j hjl] at hj
      have hsort' := hsort
      unfold sorted at hsort'
      rw [List.all_eq_true] at hsort'
      have hon := hsort' j (List.mem_range.2 hjl)
      rw [hjo] at hon
      simp only [Option.map_some, Option.getD_some, Array.all_eq_true, decide_eq_true_eq] at hon
      obtain ⟨q, hq, rfl⟩ := Array.mem_iff_getElem.1 (Array.mem_toList_iff.1 he)
      have hlt2 := hon q hq
      rw [← hset _ (by omega)]
      simp only [Bool.or_eq_true, beq_iff_eq] at hj ⊢
      rcases hj with rfl | hj
      · right
        rw [ho] at hjo
        cases hjo
        exact hpre _ he hb
      · right
        exact hcl j o _ hjo hj he hb
theorem wp_region_inv {P : Program} {id : Nat} {ops : Array Oper} {Q : Exit → Act → World → Prop} {a : Act} {w : World} (I : (Nat → Bool) → Act → World → Prop) (hm : P.follows .mixedOrders = true) (hsort : sorted ops = true)
    (hI : ∀ (L L' : Nat → Bool) a w, (∀ i, i < ops.size → L i = L' i) → I L a w → I L' a w)
    (h0 : I (fun _ => false) a w.drew)
    (hstep : Steps (StepOk P ops Q I) 0 ops.toList)
    (hdone : ∀ L a w, I L a w → (∀ i, i < ops.size → L i = true) → Q .normal a w) : (Code.region id ops true).wp P Q a w := by
  refine wp_region_any hm ?_
  have hf : ∀ i, listOf (Array.replicate ops.size false) i = false := by
    intro i
    simp only [listOf, Array.getD]
    split
    · simp
    · rfl
  refine wpAny_inv hsort hI hstep hdone ops.size _ a _ (by simp) ?_ ?_ ?_
  · refine Nat.le_trans List.count_le_length (by simp)
  · intro i o e _ h
    rw [hf] at h; cases h
  · exact hI _ _ _ _ (fun i _ => (hf i).symm) h0
/-- a frame with the slots ds out of another -/
def setAll (t : Array Value) : List Nat → Array Value → Array Value
  | [], b => b
  | d :: ds, b => setAll t ds (b.setIfInBounds d (t.getD d undef))
theorem setAll_size (t : Array Value) : ∀ (ds : List Nat) (b : Array Value), (setAll t ds b).size = b.size
  | [], _ => rfl
  | d :: ds, b => by rw [setAll, setAll_size t ds]; simp
theorem setAll_at (t : Array Value) : ∀ (ds : List Nat) (b : Array Value), t.size = b.size → (∀ i, i ∉ ds → t[i]? = b[i]?) → setAll t ds b = t
  | [], b, hs, h => by
    apply Array.ext_getElem?
    intro i
    exact (h i (by simp)).symm
  | d :: ds, b, hs, h => by
    refine setAll_at t ds _ (by simpa using hs) fun i hi => ?_
    by_cases hd : d = i
    · subst hd
      rw [Array.getElem?_setIfInBounds]
      simp only [if_true]
      split
      · rename_i hlt
        have : d < t.size := by omega
        simp [Array.getD, this]
      · rename_i hlt
        rw [Array.getElem?_eq_none (by omega)]
    · rw [Array.getElem?_setIfInBounds_ne hd]
      exact h i (by simp [Ne.symm hd, hi])
end Go.Proofs.YtckooioikcenmaaDoor

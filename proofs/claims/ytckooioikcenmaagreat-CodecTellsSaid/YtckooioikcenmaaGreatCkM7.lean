/- A shop that is not too great. Conditions: none. -/
import Derived.Test.YtckooioikcenmaaGreatCkM1
import Derived.Test.YtckooioikcenmaaGreatCkG5
import Derived.Test.YtckooioikcenmaaGreatRows
import Derived.Lib.SmallJoins
import Derived.Deep.Slices
import Derived.Deep.Fields
import Derived.ChangeSlices
namespace Go.Proofs.YtckooioikcenmaaGreat
open Go.RowKit
theorem sum_mem : ∀ (l : List DCmd) (x : DCmd), x ∈ l → x.2.2.1.size ≤ sumS l
  | y :: r, x, h => by
    have h3 : sumS (y :: r) = y.2.2.1.size + sumS r := by simp [sumS]
    rw [h3]
    rcases List.mem_cons.1 h with rfl | h
    · omega
    · have := sum_mem r x h
      omega
theorem hist_small {qp : ByteArray} {qcs : List DCmd} {qts : List Int} {qks : List DKnown} {qss : List Int} (h : gHist qp qcs qts qks qss = false) : qcs.length ≤ 250 ∧ qts.length ≤ 250 ∧ qks.length ≤ 300 ∧ qss.length ≤ 300 ∧ qp.size ≤ 3000 ∧ ∀ x ∈ qcs, x.2.2.1.size ≤ 30000 := by
  have h' := of_decide_eq_false h
  refine ⟨by omega, by omega, by omega, by omega, by omega, fun x hx => ?_⟩
  have := sum_mem qcs x hx
  omega
theorem rec_small {x : DRec} (h : gRec x = false) : bRec.P x := by
  obtain ⟨qi, qq, qpa, qn, ⟨qp, qa, qcs, qts, qks, qss, qst, qcl, qo, qov, qln, qla⟩, qas, qsl⟩ := x
  have h1 : (gFlow qi qq (gHist qp qcs qts qks qss) qas.length qsl.length || decide (3000 < qpa.size)) = false := h
  rw [Bool.or_eq_false_iff] at h1
  have h2 := of_decide_eq_false h1.2
  have h3 := of_decide_eq_false h1.1
  have hg : gHist qp qcs qts qks qss = false := by
    cases hh : gHist qp qcs qts qks qss with
    | false => rfl
    | true => exact absurd (.inl hh) h3
  obtain ⟨k1, k2, k3, k4, k5, k6⟩ := hist_small hg
  refine ⟨?_, ?_, ?_, trivial, ⟨?_, trivial, ⟨?_, fun x hx => ⟨trivial, trivial, k6 x hx, trivial, trivial⟩⟩, ⟨?_, fun _ _ => trivial⟩, ⟨?_, fun _ _ => ⟨trivial, trivial, trivial⟩⟩, ⟨?_, fun _ _ => trivial⟩, trivial, trivial, trivial, trivial, trivial, trivial⟩, ⟨?_, fun _ _ => ⟨trivial, trivial, trivial, trivial, trivial, trivial, trivial, trivial, trivial, trivial, trivial⟩⟩, ⟨?_, fun _ _ => ⟨trivial, trivial⟩⟩⟩
  · show qi.size ≤ 30000; omega
  · show qq.size ≤ 30000; omega
  · show qpa.size ≤ 30000; omega
  · show qp.size ≤ 30000; omega
  · show qcs.length ≤ 300; omega
  · show qts.length ≤ 300; omega
  · show qks.length ≤ 300; omega
  · show qss.length ≤ 300; omega
  · show qas.length ≤ 300; omega
  · show qsl.length ≤ 300; omega
theorem any_mem {α : Type} {P : α → Bool} {l : List α} (h : l.any P = false) : ∀ x ∈ l, P x = false := fun x hx => by
  cases hp : P x with
  | false => rfl
  | true => rw [List.any_eq_true.2 ⟨x, hx, hp⟩] at h; cases h
theorem desk_small {qqs : List DTurn} {qls : List DLine} (h : gDesk qqs qls = false) : qqs.length ≤ 30 ∧ (∀ x ∈ qqs, x.1.size ≤ 3000) ∧ qls.length ≤ 30 ∧ ∀ x ∈ qls, x.2.2.length ≤ 60 ∧ x.1.size ≤ 3000 := by
  have h0 : (gFair qqs || decide (30 < qls.length) || qls.any bigLine) = false := h
  rw [Bool.or_eq_false_iff, Bool.or_eq_false_iff] at h0
  obtain ⟨⟨h1, h2⟩, h3⟩ := h0
  have h4 : (decide (30 < qqs.length) || qqs.any fun x => decide (3000 < x.1.size)) = false := h1
  rw [Bool.or_eq_false_iff] at h4
  have h5 := of_decide_eq_false h2
  have h6 := of_decide_eq_false h4.1
  refine ⟨by omega, fun x hx => ?_, by omega, fun x hx => ?_⟩
  · have := of_decide_eq_false (any_mem h4.2 x hx)
    omega
  · have := of_decide_eq_false (show decide (60 < x.2.2.length ∨ 3000 < x.1.size) = false from any_mem h3 x hx)
    omega
theorem shop_small {x : DShop} (h : gShop x = false) : bShop.P x := by
  obtain ⟨qnow, qrs, ⟨qq, qqs, qat, qhad, qls⟩, qjs, qla, qws, qdr⟩ := x
  have h0 : (decide (60 < qrs.length) || gDesk qqs qls || decide (300 < qjs.length) || decide (70 < qws.length) || qrs.any gRec || qjs.any fun j => decide (3000 < j.2.1.size)) = false := h
  simp only [Bool.or_eq_false_iff] at h0
  obtain ⟨⟨⟨⟨⟨h1, h2⟩, h3⟩, h4⟩, h5⟩, h6⟩ := h0
  have k1 := of_decide_eq_false h1
  have k3 := of_decide_eq_false h3
  have k4 := of_decide_eq_false h4
  obtain ⟨d1, d2, d3, d4⟩ := desk_small h2
  refine ⟨trivial, ⟨?_, fun x hx => rec_small (any_mem h5 x hx)⟩, ⟨trivial, ⟨?_, fun x hx => ⟨?_, trivial, trivial⟩⟩, trivial, trivial, ⟨?_, fun x hx => ⟨?_, trivial, ⟨?_, fun _ _ => ⟨trivial, trivial⟩⟩⟩⟩⟩, ⟨?_, fun x hx => ⟨trivial, ?_, trivial⟩⟩, trivial, ⟨?_, fun _ _ => ⟨trivial, trivial⟩⟩, trivial⟩
  · show qrs.length ≤ 300; omega
  · show qqs.length ≤ 300; omega
  · have := d2 x hx; show x.1.size ≤ 30000; omega
  · show qls.length ≤ 300; omega
  · have := d4 x hx; show x.1.size ≤ 30000; omega
  · have := d4 x hx; show x.2.2.length ≤ 300; omega
  · show qjs.length ≤ 300; omega
  · have := of_decide_eq_false (any_mem h6 x hx); show x.2.1.size ≤ 30000; omega
  · show qws.length ≤ 300; omega
end Go.Proofs.YtckooioikcenmaaGreat
namespace Go.Proofs.YtckooioikcenmaaGreat
open Go.RowKit
def Bd.Sm {α : Type} (b : Bd α) : Prop := ∀ x, b.P x → b.c.sm x
theorem bI_sm : bI.Sm := fun _ _ => trivial
theorem bB_sm : bB.Sm := fun _ _ => trivial
theorem bF_sm : bF.Sm := fun _ _ => trivial
theorem bS_sm : bS.Sm := fun _ h => h
theorem bSeq_sm {α β : Type} {a : Bd α} {b : Bd β} (ha : a.Sm) (hb : b.Sm) : (bSeq a b).Sm := fun _ h => ⟨ha _ h.1, hb _ h.2⟩
theorem bL_sm {α : Type} {a : Bd α} (ha : a.Sm) : (bL a).Sm := fun _ h => ⟨Nat.le_trans h.1 (by decide), fun x hx => ha x (h.2 x hx)⟩
theorem bOp_sm : bOp.Sm := bSeq_sm bB_sm (bSeq_sm bS_sm (bSeq_sm bS_sm (bSeq_sm bS_sm (bSeq_sm bS_sm (bSeq_sm bI_sm (bSeq_sm bI_sm (bSeq_sm bI_sm (bSeq_sm bI_sm bI_sm))))))))
theorem bHist_sm : bHist.Sm := bSeq_sm bS_sm (bSeq_sm bI_sm (bSeq_sm (bL_sm (bSeq_sm bI_sm (bSeq_sm bB_sm (bSeq_sm bS_sm (bSeq_sm bI_sm bI_sm))))) (bSeq_sm (bL_sm bI_sm) (bSeq_sm (bL_sm (bSeq_sm bI_sm (bSeq_sm bI_sm bI_sm))) (bSeq_sm (bL_sm bI_sm) (bSeq_sm bF_sm (bSeq_sm bF_sm (bSeq_sm bI_sm (bSeq_sm bI_sm (bSeq_sm bI_sm bI_sm))))))))))
theorem bAct_sm : bAct.Sm := bSeq_sm bI_sm (bSeq_sm bI_sm (bSeq_sm bI_sm (bSeq_sm bB_sm (bSeq_sm bI_sm (bSeq_sm bI_sm (bSeq_sm bI_sm (bSeq_sm bI_sm (bSeq_sm bI_sm (bSeq_sm bI_sm bI_sm)))))))))
theorem bRec_sm : bRec.Sm := bSeq_sm bS_sm (bSeq_sm bS_sm (bSeq_sm bS_sm (bSeq_sm bI_sm (bSeq_sm bHist_sm (bSeq_sm (bL_sm bAct_sm) (bL_sm (bSeq_sm bI_sm bI_sm)))))))
theorem bDesk_sm : bDesk.Sm := bSeq_sm bI_sm (bSeq_sm (bL_sm (bSeq_sm bS_sm (bSeq_sm bI_sm bI_sm))) (bSeq_sm bI_sm (bSeq_sm bF_sm (bL_sm (bSeq_sm bS_sm (bSeq_sm bI_sm (bL_sm (bSeq_sm bI_sm bI_sm))))))))
theorem bShop_sm : bShop.Sm := bSeq_sm bI_sm (bSeq_sm (bL_sm bRec_sm) (bSeq_sm bDesk_sm (bSeq_sm (bL_sm (bSeq_sm bI_sm (bSeq_sm bS_sm bI_sm))) (bSeq_sm bI_sm (bSeq_sm (bL_sm (bSeq_sm bI_sm bI_sm)) bF_sm)))))
/-- what 'Great' lets through may be written -/
theorem shop_ok {x : DShop} (ho : cShop.okr x) (h : gShop x = false) : cShop.sm x ∧ (cShop.enc x).length ≤ 100000000000 := ⟨bShop_sm x (shop_small h), shop_len ho (shop_small h)⟩
end Go.Proofs.YtckooioikcenmaaGreat
namespace Go.Proofs.YtckooioikcenmaaGreat
open Go.ChangeShapes Go.WideShapes Go.ChangeAt Go.RowKit Go.Joins Go.Deep
theorem list_of {α : Type} : ∀ (n : Nat) (p : Nat → α → Prop), (∀ i, i < n → ∃ x, p i x) → ∃ xs : List α, xs.length = n ∧ ∀ (k : Nat) (x : α), xs[k]? = some x → p k x
  | 0, _, _ => ⟨[], rfl, fun k x h => by simp at h⟩
  | n + 1, p, h => by
    obtain ⟨x0, h0⟩ := h 0 (by omega)
    obtain ⟨xs, hl, hx⟩ := list_of n (fun i => p (i + 1)) (fun i hi => h (i + 1) (by omega))
    refine ⟨x0 :: xs, by simp [hl], fun k x hk => ?_⟩
    cases k with
    | zero => simp at hk; subst hk; exact h0
    | succ k => exact hx k x (by simpa using hk)
/-- the texts of data are of a size at most -/
abbrev Tx (α : Type) : Type := Nat → α → Prop
def tN {α : Type} : Tx α := fun _ _ => True
def tS : Tx ByteArray := fun n s => s.size ≤ n
def tSeq {α β : Type} (a : Tx α) (b : Tx β) : Tx (α × β) := fun n x => a n x.1 ∧ b n x.2
def tL {α : Type} (a : Tx α) : Tx (List α) := fun n xs => ∀ x ∈ xs, a n x
/-- what reads of a type reads as data of a kind -/
def Opens {α : Type} (T : TypeId) (m : Mv α) (c : Cd α) (t : Tx α) : Prop :=
  ∀ (H : Type) (enc : TypeId × Value → H) (W : World) (n : Nat) (cs : List Value) (y : DataW H × List MemPlace), DataW.trod enc Tryz.prog W 0 (fun _ => true) true n T cs = some y → ∃ x, m.rep W.heap.size W cs x ∧ c.okr x ∧ ∀ N, (∀ k ∈ DataW.weights Tryz.prog T y.1, k ≤ N) → t N x
theorem wf_i64 {z : Int} (h : (Lit.int .i64 z).wf = true) : I64 z := by
  simp [Lit.wf, IntKind.min, IntKind.max, IntKind.signed, IntKind.bits] at h
  unfold I64
  omega
theorem wf_u8 {z : Int} (h : (Lit.int .u8 z).wf = true) : 0 ≤ z ∧ z ≤ 255 := by
  simp [Lit.wf, IntKind.min, IntKind.max, IntKind.signed, IntKind.bits] at h
  omega
theorem opens_i64 {T : TypeId} (hT : Tryz.prog.underlying T = some (.int .i64)) : Opens T mI cI tN := fun H enc W n cs y h => by
  obtain ⟨z, rfl, _, hw⟩ := DataW.trod_int hT h
  exact ⟨z, rfl, wf_i64 hw, fun _ _ => trivial⟩
theorem opens_u8 {T : TypeId} (hT : Tryz.prog.underlying T = some (.int .u8)) : Opens T mB cB tN := fun H enc W n cs y h => by
  obtain ⟨z, rfl, _, hw⟩ := DataW.trod_int hT h
  exact ⟨z, rfl, wf_u8 hw, fun _ _ => trivial⟩
theorem opens_bool {T : TypeId} (hT : Tryz.prog.underlying T = some .bool) : Opens T mF cF tN := fun H enc W n cs y h => by
  obtain ⟨z, rfl, _⟩ := DataW.trod_bool hT h
  exact ⟨z, rfl, trivial, fun _ _ => trivial⟩
theorem opens_str {T : TypeId} (hT : Tryz.prog.underlying T = some .string) : Opens T mS cS tS := fun H enc W n cs y h => by
  obtain ⟨s, rfl, rfl, hs⟩ := DataW.trod_string hT h
  refine ⟨s, rfl, ?_, fun N hN => ?_⟩
  · show s.size < 18446744073709551616
    simp only [maxLen] at hs
    omega
  · exact hN s.data.toList.length (by simp [DataW.weights])
theorem weights_all {H : Type} {P : Program} {e : TypeId} {d : DataW H} {l : List (DataW H)} (h : d ∈ l) : ∀ k ∈ d.weights P e, k ∈ DataW.weightsAll P e l := by
  induction l with
  | nil => cases h
  | cons x r ih =>
    intro k hk
    rw [DataW.weightsAll, List.mem_append]
    cases List.mem_cons.1 h with
    | inl e => subst e; exact .inl hk
    | inr e => exact .inr (ih e k hk)
theorem weights_app {H : Type} {P : Program} : ∀ (ss ts : List TypeId) (l r : List (DataW H)), l.length = ss.length → DataW.weightsEach P (ss ++ ts) (l ++ r) = DataW.weightsEach P ss l ++ DataW.weightsEach P ts r
  | [], ts, [], r, _ => by simp [DataW.weightsEach]
  | [], _, _ :: _, _, h => by simp at h
  | _ :: _, _, [], _, h => by simp at h
  | s :: ss, ts, d :: l, r, h => by
    simp only [List.cons_append, DataW.weightsEach]
    rw [weights_app ss ts l r (by simpa using h), List.append_assoc]
theorem addr_plus (b o n : Nat) : (⟨b, o, none⟩ : Addr).add n = ⟨b, o + n, none⟩ := by simp [Addr.add]
theorem opens_list {α : Type} {T E : TypeId} {m : Mv α} {c : Cd α} {t : Tx α} (hT : Tryz.prog.underlying T = some (.slice E)) (hm : 0 < m.n) (hc : Tryz.prog.cellsOf E = m.n) (hE : Opens E m c t) : Opens T (mL E m) (cL c) (tL t) := fun H enc W n cs y h => by
  rcases open_slice hT h with ⟨rfl, rfl⟩ | ⟨a, len, cap, M, n', D, Pl, rfl, hb, hl, hmx, hmm, rfl, hi⟩
  · exact ⟨[], ⟨_, rfl, .inl ⟨⟨_, _, rfl⟩, rfl⟩⟩, ⟨by simp, fun x hx => by cases hx⟩, fun _ _ x hx => by cases hx⟩
  simp only [if_true] at hmm
  subst hmm
  have key : ∀ i, i < len → ∃ x : α, (∃ us : List Value, us.length = m.n ∧ (∀ (j : Nat) (u : Value), us[j]? = some u → W.cell? ((a.add (i * m.n)).add j) = some u) ∧ m.rep W.heap.size W us x) ∧ c.okr x ∧ ∀ N, (∀ k ∈ DataW.weights Tryz.prog E (D i), k ≤ N) → t N x := by
    intro i hlt
    obtain ⟨cs', hcs, ht⟩ := hi i (by omega)
    rw [hc] at hcs
    obtain ⟨_, hcl, hat⟩ := World.cells?_some hcs
    obtain ⟨x, h1, h2, h3⟩ := hE H enc W n' cs' _ ht
    refine ⟨x, ⟨cs', hcl, fun j u hj => ?_, h1⟩, h2, h3⟩
    have hjl := (List.getElem?_eq_some_iff.1 hj).1
    have := hat j (by omega)
    rw [this]
    exact hj
  obtain ⟨xs, hxl, hxs⟩ := list_of len _ key
  have hbk : ∀ (N : Nat), (∀ k ∈ DataW.weights Tryz.prog T (DataW.slice (H := H) ((List.range len).map D) ((List.range (M - len)).map fun j => D (len + j))), k ≤ N) → ∀ (k : Nat) (x : α), xs[k]? = some x → t N x := fun N hN k x hx => by
    have hk := (List.getElem?_eq_some_iff.1 hx).1
    refine (hxs k x hx).2.2 N fun q hq => hN q ?_
    have h1 : D k ∈ (List.range len).map D := List.mem_map.2 ⟨k, List.mem_range.2 (by omega), rfl⟩
    rw [DataW.weights, hT]
    exact List.mem_cons_of_mem _ (List.mem_append_left _ (weights_all h1 q hq))
  refine ⟨xs, ⟨_, rfl, ?_⟩, ⟨?_, fun x hx => ?_⟩, fun N hN x hx => ?_⟩
  · rcases Nat.eq_zero_or_pos len with rfl | hpos
    · exact .inl ⟨⟨_, _, rfl⟩, List.eq_nil_of_length_eq_zero hxl⟩
    · obtain ⟨x0, ⟨us, hul, hus, _⟩, _⟩ := key 0 hpos
      obtain ⟨u0, hu0⟩ : ∃ u, us[0]? = some u := ⟨us[0]'(by omega), List.getElem?_eq_getElem _⟩
      have h00 := hus 0 u0 hu0
      obtain ⟨b, o, sp⟩ := a
      have hsp : sp = none := by
        cases sp with
        | none => rfl
        | some z =>
          exfalso
          simp only [World.cell?, Addr.add] at h00
          repeat (first | (split at h00; all_goals (try simp at h00)) | simp at h00)
      subst hsp
      have hlt := World.block_lt_of_cell? W _ h00
      refine .inr ⟨b, o, M, by rw [hxl], by rw [hxl]; omega, hmx, by rw [addr_plus, addr_plus] at hlt; exact hlt, fun j x hx => ?_⟩
      obtain ⟨⟨us', _, hu', hr'⟩, _⟩ := hxs j x hx
      refine ⟨us', fun i u hi => ?_, hr'⟩
      have := hu' i u hi
      rw [addr_plus, addr_plus] at this
      exact this
  · rw [hxl]
    simp only [maxLen] at hmx
    omega
  · obtain ⟨k, hk⟩ := List.mem_iff_getElem?.1 hx
    exact (hxs k x hk).2.1
  · obtain ⟨k, hk⟩ := List.mem_iff_getElem?.1 hx
    exact hbk N hN k x hk
/-- how far the i-th of these types lies -/
noncomputable def offs (ts : List TypeId) (i : Nat) : Nat := ((ts.take i).map Tryz.prog.cellsOf).sum
/-- cells that hold data of these types, one behind the other -/
def Ofs {α : Type} (ts : List TypeId) (m : Mv α) (c : Cd α) (t : Tx α) : Prop :=
  ∀ (H : Type) (enc : TypeId × Value → H) (W : World) (cs : List Value) (ys : List (DataW H)), cs.length = (ts.map Tryz.prog.cellsOf).sum → ys.length = ts.length →
    (∀ (i : Nat) (T : TypeId), ts[i]? = some T → ∃ n y, DataW.trod enc Tryz.prog W 0 (fun _ => true) true n T ((cs.drop (offs ts i)).take (Tryz.prog.cellsOf T)) = some y ∧ ys[i]? = some y.1) → ∃ x, m.rep W.heap.size W cs x ∧ c.okr x ∧ ∀ N, (∀ k ∈ DataW.weightsEach Tryz.prog ts ys, k ≤ N) → t N x
theorem ofs_one {α : Type} {T : TypeId} {m : Mv α} {c : Cd α} {t : Tx α} (h : Opens T m c t) : Ofs [T] m c t := fun H enc W cs ys hl hy hf => by
  obtain ⟨n, y, h1, h2⟩ := hf 0 T rfl
  simp [offs] at h1 hl
  rw [List.take_of_length_le (by omega)] at h1
  obtain ⟨x, k1, k2, k3⟩ := h H enc W n cs y h1
  match ys, hy with
  | [y0], _ =>
    have hy0 : y0 = y.1 := by simpa using h2
    exact ⟨x, k1, k2, fun N hN => k3 N fun k hk => hN k (by rw [hy0]; simp only [DataW.weightsEach]; exact List.mem_append_left _ hk)⟩
theorem ofs_cons {α β : Type} {T : TypeId} {ts : List TypeId} {m : Mv α} {m' : Mv β} {c : Cd α} {c' : Cd β} {t : Tx α} {t' : Tx β} (h : Opens T m c t) (h' : Ofs ts m' c' t') : Ofs (T :: ts) (mSeq m m') (cSeq c c') (tSeq t t') := fun H enc W cs ys hl hy hf => by
  obtain ⟨n, y, h1, h2⟩ := hf 0 T rfl
  have h1' : DataW.trod enc Tryz.prog W 0 (fun _ => true) true n T (cs.take (Tryz.prog.cellsOf T)) = some y := by simpa [offs] using h1
  obtain ⟨x, k1, k2, k3⟩ := h H enc W n _ y h1'
  cases ys with
  | nil => simp at hy
  | cons y0 yr =>
    simp only [List.map_cons, List.sum_cons] at hl
    obtain ⟨x', l1, l2, l3⟩ := h' H enc W (cs.drop (Tryz.prog.cellsOf T)) yr (by rw [List.length_drop]; omega) (by simpa using hy) (fun i S hS => by
      obtain ⟨n', y', g1, g2⟩ := hf (i + 1) S hS
      refine ⟨n', y', ?_, g2⟩
      rw [List.drop_drop]
      have : offs (T :: ts) (i + 1) = Tryz.prog.cellsOf T + offs ts i := by simp [offs]
      rw [this] at g1
      exact g1)
    have hy0 : y0 = y.1 := by simpa using h2
    refine ⟨(x, x'), ⟨_, _, (List.take_append_drop _ _).symm, k1, l1⟩, ⟨k2, l2⟩, fun N hN => ⟨k3 N fun k hk => hN k ?_, l3 N fun k hk => hN k ?_⟩⟩
    · simp only [DataW.weightsEach]
      rw [hy0]
      exact List.mem_append_left _ hk
    · simp only [DataW.weightsEach]
      exact List.mem_append_right _ hk
/-- is this type a struct of these types, one behind the other? -/
noncomputable def structOk (T : TypeId) (ts : List TypeId) : Bool :=
  match Tryz.prog.underlying T with
  | some (.struct fs) => decide (fs.toList.map (·.type) = ts) && decide (fs.toList.map (·.offset) = (List.range ts.length).map (offs ts)) && decide (Tryz.prog.cellsOf T = (ts.map Tryz.prog.cellsOf).sum)
  | _ => false
theorem struct_parts {T : TypeId} {ts : List TypeId} (hs : structOk T ts = true) {H : Type} {enc : TypeId × Value → H} {W : World} {n : Nat} {cs : List Value} {y : DataW H × List MemPlace} (h : DataW.trod enc Tryz.prog W 0 (fun _ => true) true n T cs = some y) :
    ∃ ys : List (DataW H), cs.length = (ts.map Tryz.prog.cellsOf).sum ∧ ys.length = ts.length ∧ (y.1 = .agg ys ∧ DataW.weights Tryz.prog T y.1 = DataW.weightsEach Tryz.prog ts ys) ∧ ∀ (i : Nat) (S : TypeId), ts[i]? = some S → ∃ n' z, DataW.trod enc Tryz.prog W 0 (fun _ => true) true n' S ((cs.drop (offs ts i)).take (Tryz.prog.cellsOf S)) = some z ∧ ys[i]? = some z.1 := by
  unfold structOk at hs
  split at hs
  case h_2 => cases hs
  case h_1 fs hT =>
    simp only [Bool.and_eq_true, decide_eq_true_eq] at hs
    obtain ⟨⟨h1, h2⟩, h3⟩ := hs
    obtain ⟨xs, n', rfl, rfl, hcl, hxl, hf⟩ := DataW.trod_struct hT h
    have hlen : fs.toList.length = ts.length := by rw [← h1, List.length_map]
    refine ⟨xs.map (·.1), by rw [hcl, h3], by rw [List.length_map, hxl, ← hlen]; rfl, ⟨rfl, by rw [DataW.weights, hT, ← h1]⟩, fun i S hS => ?_⟩
    have hi := (List.getElem?_eq_some_iff.1 hS).1
    have hfi : ∃ f, fs.toList[i]? = some f := ⟨fs.toList[i]'(by omega), List.getElem?_eq_getElem _⟩
    obtain ⟨f, hfi⟩ := hfi
    have e1 : f.type = S := by
      have := congrArg (fun l : List TypeId => l[i]?) h1
      simp only [List.getElem?_map, hfi, Option.map_some, hS] at this
      exact Option.some.inj this
    have e2 : f.offset = offs ts i := by
      have := congrArg (fun l : List Nat => l[i]?) h2
      simp only [List.getElem?_map, hfi, Option.map_some, List.getElem?_range hi] at this
      exact Option.some.inj this
    have h4 := hf i f (by simpa using hfi)
    have hxi : i < xs.length := by rw [hxl]; have : fs.size = fs.toList.length := rfl; omega
    rw [List.getElem?_eq_getElem hxi, e1, e2] at h4
    exact ⟨n', _, h4, by simp [List.getElem?_eq_getElem hxi]⟩
theorem opens_struct {α : Type} {T : TypeId} {ts : List TypeId} {m : Mv α} {c : Cd α} {t : Tx α} (hs : structOk T ts = true) (h : Ofs ts m c t) : Opens T m c t := fun H enc W n cs y hy => by
  obtain ⟨ys, h1, h2, h3, h4⟩ := struct_parts hs hy
  obtain ⟨x, k1, k2, k3⟩ := h H enc W cs ys h1 h2 h4
  exact ⟨x, k1, k2, fun N hN => k3 N fun k hk => hN k (by rw [h3.2]; exact hk)⟩
theorem offs_app_lt (ss ts : List TypeId) {i : Nat} (h : i ≤ ss.length) : offs (ss ++ ts) i = offs ss i := by
  unfold offs
  rw [List.take_append_of_le_length h]
theorem offs_app_ge (ss ts : List TypeId) (i : Nat) : offs (ss ++ ts) (ss.length + i) = (ss.map Tryz.prog.cellsOf).sum + offs ts i := by
  unfold offs
  rw [List.take_length_add_append, List.map_append, List.sum_append]
theorem offs_end (ts : List TypeId) {i : Nat} {S : TypeId} (h : ts[i]? = some S) : offs ts i + Tryz.prog.cellsOf S ≤ (ts.map Tryz.prog.cellsOf).sum := by
  induction ts generalizing i with
  | nil => simp at h
  | cons a r ih =>
    cases i with
    | zero => simp at h; subst h; simp [offs]
    | succ i =>
      have := ih (i := i) (by simpa using h)
      have e : offs (a :: r) (i + 1) = Tryz.prog.cellsOf a + offs r i := by simp [offs]
      rw [e]
      simp only [List.map_cons, List.sum_cons]
      omega
/-- a struct that lies within -/
theorem ofs_inline {α : Type} {T : TypeId} {ss ts : List TypeId} {m : Mv α} {c : Cd α} {t : Tx α} (hs : structOk T ss = true) (hc : Tryz.prog.cellsOf T = (ss.map Tryz.prog.cellsOf).sum) (h : Ofs (ss ++ ts) m c t) : Ofs (T :: ts) m c t := fun H enc W cs ys hl hy hf => by
  obtain ⟨n, y, h1, h2⟩ := hf 0 T rfl
  have h1' : DataW.trod enc Tryz.prog W 0 (fun _ => true) true n T (cs.take (Tryz.prog.cellsOf T)) = some y := by simpa [offs] using h1
  obtain ⟨zs, g1, g2, g3, g4⟩ := struct_parts hs h1'
  cases ys with
  | nil => simp at hy
  | cons y0 yr =>
    simp only [List.map_cons, List.sum_cons] at hl
    have hy0 : y0 = y.1 := by simpa using h2
    obtain ⟨x, k1, k2, k3⟩ := h H enc W cs (zs ++ yr) (by rw [List.map_append, List.sum_append, hl, hc]) (by simp at hy; simp [g2, hy]) (fun i S hS => by
      by_cases hlt : i < ss.length
      · rw [List.getElem?_append_left hlt] at hS
        obtain ⟨n', z, e1, e2⟩ := g4 i S hS
        have hend := offs_end ss hS
        refine ⟨n', z, ?_, by rw [List.getElem?_append_left (by omega)]; exact e2⟩
        rw [offs_app_lt _ _ (by omega)]
        rw [List.drop_take, List.take_take] at e1
        rw [show min (Tryz.prog.cellsOf S) (Tryz.prog.cellsOf T - offs ss i) = Tryz.prog.cellsOf S by omega] at e1
        exact e1
      · obtain ⟨j, rfl⟩ : ∃ j, i = ss.length + j := ⟨i - ss.length, by omega⟩
        rw [List.getElem?_append_right (by omega), show ss.length + j - ss.length = j by omega] at hS
        obtain ⟨n', z, e1, e2⟩ := hf (j + 1) S hS
        refine ⟨n', z, ?_, by rw [List.getElem?_append_right (by omega), g2, show ss.length + j - ss.length = j by omega]; exact e2⟩
        rw [offs_app_ge, ← hc]
        have e : offs (T :: ts) (j + 1) = Tryz.prog.cellsOf T + offs ts j := by simp [offs]
        rw [e] at e1
        exact e1)
    refine ⟨x, k1, k2, fun N hN => k3 N fun k hk => hN k ?_⟩
    rw [weights_app _ _ _ _ g2, ← g3.2, ← hy0] at hk
    simp only [DataW.weightsEach]
    exact hk
end Go.Proofs.YtckooioikcenmaaGreat
namespace Go.Proofs.YtckooioikcenmaaGreat
open Go.RowKit
def tCmd : Tx DCmd := (tSeq tN (tSeq tN (tSeq tS (tSeq tN tN))))
theorem openCmd : Opens 191 mCmd cCmd tCmd := opens_struct (ts := [3, 189, 9, 2, 3]) (by kernel_rfl) (ofs_cons (opens_i64 Tryz.underlying3) (ofs_cons (opens_u8 Tryz.underlying189) (ofs_cons (opens_str Tryz.underlying9) (ofs_cons (opens_i64 Tryz.underlying2) (ofs_one (opens_i64 Tryz.underlying3))))))
def tKnown : Tx DKnown := (tSeq tN (tSeq tN tN))
theorem openKnown : Opens 202 mKnown cKnown tKnown := opens_struct (ts := [3, 57]) (by kernel_rfl) (ofs_cons (opens_i64 Tryz.underlying3) (ofs_inline (ss := [3, 2]) (by kernel_rfl) (by kernel_rfl) (ofs_cons (opens_i64 Tryz.underlying3) (ofs_one (opens_i64 Tryz.underlying2)))))
def tHist : Tx DHist := (tSeq tS (tSeq tN (tSeq (tL tCmd) (tSeq (tL tN) (tSeq (tL tKnown) (tSeq (tL tN) (tSeq tN (tSeq tN (tSeq tN (tSeq tN (tSeq tN tN)))))))))))
theorem openHist : Opens 59 mHist cHist tHist := opens_struct (ts := [9, 2, 52, 53, 54, 55, 4, 4, 57, 3, 2]) (by kernel_rfl) (ofs_cons (opens_str Tryz.underlying9) (ofs_cons (opens_i64 Tryz.underlying2) (ofs_cons (opens_list Tryz.underlying52 mCmd_law.pos (by kernel_rfl) openCmd) (ofs_cons (opens_list Tryz.underlying53 mI_law.pos (by kernel_rfl) (opens_i64 Tryz.underlying3)) (ofs_cons (opens_list Tryz.underlying54 mKnown_law.pos (by kernel_rfl) openKnown) (ofs_cons (opens_list Tryz.underlying55 mI_law.pos (by kernel_rfl) (opens_i64 Tryz.underlying2)) (ofs_cons (opens_bool Tryz.underlying4) (ofs_cons (opens_bool Tryz.underlying4) (ofs_inline (ss := [3, 2]) (by kernel_rfl) (by kernel_rfl) (ofs_cons (opens_i64 Tryz.underlying3) (ofs_cons (opens_i64 Tryz.underlying2) (ofs_cons (opens_i64 Tryz.underlying3) (ofs_one (opens_i64 Tryz.underlying2))))))))))))))
def tTask : Tx DTask := (tSeq tN (tSeq tN (tSeq tN (tSeq tN (tSeq tN (tSeq tN (tSeq tN (tSeq tN (tSeq tN tN)))))))))
theorem openTask : Opens 136 mTask cTask tTask := opens_struct (ts := [2, 3, 134, 2, 2, 3, 2, 2, 57]) (by kernel_rfl) (ofs_cons (opens_i64 Tryz.underlying2) (ofs_cons (opens_i64 Tryz.underlying3) (ofs_cons (opens_u8 Tryz.underlying134) (ofs_cons (opens_i64 Tryz.underlying2) (ofs_cons (opens_i64 Tryz.underlying2) (ofs_cons (opens_i64 Tryz.underlying3) (ofs_cons (opens_i64 Tryz.underlying2) (ofs_cons (opens_i64 Tryz.underlying2) (ofs_inline (ss := [3, 2]) (by kernel_rfl) (by kernel_rfl) (ofs_cons (opens_i64 Tryz.underlying3) (ofs_one (opens_i64 Tryz.underlying2))))))))))))
def tAct : Tx DAct := (tSeq tN tTask)
theorem openAct : Opens 138 mAct cAct tAct := opens_struct (ts := [3, 136]) (by kernel_rfl) (ofs_cons (opens_i64 Tryz.underlying3) (ofs_one openTask))
def tSleep : Tx DSleep := (tSeq tN tN)
theorem openSleep : Opens 143 mSleep cSleep tSleep := opens_struct (ts := [3, 2]) (by kernel_rfl) (ofs_cons (opens_i64 Tryz.underlying3) (ofs_one (opens_i64 Tryz.underlying2)))
def tTurn : Tx DTurn := (tSeq tS (tSeq tN tN))
theorem openTurn : Opens 147 mTurn cTurn tTurn := opens_struct (ts := [9, 3, 2]) (by kernel_rfl) (ofs_cons (opens_str Tryz.underlying9) (ofs_cons (opens_i64 Tryz.underlying3) (ofs_one (opens_i64 Tryz.underlying2))))
def tItem : Tx DItem := (tSeq tN tN)
theorem openItem : Opens 152 mItem cItem tItem := opens_struct (ts := [3, 3]) (by kernel_rfl) (ofs_cons (opens_i64 Tryz.underlying3) (ofs_one (opens_i64 Tryz.underlying3)))
def tLine : Tx DLine := (tSeq tS (tSeq tN (tL tItem)))
theorem openLine : Opens 120 mLine cLine tLine := opens_struct (ts := [9, 3, 118]) (by kernel_rfl) (ofs_cons (opens_str Tryz.underlying9) (ofs_cons (opens_i64 Tryz.underlying3) (ofs_one (opens_list Tryz.underlying118 mItem_law.pos (by kernel_rfl) openItem))))
def tDesk : Tx DDesk := (tSeq tN (tSeq (tL tTurn) (tSeq tN (tSeq tN (tL tLine)))))
theorem openDesk : Opens 31 mDesk cDesk tDesk := opens_struct (ts := [28, 29]) (by kernel_rfl) (ofs_inline (ss := [3, 26, 3, 4]) (by kernel_rfl) (by kernel_rfl) (ofs_cons (opens_i64 Tryz.underlying3) (ofs_cons (opens_list Tryz.underlying26 mTurn_law.pos (by kernel_rfl) openTurn) (ofs_cons (opens_i64 Tryz.underlying3) (ofs_cons (opens_bool Tryz.underlying4) (ofs_one (opens_list Tryz.underlying29 mLine_law.pos (by kernel_rfl) openLine)))))))
def tJob : Tx DJob := (tSeq tN (tSeq tS tN))
theorem openJob : Opens 67 mJob cJob tJob := opens_struct (ts := [3, 9, 3]) (by kernel_rfl) (ofs_cons (opens_i64 Tryz.underlying3) (ofs_cons (opens_str Tryz.underlying9) (ofs_one (opens_i64 Tryz.underlying3))))
def tWorker : Tx DWorker := (tSeq tN tN)
theorem openWorker : Opens 87 mWorker cWorker tWorker := opens_struct (ts := [3, 2]) (by kernel_rfl) (ofs_cons (opens_i64 Tryz.underlying3) (ofs_one (opens_i64 Tryz.underlying2)))
def tOp : Tx DOp := (tSeq tN (tSeq tS (tSeq tS (tSeq tS (tSeq tS (tSeq tN (tSeq tN (tSeq tN (tSeq tN tN)))))))))
theorem openOp : Opens 24 mOp cOp tOp := opens_struct (ts := [22, 9, 9, 9, 9, 2, 2, 3, 3, 3]) (by kernel_rfl) (ofs_cons (opens_u8 Tryz.underlying22) (ofs_cons (opens_str Tryz.underlying9) (ofs_cons (opens_str Tryz.underlying9) (ofs_cons (opens_str Tryz.underlying9) (ofs_cons (opens_str Tryz.underlying9) (ofs_cons (opens_i64 Tryz.underlying2) (ofs_cons (opens_i64 Tryz.underlying2) (ofs_cons (opens_i64 Tryz.underlying3) (ofs_cons (opens_i64 Tryz.underlying3) (ofs_one (opens_i64 Tryz.underlying3)))))))))))
abbrev DRec0 : Type := ByteArray × ByteArray × DHist × List DAct × List DSleep × ByteArray × Int
def cRec0 : Cd DRec0 := cSeq cS (cSeq cS (cSeq cHist (cSeq (cL cAct) (cSeq (cL cSleep) (cSeq cS cI)))))
def tRec0 : Tx DRec0 := (tSeq tS (tSeq tS (tSeq tHist (tSeq (tL tAct) (tSeq (tL tSleep) (tSeq tS tN))))))
theorem openRec0 : Opens 65 mRec0 cRec0 tRec0 := opens_struct (ts := [63, 9, 3]) (by kernel_rfl) (ofs_inline (ss := [9, 9, 59, 60, 61]) (by kernel_rfl) (by kernel_rfl) (ofs_cons (opens_str Tryz.underlying9) (ofs_cons (opens_str Tryz.underlying9) (ofs_cons openHist (ofs_cons (opens_list Tryz.underlying60 mAct_law.pos (by kernel_rfl) openAct) (ofs_cons (opens_list Tryz.underlying61 mSleep_law.pos (by kernel_rfl) openSleep) (ofs_cons (opens_str Tryz.underlying9) (ofs_one (opens_i64 Tryz.underlying3)))))))))
def tRec : Tx DRec := fun n x => tRec0 n (x.1, x.2.1, x.2.2.2.2.1, x.2.2.2.2.2.1, x.2.2.2.2.2.2, x.2.2.1, x.2.2.2.1)
theorem openRec : Opens 65 mRec cRec tRec := fun H enc W n cs y h => by
  obtain ⟨⟨i, q, hh, ac, sl, pa, nn⟩, h1, ⟨o1, o2, o3, o4, o5, o6, o7⟩, h3⟩ := openRec0 H enc W n cs y h
  exact ⟨(i, q, pa, nn, hh, ac, sl), h1, ⟨o1, o2, o6, o7, o3, o4, o5⟩, h3⟩
def tShop : Tx DShop := (tSeq tN (tSeq (tL tRec) (tSeq tDesk (tSeq (tL tJob) (tSeq tN (tSeq (tL tWorker) tN))))))
theorem openShop : Opens 35 mShop cShop tShop := opens_struct (ts := [2, 25, 31, 32, 3, 33, 4]) (by kernel_rfl) (ofs_cons (opens_i64 Tryz.underlying2) (ofs_cons (opens_list Tryz.underlying25 mRec_law.pos (by kernel_rfl) openRec) (ofs_cons openDesk (ofs_cons (opens_list Tryz.underlying32 mJob_law.pos (by kernel_rfl) openJob) (ofs_cons (opens_i64 Tryz.underlying3) (ofs_cons (opens_list Tryz.underlying33 mWorker_law.pos (by kernel_rfl) openWorker) (ofs_one (opens_bool Tryz.underlying4))))))))
theorem shopSz_of {x : DShop} (h : tShop 140737488351232 x) : shopSz x := fun y hy z hz => by
  have h1 := h.2.1 y hy
  exact (h1.2.2.1.2.2.1 z hz).2.2.1
end Go.Proofs.YtckooioikcenmaaGreat

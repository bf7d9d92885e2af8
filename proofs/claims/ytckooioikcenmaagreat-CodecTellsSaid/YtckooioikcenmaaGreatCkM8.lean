/- From a law's walk to its row: what holds of every law here: it returns true, and nothing that was there has turned. Conditions: none. -/
import Derived.Test.YtckooioikcenmaaGreatRows
import Derived.Test.YtckooioikcenmaaGreatCkM0
import Derived.ProofKit
import Derived.Lay
import Derived.Carry
import Derived.Test.YtckooioikcenmaaGreatCkM7
import Derived.OpenShut
import Derived.SizedLaws
import Derived.Handed
namespace Go.Proofs.YtckooioikcenmaaGreat
open Go.ChangeShapes Go.WideShapes Go.ChangeAt Go.RowKit
theorem below_trodAll {H : Type} {enc : TypeId × Value → H} {P : Program} (hl : laidOutB P = true) {W W' : World} (hb : Below W.heap.size W W') :
    ∀ (ts : List TypeId) (vs : List Value) (ds : List (DataW H)) (ps : List MemPlace), (ts.all fun t => P.readableRec t && decide (t < P.types.size)) = true →
      DataW.TrodAll enc P W 0 (fun _ => true) true ts vs ds ps → (∀ x ∈ ps, x.block < W.heap.size) → DataW.TrodAll enc P W' 0 (fun b => decide (b < W.heap.size)) true ts vs ds ps
  | [], vs, ds, ps, _, h, _ => by
    cases vs <;> cases ds <;> simp [DataW.TrodAll] at h ⊢
    exact h
  | t :: ts, vs, ds, ps, hr, h, hlt => by
    cases vs with
    | nil => simp [DataW.TrodAll] at h
    | cons v vs =>
      cases ds with
      | nil => simp [DataW.TrodAll] at h
      | cons d ds =>
        obtain ⟨p, q, h1, h2, rfl⟩ := h
        simp only [List.all_cons, Bool.and_eq_true, decide_eq_true_eq] at hr
        exact ⟨p, q, Below.trod hl hr.1.1 hr.1.2 h1 hb (fun x hx => hlt x (List.mem_append_left _ hx)),
          below_trodAll hl hb ts vs ds q (by simpa using hr.2) h2 (fun x hx => hlt x (List.mem_append_right _ hx)), rfl⟩
theorem law_post {H : Type} {enc : TypeId × Value → H} {P : Program} {f : Func} {s : ChangeSpec} {apart : Bool} {W W' : World} {args : Array Value} {ds gs : List (DataW H)} {ps : List MemPlace} {tb : TypeId}
    (hl : laidOutB P = true) (hr : (f.params.toList.all fun t => P.readableRec t && decide (t < P.types.size)) = true) (hres : f.resultTypes = #[tb]) (hbool : P.underlying tb = some .bool)
    (hsv : s.vars = []) (hfn : ∀ ds : List (DataW H), ds.length = f.params.size → s.fn H ds = { results := [.lit (.bool true)], args := ds })
    (hW : DataW.Whole enc P f.params.toList s.vars apart W args.toList ds gs ps) (hb : Below W.heap.size W W') :
    s.post enc P f apart true false false W args (.bool true) W' := by
  have hlt := hW.lt
  have hW' := hW
  obtain ⟨p, q, hA, hV, rfl, _, _⟩ := hW
  rw [hsv] at hV
  obtain ⟨rfl, rfl⟩ : gs = [] ∧ q = [] := by
    cases gs with
    | nil => exact ⟨rfl, hV⟩
    | cons g r => exact absurd hV (by intro h; cases h)
  have hlen : ∀ (ts : List TypeId) (vs : List Value) (ds : List (DataW H)) (ps : List MemPlace), DataW.TrodAll enc P W 0 (fun _ => true) true ts vs ds ps → ds.length = ts.length := by
    intro ts
    induction ts with
    | nil => intro vs ds ps h; cases vs <;> cases ds <;> simp [DataW.TrodAll] at h ⊢
    | cons t ts ih =>
      intro vs ds ps h
      cases vs <;> cases ds <;> simp [DataW.TrodAll] at h ⊢
      obtain ⟨_, _, _, h2, _⟩ := h
      exact ih _ _ _ h2
  have e := hfn ds (by rw [hlen _ _ _ _ hA]; simp)
  refine ⟨ds, [], p ++ [], [], p, [], hW', ?_, ?_, ?_, hb.frame _, fun h => by cases h⟩
  · rw [List.append_nil, e, hres]
    exact trodAll_mk1 (shut_bool hbool true)
  · rw [List.append_nil, e]
    exact below_trodAll hl hb _ _ _ _ hr hA (fun x hx => hlt x (by simpa using hx))
  · rw [List.append_nil, e, hsv]; rfl
end Go.Proofs.YtckooioikcenmaaGreat
namespace Go.Proofs.YtckooioikcenmaaGreat
open Go.ChangeShapes Go.WideShapes Go.ChangeAt Go.RowKit Go.Joins Go.Deep
theorem cown : ownKnob Tryz.prog.godebug = none := by kernel_rfl
theorem claidOut : laidOutB Tryz.prog = true := by kernel_rfl
section
variable {H : Type} {enc : TypeId × Value → H} {W : World}
set_option maxRecDepth 100000 in
/-- a struct that comes in -/
theorem arg_struct {α : Type} {T : TypeId} {ts : List TypeId} {m : Mv α} {c : Cd α} {t : Tx α} (hs : structOk T ts = true) (ho : Opens T m c t) {base : Nat} {v : Value} {d : DataW H} {ps : List MemPlace} (hv : Value.okWide Tryz.prog W .any base T v) (hd : DataW.Trod enc Tryz.prog W 0 (fun _ => true) true T v d ps) :
    ∃ us x, v = .agg us.toArray ∧ m.rep W.heap.size W us x ∧ c.okr x ∧ ∀ N, (∀ k ∈ DataW.weights Tryz.prog T d, k ≤ N) → t N x := by
  unfold structOk at hs
  split at hs
  case h_2 => cases hs
  case h_1 fs hT =>
    obtain ⟨cs, rfl, _⟩ := okWide_struct hT hv
    obtain ⟨n, hf⟩ := hd
    obtain ⟨x, h1, h2, h3⟩ := ho H enc W n cs.toList (d, ps) hf
    exact ⟨cs.toList, x, by simp, h1, h2, h3⟩
theorem cells_u8 : Tryz.prog.cellsOf 5 = 1 := by kernel_rfl
set_option maxRecDepth 100000 in
theorem slice_ok {base len cap : Nat} {a : Addr} (h : Value.okWide Tryz.prog W .any base 36 (.slice (some a) len cap)) : a.spot = none ∧ a.block < W.heap.size := by
  unfold Value.okWide at h
  rw [Tryz.underlying36] at h
  simp only [Cell.okWide, Cell.ok, Tryz.underlying36] at h
  obtain ⟨_, _, h3⟩ := h
  obtain ⟨_, hs, row, cells, hsh, _⟩ := h3
  refine ⟨hs, ?_⟩
  by_cases hl : a.block < W.heap.size
  · exact hl
  · exfalso
    unfold World.shape? at hsh
    rw [Array.getElem?_eq_none (by omega)] at hsh
    simp at hsh
set_option maxRecDepth 100000 in
/-- bytes that come in -/
theorem open_bytes {base : Nat} {v : Value} {d : DataW H} {ps : List MemPlace} (hv : Value.okWide Tryz.prog W .any base 36 v) (hd : DataW.Trod enc Tryz.prog W 0 (fun _ => true) true 36 v d ps) : ∃ ys, RdB W v ys := by
  obtain ⟨a, len, cap, rfl⟩ := okWide_slice Tryz.underlying36 hv
  obtain ⟨n, h⟩ := hd
  replace h : DataW.trod enc Tryz.prog W 0 (fun _ => true) true n 36 [.slice a len cap] = some (d, ps) := h
  rcases open_ints Tryz.underlying36 Tryz.underlying5 cells_u8 h with ⟨h0, _⟩ | ⟨a, len, cap, zs, hcs, hb, hl, hm, hz, _, hc, hw⟩
  · injection h0 with h0
    exact ⟨[], .inl ⟨h0, rfl⟩⟩
  · injection hcs with hcs
    injection hcs with q1 q2 q3
    subst q1; subst q2; subst q3
    simp only [if_true] at hz
    obtain ⟨hsp, hlt⟩ := slice_ok hv
    obtain ⟨b, o, sp⟩ := a
    simp only at hsp hlt
    subst hsp
    have hlen : ((zs.take len).map fun z => UInt8.ofNat z.toNat).length = len := by rw [List.length_map, List.length_take]; omega
    refine ⟨(zs.take len).map fun z => UInt8.ofNat z.toNat, .inr ⟨b, o, cap, by rw [hlen], by rw [hlen]; exact hl, hm, hlt, fun j x hx => ?_⟩⟩
    rw [List.getElem?_map] at hx
    cases hz9 : (zs.take len)[j]? with
    | none => rw [hz9] at hx; simp at hx
    | some z =>
      rw [hz9] at hx
      simp only [Option.map_some, Option.some.injEq] at hx
      subst hx
      have hj : j < len := by
        have := (List.getElem?_eq_some_iff.1 hz9).1
        rw [List.length_take] at this; omega
      rw [List.getElem?_take, if_pos hj] at hz9
      have h1 := hc j (by omega)
      rw [addr_plus] at h1
      rw [h1]
      have h2 := hw z (List.mem_of_getElem? hz9)
      have h3 : 0 ≤ z ∧ z < 256 := by
        simp [Lit.wf, IntKind.min, IntKind.max, IntKind.signed, IntKind.bits] at h2
        omega
      have h4 : zs.getD j 0 = z := by simp [List.getD, hz9]
      rw [h4]
      have : ((UInt8.ofNat z.toNat).toNat : Int) = z := by simp; omega
      rw [this]
end
end Go.Proofs.YtckooioikcenmaaGreat

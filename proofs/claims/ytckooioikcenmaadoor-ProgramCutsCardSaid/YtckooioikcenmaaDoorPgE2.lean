/- CopyInstrs. Conditions: sizes a machine can have. -/
import Derived.Test.YtckooioikcenmaaDoorPgW8
import Derived.Test.YtckooioikcenmaaDoorKeep
import Derived.Maps.AppendAt
namespace Go.Proofs.YtckooioikcenmaaDoor
open Go.RowKit
theorem infoI : (Tryd.prog.info? 34).map (fun i => (i.zero, i.size, i.bytes)) = some (some (.agg #[.int .u8 0, .int .i64 0, .int .i64 0, .int .i64 0, .int .i64 0, .string ⟨#[]⟩]), 6, 56) := by kernel_rfl
theorem infoI_parts : ∃ i0, Tryd.prog.info? 34 = some i0 ∧ i0.zero = some (.agg #[.int .u8 0, .int .i64 0, .int .i64 0, .int .i64 0, .int .i64 0, .string ⟨#[]⟩]) ∧ i0.size = 6 ∧ i0.bytes = 56 := by
  have h := infoI
  cases hi : Tryd.prog.info? 34 with
  | none => rw [hi] at h; cases h
  | some i0 =>
    rw [hi] at h
    simp only [Option.map_some, Option.some.injEq, Prod.mk.injEq] at h
    exact ⟨i0, rfl, h.1, h.2.1, h.2.2⟩
def flat (xs : List Ins) : List Value := xs.flatMap fun x => x.cells.toList
theorem flat_length (xs : List Ins) : (flat xs).length = xs.length * 6 := by
  induction xs with
  | nil => rfl
  | cons x r ih =>
    simp only [flat, List.flatMap_cons, List.length_append, List.length_cons] at ih ⊢
    rw [ih]
    simp [Ins.cells]
    omega
theorem flat_append (xs ys : List Ins) : flat (xs ++ ys) = flat xs ++ flat ys := by simp [flat]
/-- instructions that the call owns -/
def OwnCode (base : Nat) (w : World) (v : Value) (xs : List Ins) : Prop := w.ownsRow base 34 6 v xs.length (flat xs)
theorem OwnCode.nil (base : Nat) (w : World) : OwnCode base w (.slice none 0 0) [] := World.ownsRow_nil _ _ _ _
/-- 'append(s, x)' of one instruction that has just been laid in a block of its own -/
theorem wpList_append_ins {ops : Array Oper} {rest : List Oper} {o : Oper} {a : Act} {w : World} {Q : Exit → Act → World → Prop} (hgd : o.guard = none) (s x : Operand)
    (ho : o.op = .call { callee := .builtin .append, args := #[s, x], argTypes := #[22, 22] })
    (base : Nat) (v : Value) (xs : List Ins) (y : Ins) (g : Nat) (hs : a.eval s = v) (hown : OwnCode base w v xs) (hx : a.eval x = .slice (some ⟨g, 0, none⟩) 1 1) (hc : w.heap[g]? = some (.cells y.cells 34))
    (hl : (xs.length + 1) * 56 ≤ 140737488355328) (hb : base ≤ w.heap.size)
    (h : ∀ v' w', OwnCode base w' v' (xs ++ [y]) → Ext w w' v v' → wpList Tryd.prog ops Q rest (a.put o.dst v') w') : wpList Tryd.prog ops Q (o :: rest) a w := by
  obtain ⟨i0, hi, hz0, hz1, hz2⟩ := infoI_parts
  refine wpList_append_own_at _ hgd s x 22 ho base 34 i0 _ 6 56 Tryd.underlying22 hi hz0 hz1 hz2 rfl (by decide) v xs.length _ hs hown ⟨g, 0, none⟩ 1 1 y.cells.toList hx rfl ?_ ?_ ?_ ?_ hb ?_
  · intro j u hj
    rw [show (⟨g, 0, none⟩ : Addr).add j = ⟨g, j, none⟩ by unfold Addr.add; split <;> simp_all, blk_cell hc]
    simpa using hj
  · intro u hu
    simp [Ins.cells] at hu
    rcases hu with rfl | rfl | rfl | rfl | rfl | rfl <;> rfl
  · simp only [maxLen]; omega
  · omega
  · intro v' w' h1 h2 _ h3
    refine h v' w' ?_ (Ext.of_at h2 h3)
    unfold OwnCode
    rw [flat_append, List.length_append]
    simpa [flat] using h1
/-- what CopyInstrs gives back -/
def CopyPost (xs : List Ins) (w : World) (e : Ending) (w' : World) : Prop := ∃ v, e = .returned v ∧ OwnCode w.heap.size w' v xs ∧ Below w.heap.size w w'
theorem ext_below {base n size : Nat} {e : TypeId} {v v' : Value} {xs : List Value} {w0 w w' : World} (h : Ext w w' v v') (ho : w.ownsRow base e size v n xs) (hb : Below base w0 w) (hB : base ≤ w0.heap.size) : Below base w0 w' :=
  ⟨h.1.os.trans hb.os, h.1.tape.trans hb.tape, h.1.output.trans hb.output, Nat.le_trans hb.size h.1.size, fun k hk => by
    by_cases hlt : k < w.heap.size
    · refine (h.1.block k hlt ?_).trans (hb.block k hk)
      rcases ho.2 with ⟨rfl, _⟩ | ⟨g, cap, cur, rfl, hg, _⟩
      · intro e; cases e
      · intro e
        have : k = g := by simpa [Value.ownBlock] using e
        omega
    · have := hb.size
      omega⟩
set_option maxRecDepth 20000 in
set_option maxHeartbeats 1000000 in
theorem copy_any (A : Option Addr) (ln cp : Nat) (xs : List Ins) (hln : xs.length = ln) (h500 : ln ≤ 500) (w : World) (hc : CodeAt w (.slice A ln cp) xs) :
    Calls Tryd.prog 14 #[.slice A ln cp] w (CopyPost xs w) := by
  have HC := Lib.hid hc
  clear hc
  have HL := Lib.hid hln
  clear hln
  go_enter Tryd.func14, Tryd.ntmps14
  go_wp2
  go_loopw [3, 4] (fun v i wr => ∃ k : Nat, i = .int .i64 k ∧ k ≤ ln ∧ Hid (OwnCode w.heap.size wr v (xs.take k)) ∧ Hid (Below w.heap.size w wr)) (fun _ i wr => ln - (intOf i).toNat)
  case atStart => exact ⟨0, rfl, by omega, OwnCode.nil _ _, Below.refl _ _⟩
  case round =>
    obtain ⟨k, rfl, hk, HO, HB⟩ := hrel
    by_cases hk4 : k < ln
    · obtain ⟨x, hxk⟩ : ∃ x, xs[k]? = some x := ⟨xs[k]'(by rw [HL.out]; exact hk4), List.getElem?_eq_getElem _⟩
      have htk : xs.take (k + 1) = xs.take k ++ [x] := by
        obtain ⟨hl, he⟩ := List.getElem?_eq_some_iff.1 hxk
        rw [List.take_add_one, hxk]; rfl
      have HTK := Lib.hid htk
      clear htk
      obtain ⟨b', o, rfl, hI⟩ : ∃ b' o, A = some ⟨b', o, none⟩ ∧ InsAt wr b' (o + k * 6) x := by
        rcases HC.out.below HB.out with ⟨h9, h8⟩ | ⟨b', o, c, h9, h10, h11, h12, h13⟩
        · rw [h8] at hxk; simp at hxk
        · injection h9 with h9
          exact ⟨b', o, h9, h13 k x hxk⟩
      clear hxk
      obtain ⟨d0, d1, d2, d3, d4, d5⟩ := hI
      have hsz : Hid (((xs.take k).length + 1) * 56 ≤ 140737488355328) := by
        show _ ≤ _
        rw [List.length_take]; omega
      have HO2 : Hid (OwnCode w.heap.size (wr.alloc (.cells x.cells 34)) u3 (xs.take k)) := World.ownsRow.alloc HO.out _
      have HAT := Lib.hid (alloc_at wr (.cells x.cells 34))
      have HSZ : Hid (w.heap.size ≤ (wr.alloc (.cells x.cells 34)).heap.size) := by
        show _ ≤ _
        have := HB.out.size
        simp; omega
      have HB2 : Hid (Below w.heap.size w (wr.alloc (.cells x.cells 34))) := HB.out.alloc HB.out.size _
      unfold Ins.cells at HO2 HAT HSZ HB2
      go_wp2_with (at_builtin; refine wpList_append_ins rfl (.tmp 11) (.tmp 16) rfl w.heap.size u3 (xs.take k) x wr.heap.size rfl HO2.out rfl HAT.out hsz.out HSZ.out ?_; intro v' w' hown hext)
      have hb9 : Below w.heap.size w w' := ext_below hext HO2.out HB2.out (Nat.le_refl _)
      rw [← HTK.out] at hown
      have HOWN := Lib.hid hown
      have HB9 := Lib.hid hb9
      clear hown hext hb9
      go_wp2
      go_roundw
      case rel => exact ⟨k + 1, by go_num, by omega, HOWN, HB9⟩
      case measure => simp [intOf]; omega
    · obtain rfl : k = ln := by omega
      have HO3 : Hid (OwnCode w.heap.size wr u3 xs) := by
        have := HO.out
        rw [List.take_of_length_le (by rw [HL.out]; exact Nat.le_refl _)] at this
        exact this
      go_wp2
      go_ret
      exact ⟨_, rfl, HO3.out, HB.out⟩
end Go.Proofs.YtckooioikcenmaaDoor

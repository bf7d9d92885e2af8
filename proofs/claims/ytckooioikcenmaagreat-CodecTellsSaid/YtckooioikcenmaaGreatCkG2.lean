/- Great of a history, of a desk. Conditions: sizes a machine can have. -/
import Derived.Test.YtckooioikcenmaaGreatCkG1
namespace Go.Proofs.YtckooioikcenmaaGreat
open Go.RowKit
def sumS (l : List DCmd) : Nat := (l.map fun x => x.2.2.1.size).sum
theorem sumS_take {l : List DCmd} {k : Nat} {x : DCmd} (hx : l[k]? = some x) : sumS (l.take (k + 1)) = sumS (l.take k) + x.2.2.1.size := by
  unfold sumS
  rw [List.take_add_one, hx]
  simp
theorem sumS_le {M : Nat} : ∀ l : List DCmd, (∀ x ∈ l, x.2.2.1.size ≤ M) → sumS l ≤ l.length * M
  | [], _ => by simp [sumS]
  | x :: r, h => by
    have h1 := sumS_le r (fun y hy => h y (by simp [hy]))
    have h2 := h x (by simp)
    have h3 : sumS (x :: r) = x.2.2.1.size + sumS r := by simp [sumS]
    rw [h3, List.length_cons, Nat.add_mul]
    omega
def gHist (qp : ByteArray) (qcs : List DCmd) (qts : List Int) (qks : List DKnown) (qss : List Int) : Bool :=
  decide (250 < qcs.length ∨ 250 < qts.length ∨ 300 < qks.length ∨ 300 < qss.length ∨ 3000 < qp.size ∨ 30000 < sumS qcs)
set_option maxRecDepth 20000 in
set_option maxHeartbeats 2000000 in
theorem great12_any (B : Nat) (qp : ByteArray) (qa qo qov qln qla : Int) (qst qcl : Bool) (v1 v2 v3 v4 : Value) (qcs : List DCmd) (qts : List Int) (qks : List DKnown) (qss : List Int) (w : World)
    (hv1 : LRep mCmd B w v1 qcs) (hv2 : LRep mI B w v2 qts) (hv3 : LRep mKnown B w v3 qks) (hv4 : LRep mI B w v4 qss) (hB : B ≤ w.heap.size) (hsz : ∀ x ∈ qcs, x.2.2.1.size ≤ 140737488351232) :
    Calls Tryz.prog 48 #[.agg #[.string qp, .int .i64 qa, v1, v2, v3, v4, .bool qst, .bool qcl, .int .i64 qo, .int .i64 qov, .int .i64 qln, .int .i64 qla]] w (GPost (gHist qp qcs qts qks qss) w) := by
  obtain ⟨A1, c1, rfl⟩ := hv1.form
  obtain ⟨A2, c2, rfl⟩ := hv2.form
  obtain ⟨A3, c3, rfl⟩ := hv3.form
  obtain ⟨A4, c4, rfl⟩ := hv4.form
  have hm := hv1.max
  have hb : Below w.heap.size w (w.alloc (.cells #[.string qp, .int .i64 qa, .slice A1 qcs.length c1, .slice A2 qts.length c2, .slice A3 qks.length c3, .slice A4 qss.length c4, .bool qst, .bool qcl, .int .i64 qo, .int .i64 qov, .int .i64 qln, .int .i64 qla] 59)) := (Below.refl _ _).alloc (Nat.le_refl _) _
  have HB := Lib.hid hb
  have HV := Lib.hid (hv1.keep mCmd_law (hb.mono hB))
  have HSZ := Lib.hid hsz
  clear hv1 hv2 hv3 hv4 hb hsz
  obtain ⟨ln, hln⟩ : ∃ ln, qcs.length = ln := ⟨_, rfl⟩
  have HL := Lib.hid hln
  have HD : Hid (gHist qp qcs qts qks qss = decide (250 < ln ∨ 250 < qts.length ∨ 300 < qks.length ∨ 300 < qss.length ∨ 3000 < qp.size ∨ 30000 < sumS qcs)) := by show _ = _; rw [← hln]; rfl
  rw [hln] at hm HV HB ⊢
  clear hln
  by_cases hg : 250 < ln ∨ 250 < qts.length ∨ 300 < qks.length ∨ 300 < qss.length ∨ 3000 < qp.size
  · have HT : Hid (gHist qp qcs qts qks qss = true) := by show _ = _; rw [HD.out, decide_eq_true_iff]; omega
    clear HD
    have hgo : ∀ P : Prop, (250 < ln → P) → (¬ 250 < ln → 250 < qts.length → P) → (¬ 250 < ln → ¬ 250 < qts.length → 300 < qks.length → P) → (¬ 250 < ln → ¬ 250 < qts.length → ¬ 300 < qks.length → 300 < qss.length → P) → (¬ 250 < ln → ¬ 250 < qts.length → ¬ 300 < qks.length → ¬ 300 < qss.length → 3000 < qp.size → P) → P := by
      intro P h1 h2 h3 h4 h5
      by_cases e1 : 250 < ln
      · exact h1 e1
      by_cases e2 : 250 < qts.length
      · exact h2 e1 e2
      by_cases e3 : 300 < qks.length
      · exact h3 e1 e2 e3
      by_cases e4 : 300 < qss.length
      · exact h4 e1 e2 e3 e4
      exact h5 e1 e2 e3 e4 (by omega)
    clear hg
    refine hgo _ ?_ ?_ ?_ ?_ ?_
    · intro e1
      clear hgo
      go_enter Tryz.func48, Tryz.ntmps48
      go_wp2
      go_ret
      exact ⟨by rw [HT.out]; rfl, HB.out⟩
    · intro e1 e2
      clear hgo
      go_enter Tryz.func48, Tryz.ntmps48
      go_wp2
      go_ret
      exact ⟨by rw [HT.out]; rfl, HB.out⟩
    · intro e1 e2 e3
      clear hgo
      go_enter Tryz.func48, Tryz.ntmps48
      go_wp2
      go_ret
      exact ⟨by rw [HT.out]; rfl, HB.out⟩
    · intro e1 e2 e3 e4
      clear hgo
      go_enter Tryz.func48, Tryz.ntmps48
      go_wp2
      go_ret
      exact ⟨by rw [HT.out]; rfl, HB.out⟩
    · intro e1 e2 e3 e4 e5
      clear hgo
      go_enter Tryz.func48, Tryz.ntmps48
      go_wp2
      go_ret
      exact ⟨by rw [HT.out]; rfl, HB.out⟩
  · have e1 : ¬ 250 < ln := by omega
    have e2 : ¬ 250 < qts.length := by omega
    have e3 : ¬ 300 < qks.length := by omega
    have e4 : ¬ 300 < qss.length := by omega
    have e5 : ¬ 3000 < qp.size := by omega
    have HT : Hid (gHist qp qcs qts qks qss = decide (30000 < sumS qcs)) := by show _ = _; rw [HD.out]; simp [e1, e2, e3, e4, e5]
    clear hg HD
    have hmax : ∀ k, sumS (qcs.take k) ≤ 35184372087808000 := by
      intro k
      have h1 := sumS_le (M := 140737488351232) (qcs.take k) (fun x hx => HSZ.out x (List.mem_of_mem_take hx))
      have h2 : (qcs.take k).length ≤ 250 := by rw [List.length_take, HL.out]; omega
      have h3 := Nat.mul_le_mul_right 140737488351232 h2
      omega
    have HMX := Lib.hid hmax
    clear hmax
    go_enter Tryz.func48, Tryz.ntmps48
    go_wp2
    go_loopw [3, 4, 36] (fun n _ i wr => ∃ (k q : Nat), i = .int .i64 k ∧ n = .int .i64 q ∧ wr = w.alloc (.cells #[.string qp, .int .i64 qa, .slice A1 ln c1, .slice A2 qts.length c2, .slice A3 qks.length c3, .slice A4 qss.length c4, .bool qst, .bool qcl, .int .i64 qo, .int .i64 qov, .int .i64 qln, .int .i64 qla] 59) ∧ k ≤ ln ∧ Hid (q = sumS (qcs.take k))) (fun _ _ i _ => ln - (intOf i).toNat)
    case atStart => exact ⟨0, 0, rfl, rfl, rfl, by omega, by simp [sumS, Hid]⟩
    case round =>
      obtain ⟨k, q, rfl, rfl, rfl, hk, HE⟩ := hrel
      by_cases hk4 : k < ln
      · obtain ⟨x, hxk⟩ : ∃ n, qcs[k]? = some n := ⟨qcs[k]'(by rw [HL.out]; exact hk4), List.getElem?_eq_getElem _⟩
        obtain ⟨b, o, us, rfl, hbb, hus, hrep⟩ := HV.out.at hxk
        obtain ⟨qn, qk, qs, qa', qp'⟩ := x
        have hf := mCmd_form hrep
        subst hf
        have d0 := hus 2 _ rfl
        change World.cell? _ ⟨b, o + k * 5 + 2, none⟩ = some (.string qs) at d0
        have HX : Hid (q + qs.size = sumS (qcs.take (k + 1))) := by show _ = _; rw [sumS_take hxk, HE.out]
        have hq : q + qs.size ≤ 35184372087808000 := by rw [HX.out]; exact HMX.out _
        clear hxk hus hrep
        go_wp2
        go_roundw
        case rel => exact ⟨k + 1, q + qs.size, by go_num, by go_num, by first | trivial | rfl, by omega, HX⟩
        case measure => simp [intOf]; omega
      · obtain rfl : k = ln := by omega
        have HF : Hid (q = sumS qcs) := by show _ = _; rw [HE.out, List.take_of_length_le (by rw [HL.out]; exact Nat.le_refl _)]
        go_wp2
        go_ret
        exact ⟨by rw [HT.out, ← HF.out]; simp; omega, HB.out⟩
end Go.Proofs.YtckooioikcenmaaGreat

/- A batch's bytes: what is read of them; unlike batches have unlike bytes. No program in sight. Conditions: none. -/
import Derived.Test.YthehpafkaefohaaDoorCkM15
import Derived.Test.YthehpafkaefohaaDoorCkM1
import Derived.Test.YthehpafkaefohaaDoorCkM22
import Derived.Test.YthehpafkaefohaaDoorCkM19
import Derived.Test.YthehpafkaefohaaDoorRows
import Derived.Test.YthehpafkaefohaaDoorCkM23
import Derived.Lib.SmallJoins
import Derived.Deep.Slices
import Derived.Deep.Fields
import Derived.ChangeSlices
namespace Go.Proofs.YthehpafkaefohaaDoor
/-- strings, read one behind the other -/
def blobs (ys : List UInt8) : Nat → Int → List (List UInt8) → Option (List (List UInt8) × Int)
  | 0, p, acc => some (acc, p)
  | k + 1, p, acc => if (getB ys p 1048576).2.2 ≠ 0 then none else blobs ys k (getB ys p 1048576).2.1 (acc ++ [(getB ys p 1048576).1])
def parseB (ys : List UInt8) : Option (Nat × List (List UInt8)) :=
  if (getU ys 0).2.2 ≠ 0 ∨ (getU ys 0).1 < 1 ∨ 1152921504606846976 < (getU ys 0).1 ∨ 1048576 < ys.length then none
  else if (getU ys (getU ys 0).2.1).2.2 ≠ 0 ∨ (getU ys (getU ys 0).2.1).1 < 1 ∨ 1000 < (getU ys (getU ys 0).2.1).1 then none
  else match blobs ys (getU ys (getU ys 0).2.1).1 (getU ys (getU ys 0).2.1).2.1 [] with
    | none => none
    | some (l, p) => if p < ys.length then none else some ((getU ys 0).1, l)
theorem blobs_back {ys : List UInt8} : ∀ (k : Nat) (l : List UInt8) (acc res : List (List UInt8)) (p : Int), (∃ r, ys = l ++ r) → blobs ys k l.length acc = some (res, p) →
    ∃ xs r, res = acc ++ xs ∧ xs.length = k ∧ ys = l ++ xs.flatMap blobB ++ r ∧ p = (l ++ xs.flatMap blobB).length
  | 0, l, acc, res, p, ⟨r, hr⟩, h => by
    simp only [blobs, Option.some.injEq, Prod.mk.injEq] at h
    exact ⟨[], r, by simp [h.1], rfl, by simpa using hr, by simp [← h.2]⟩
  | k + 1, l, acc, res, p, hp, h => by
    simp only [blobs] at h
    split at h
    · cases h
    · rename_i he
      have he0 : (getB ys l.length 1048576).2.2 = 0 := Classical.not_not.1 he
      obtain ⟨h1, h2, h3⟩ := getB_back hp he0
      rw [h2] at h
      obtain ⟨xs, r, a1, a2, a3, a4⟩ := blobs_back k _ _ _ _ h3 h
      exact ⟨(getB ys l.length 1048576).1 :: xs, r, by rw [a1]; simp, by simp [a2], by rw [List.flatMap_cons]; simpa using a3, by rw [a4, List.flatMap_cons]; simp⟩
theorem parse_back {ys : List UInt8} {n : Nat} {l : List (List UInt8)} (h : parseB ys = some (n, l)) : ys = batchB n l ∧ 1 ≤ n ∧ n ≤ 1152921504606846976 ∧ 1 ≤ l.length ∧ l.length ≤ 1000 ∧ ys.length ≤ 1048576 := by
  unfold parseB at h
  split at h
  · cases h
  rename_i c1
  split at h
  · cases h
  rename_i c2
  have e0 : (getU ys 0).2.2 = 0 := Classical.not_not.1 fun e => c1 (.inl e)
  obtain ⟨g1, g2', g3⟩ : (getU ys 0).1 < 18446744073709551616 ∧ (getU ys 0).2.1 = ((uv (getU ys 0).1).length : Int) ∧ ∃ r, ys = uv (getU ys 0).1 ++ r := getU_back (ys := ys) (l := []) ⟨ys, rfl⟩ e0
  have e1 : (getU ys (getU ys 0).2.1).2.2 = 0 := Classical.not_not.1 fun e => c2 (.inl e)
  rw [g2'] at e1 c2 h
  obtain ⟨k1, k2, k3⟩ := getU_back g3 e1
  rw [k2] at h
  split at h
  · cases h
  · rename_i res p hb
    split at h
    · cases h
    · rename_i c3
      simp only [Option.some.injEq, Prod.mk.injEq] at h
      obtain ⟨h1, h2⟩ := h
      obtain ⟨xs, r, a1, a2, a3, a4⟩ := blobs_back _ _ _ _ _ k3 hb
      have hl : ys.length = (uv (getU ys 0).1 ++ uv (getU ys ((uv (getU ys 0).1).length : Int)).1 ++ xs.flatMap blobB).length + r.length := by
        conv => lhs; rw [a3]
        rw [List.length_append]
      have hr : r = [] := by
        apply List.eq_nil_of_length_eq_zero
        omega
      have hx : res = xs := by simpa using a1
      subst hx
      subst h2
      subst h1
      refine ⟨?_, by omega, by omega, by omega, by omega, by omega⟩
      unfold batchB
      rw [a2]
      rw [hr, List.append_nil] at a3
      exact a3
theorem blobs_inj : ∀ {a b : List (List UInt8)} {r s : List UInt8}, a.length = b.length → (∀ x ∈ a, x.length < 18446744073709551616) → (∀ x ∈ b, x.length < 18446744073709551616) → a.flatMap blobB ++ r = b.flatMap blobB ++ s → a = b
  | [], [], _, _, _, _, _, _ => rfl
  | [], _ :: _, _, _, h, _, _, _ => by simp at h
  | _ :: _, [], _, _, h, _, _, _ => by simp at h
  | x :: a, y :: b, r, s, h, h1, h2, e => by
    simp only [List.flatMap_cons, blobB, List.append_assoc] at e
    obtain ⟨e1, e2⟩ := uv_inj (h1 x (List.mem_cons_self ..)) (h2 y (List.mem_cons_self ..)) e
    obtain ⟨e3, e4⟩ := List.append_inj e2 e1
    subst e3
    congr 1
    exact blobs_inj (by simpa using h) (fun z hz => h1 z (List.mem_cons_of_mem _ hz)) (fun z hz => h2 z (List.mem_cons_of_mem _ hz)) e4
/-- unlike batches have unlike bytes -/
theorem batch_inj {n m : Nat} {a b : List (List UInt8)} (hn : n < 18446744073709551616) (hm : m < 18446744073709551616) (ha : a.length < 18446744073709551616) (hb : b.length < 18446744073709551616) (h1 : ∀ x ∈ a, x.length < 18446744073709551616) (h2 : ∀ x ∈ b, x.length < 18446744073709551616) (h : batchB n a = batchB m b) : n = m ∧ a = b := by
  unfold batchB at h
  simp only [List.append_assoc] at h
  obtain ⟨e1, e2⟩ := uv_inj hn hm h
  obtain ⟨e3, e4⟩ := uv_inj ha hb e2
  exact ⟨e1, blobs_inj (r := []) (s := []) e3 h1 h2 (by simpa using e4)⟩
theorem batch_first {n : Nat} (h : 1 ≤ n) (a : List (List UInt8)) : ∃ x r, batchB n a = x :: r ∧ x ≠ 0 := by
  have : ∃ x r, uv n = x :: r ∧ x ≠ 0 := by
    by_cases h2 : n < 128
    · rw [uv_small h2]
      refine ⟨_, _, rfl, fun e => ?_⟩
      have := congrArg UInt8.toNat e
      rw [UInt8.toNat_ofNat'] at this
      simp at this
      omega
    · rw [uv_big h2]
      refine ⟨_, _, rfl, fun e => ?_⟩
      have := congrArg UInt8.toNat e
      rw [UInt8.toNat_ofNat'] at this
      simp at this
      omega
  obtain ⟨x, r, h1, h2⟩ := this
  exact ⟨x, _, by unfold batchB; rw [h1]; rfl, h2⟩
end Go.Proofs.YthehpafkaefohaaDoor
namespace Go.Proofs.YthehpafkaefohaaDoor
open Go.RowKit
theorem by_list {base : Nat} {w : World} {v : Value} {yss : List (List UInt8)} (h : LOwn 43 mBy base w v yss) : RdL w v yss := by
  by_cases hn : yss = []
  · subst hn
    obtain ⟨cells, ho, _⟩ := h
    rcases ho.2 with ⟨rfl, _⟩ | ⟨g, cap, cur, rfl, _, hh, h3, h4, _⟩
    · exact .inl ⟨none, 0, rfl, Nat.zero_le _, rfl⟩
    · exact .inr ⟨g, 0, cap, rfl, h3, h4, blk_lt hh, fun j y hj => by simp at hj⟩
  · obtain ⟨x, hx⟩ : ∃ x, yss[0]? = some x := ⟨_, List.getElem?_eq_getElem (List.length_pos_iff.2 hn)⟩
    obtain ⟨g, c, cur, us, rfl, hh, h3, h4, _, _⟩ := h.elem hx
    refine .inr ⟨g, 0, c, rfl, h3, h4, blk_lt hh, fun j y hj => ?_⟩
    obtain ⟨g', c', cur', us', he, hh', _, _, ⟨u, rfl, hu⟩, h6⟩ := h.elem hj
    injection he with he
    injection he with he
    injection he with he
    subst he
    refine ⟨u, ?_, .inl hu.reads⟩
    rw [blk_cell hh']
    have := h6 0 u rfl
    rw [show j * mBy.n + 0 = 0 + j by show j * 1 + 0 = 0 + j; omega] at this
    exact this
theorem own_mono {b b2 n size : Nat} {T : TypeId} {w : World} {v : Value} {cells : List Value} (h : w.ownsRow b T size v n cells) (hb : b2 ≤ b) : w.ownsRow b2 T size v n cells :=
  ⟨h.1, h.2.imp id (fun ⟨g, cap, cur, h1, h2, h3⟩ => ⟨g, cap, cur, h1, Nat.le_trans hb h2, h3⟩)⟩
theorem by_mono {b b2 : Nat} {w : World} {v : Value} {yss : List (List UInt8)} (h : LOwn 43 mBy b w v yss) (hb : b2 ≤ b) : LOwn 43 mBy b2 w v yss := by
  obtain ⟨cells, h1, h2⟩ := h
  refine ⟨cells, own_mono h1 hb, fun j x hx => ?_⟩
  obtain ⟨u, e, hu⟩ := h2 j x hx
  exact ⟨u, e, bytes_mono hu hb⟩
/-- what Parse answers: R is what the bytes are -/
def PPost (R : Option (Nat × List (List UInt8))) (w : World) (e : Ending) (w' : World) : Prop :=
  ∃ (N E : Int) (u : Value), e = .returned (.tuple #[.agg #[.int .i64 N, u], .int .i64 E]) ∧ Below w.heap.size w w' ∧ (match R with | some (n, l) => N = n ∧ E = 0 ∧ LOwn 43 mBy w.heap.size w' u l | none => N = 0 ∧ E = 10 ∧ u = .slice none 0 0)
theorem PPost.none {w w' : World} (hb : Below w.heap.size w w') : PPost none w (.returned (.tuple #[.agg #[.int .i64 0, .slice none 0 0], .int .i64 10])) w' := ⟨_, _, _, rfl, hb, rfl, rfl, rfl⟩
end Go.Proofs.YthehpafkaefohaaDoor
namespace Go.Proofs.YthehpafkaefohaaDoor
open Go.RowKit
end Go.Proofs.YthehpafkaefohaaDoor
namespace Go.Proofs.YthehpafkaefohaaDoor
open Go.RowKit
theorem set_stay {ts : List TypeId} {w : World} {b : Nat} {cs : Array Value} {T : TypeId} {fr : Nat × Nat} (hb : w.heap[b]? = some (.cells cs T fr)) (hT : T ∉ ts) (o : Nat) (z : Value) : Stay ts w (w.setCell ⟨b, o, none⟩ z) := fun k c T' fr' hT' hh => by
  refine blk_set_ne hh z ?_
  intro e
  have e : k = b := e
  subst e
  rw [hb] at hh
  injection hh with hh
  injection hh with _ h2
  exact hT (h2 ▸ hT')
theorem getB_le {ys : List UInt8} {a most : Int} (hl : ys.length ≤ 140737488355328) (h : (getB ys a most).2.2 = 0) : 0 ≤ (getB ys a most).2.1 ∧ (getB ys a most).2.1 ≤ ys.length := by
  have hr := getU_range ys a hl
  revert h
  unfold getB gB
  split
  · intro _; simp
  · split
    · intro h; simp at h
    · split
      · intro h; simp at h
      · intro _; simp only; omega
theorem getB_len {ys : List UInt8} {a most : Int} (hl : ys.length ≤ 140737488355328) : (getB ys a most).1.length ≤ ys.length := by
  unfold getB gB
  split
  · simp
  · split
    · simp
    · split
      · simp
      · simp only [List.length_take, List.length_drop]; omega
theorem blobs_succ (ys : List UInt8) (k : Nat) (p : Int) (acc : List (List UInt8)) : blobs ys (k + 1) p acc = if (getB ys p 1048576).2.2 ≠ 0 then none else blobs ys k (getB ys p 1048576).2.1 (acc ++ [(getB ys p 1048576).1]) := rfl
theorem two_set {w : World} {r : Nat} {x y : Value} {T : TypeId} (h : w.heap[r]? = some (.cells #[x, y] T)) (a b : Value) : ((w.setCell ⟨r, 0, none⟩ a).setCell ⟨r, 1, none⟩ b).heap[r]? = some (.cells #[a, b] T) := by
  have h1 := blk_set h 0 a
  have h2 := blk_set h1 1 b
  simpa using h2
theorem two_stay {ts : List TypeId} {w : World} {r : Nat} {x y : Value} {T : TypeId} (h : w.heap[r]? = some (.cells #[x, y] T)) (hT : T ∉ ts) (a b : Value) : Stay ts w ((w.setCell ⟨r, 0, none⟩ a).setCell ⟨r, 1, none⟩ b) :=
  (set_stay h hT 0 a).trans (set_stay (blk_set h 0 a) hT 1 b)
theorem two_below {B : Nat} {w0 w : World} (h : Below B w0 w) {r : Nat} (hr : B ≤ r) (a b : Value) : Below B w0 ((w.setCell ⟨r, 0, none⟩ a).setCell ⟨r, 1, none⟩ b) := below_set (below_set h hr 0 a) hr 1 b
def loopR (n : Nat) (L : Nat) : Option (List (List UInt8) × Int) → Option (Nat × List (List UInt8))
  | none => none
  | some (l, p) => if p < L then none else some (n, l)
theorem bytes_form {b : Nat} {w : World} {v : Value} {xs : List UInt8} (h : Bytes b w v xs) : ∃ A c, v = .slice A xs.length c := by
  obtain ⟨A, c, rfl, _, _⟩ := h.reads.form
  exact ⟨A, c, rfl⟩
end Go.Proofs.YthehpafkaefohaaDoor
namespace Go.Proofs.YthehpafkaefohaaDoor
open Go.RowKit
def smallV (yss : List (List UInt8)) : Bool := decide (yss.length ≤ 20) && yss.all fun y => decide (y.length ≤ 60)
set_option maxRecDepth 20000 in
set_option maxHeartbeats 1000000 in
theorem small_any (v : Value) (yss : List (List UInt8)) (w : World) (hv : RdL w v yss) : Calls Tryd.prog 7 #[v] w fun e w' => e = .returned (.bool (smallV yss)) ∧ w = w' := by
  obtain ⟨A, c, rfl, h1, h2⟩ := hv.form
  have hm1 : yss.length ≤ 9223372036854775807 := by simp only [maxLen] at h2; omega
  obtain ⟨n, hn⟩ : ∃ n, yss.length = n := ⟨_, rfl⟩
  have HN := Lib.hid hn
  obtain ⟨r, hr⟩ : ∃ r, smallV yss = r := ⟨_, rfl⟩
  have HR := Lib.hid hr
  rw [hn] at hv hm1
  rw [hn, hr]
  have HV := Lib.hid hv
  clear hv hn h1 h2 hr
  by_cases h20 : (20 : Int) < n
  · have hF : r = false := by
      rw [← HR.out]; unfold smallV; rw [HN.out, decide_eq_false (by omega)]; rfl
    have HF := Lib.hid hF
    clear hF
    go_enter Tryd.func7, Tryd.ntmps7
    go_wp2
    exact bodyPost_ret (v := .bool false) (by simp [results]) rfl ⟨by rw [HF.out], rfl⟩
  · go_enter Tryd.func7, Tryd.ntmps7
    go_wp2
    have hn20 : n ≤ 20 := by omega
    go_loop [3] (fun i => ∃ k : Nat, i = .int .i64 k ∧ k ≤ n ∧ Hid (∀ y ∈ yss.take k, y.length ≤ 60)) (fun i => n - (intOf i).toNat)
    case atStart => exact ⟨0, rfl, Nat.zero_le _, Lib.hid (by simp)⟩
    case round =>
      obtain ⟨k, rfl, hk, HE⟩ := hrel
      by_cases hlt : k < n
      · obtain ⟨x, hx⟩ : ∃ x, yss[k]? = some x := ⟨_, List.getElem?_eq_getElem (by rw [HN.out]; exact hlt)⟩
        obtain ⟨b, o, u, hA, _, d0, hru⟩ := HV.out.at2 hx
        subst hA
        obtain ⟨A1, c1, rfl, _, _⟩ := hru.form
        have hkn : (k : Int) < n := by omega
        by_cases hx60 : (60 : Int) < x.length
        · have hF : r = false := by
            rw [← HR.out]; unfold smallV
            have : (yss.all fun y => decide (y.length ≤ 60)) = false := by
              rw [List.all_eq_false]
              exact ⟨x, List.mem_of_getElem? hx, by simp; omega⟩
            rw [this, Bool.and_false]
          have HF := Lib.hid hF
          clear hF hx hru
          go_wp2
          exact bodyPost_ret (v := .bool false) (by simp [results]) rfl ⟨by rw [HF.out], rfl⟩
        · have HE2 : Hid (∀ y ∈ yss.take (k + 1), y.length ≤ 60) := by
            show ∀ y ∈ _, _
            intro y hy
            rw [List.take_add_one, hx] at hy
            rcases List.mem_append.1 hy with h | h
            · exact HE.out y h
            · simp at h; subst h; omega
          clear hx hru
          go_wp2
          first
          | exact ⟨⟨k + 1, by go_num, by omega, HE2⟩, by simp [intOf]; omega⟩
          | (go_round
             case rel => exact ⟨k + 1, by go_num, by omega, HE2⟩
             case measure => simp [intOf]; omega)
      · obtain rfl : k = n := by omega
        have hT : r = true := by
          rw [← HR.out]; unfold smallV
          have : (yss.all fun y => decide (y.length ≤ 60)) = true := by
            rw [List.all_eq_true]
            intro y hy
            have := HE.out y (by rwa [List.take_of_length_le (by rw [HN.out]; exact Nat.le_refl _)])
            simpa using this
          rw [this, HN.out, decide_eq_true hn20]; rfl
        have HT := Lib.hid hT
        clear hT
        go_wp2
        exact bodyPost_ret (v := .bool true) (by simp [results]) rfl ⟨by rw [HT.out], rfl⟩
end Go.Proofs.YthehpafkaefohaaDoor
namespace Go.Proofs.YthehpafkaefohaaDoor
open Go.RowKit
/-- a row of batches that a slice reads as -/
def RdBt (w : World) (v : Value) (xs : List (Int × List (List UInt8))) : Prop := (v = .slice none 0 0 ∧ xs = []) ∨
  ∃ b o c, v = .slice (some ⟨b, o, none⟩) xs.length c ∧ xs.length ≤ c ∧ c ≤ maxLen ∧ ∀ (j : Nat) (x : Int × List (List UInt8)), xs[j]? = some x → ∃ u, w.cell? ⟨b, o + j * 2, none⟩ = some (.int .i64 x.1) ∧ w.cell? ⟨b, o + j * 2 + 1, none⟩ = some u ∧ RdL w u x.2
theorem RdBt.form {w : World} {v : Value} {xs : List (Int × List (List UInt8))} (h : RdBt w v xs) : ∃ A c, v = .slice A xs.length c ∧ xs.length ≤ c ∧ c ≤ maxLen := by
  rcases h with ⟨rfl, rfl⟩ | ⟨b, o, c, rfl, h1, h2, _⟩
  · exact ⟨none, 0, rfl, Nat.le_refl _, by simp⟩
  · exact ⟨_, c, rfl, h1, h2⟩
theorem RdBt.at {w : World} {A : Option Addr} {c n : Nat} {xs : List (Int × List (List UInt8))} (h : RdBt w (.slice A n c) xs) {j : Nat} {x : Int × List (List UInt8)} (hj : xs[j]? = some x) : ∃ b o u, A = some ⟨b, o, none⟩ ∧ w.cell? ⟨b, o + j * 2, none⟩ = some (.int .i64 x.1) ∧ w.cell? ⟨b, o + j * 2 + 1, none⟩ = some u ∧ RdL w u x.2 := by
  rcases h with ⟨_, rfl⟩ | ⟨b, o, c, hv, _, _, h4⟩
  · simp at hj
  · injection hv with hv
    obtain ⟨u, k1, k2, k3⟩ := h4 j x hj
    exact ⟨b, o, u, hv, k1, k2, k3⟩
end Go.Proofs.YthehpafkaefohaaDoor
namespace Go.Proofs.YthehpafkaefohaaDoor
open Go.ChangeShapes Go.WideShapes Go.ChangeAt Go.RowKit Go.Joins Go.Deep
theorem list_of {α : Type} : ∀ (n : Nat) (p : Nat → α → Prop), (∀ i, i < n → ∃ x, p i x) → ∃ xs : List α, xs.length = n ∧ ∀ (k : Nat) (x : α), xs[k]? = some x → p k x
  | 0, _, _ => ⟨[], rfl, fun k x h => by simp at h⟩
  | n + 1, p, h => by
    obtain ⟨x0, h0⟩ := h 0 (by omega)
    obtain ⟨xs, hl, hx⟩ := list_of n (fun i => p (i + 1)) (fun i hi => h (i + 1) (by omega))
    refine ⟨x0 :: xs, by simp [hl], fun k x hk => ?_⟩
    cases k with
    | zero => simp at hk; subst hk; exact h0
    | succ k => exact hx k x (by simpa using hk)
theorem addr_plus (b o n : Nat) : (⟨b, o, none⟩ : Addr).add n = ⟨b, o + n, none⟩ := by simp [Addr.add]
/-- an address where a cell lies -/
theorem addr_plain {W : World} {a : Addr} {u : Value} (h : W.cell? a = some u) : ∃ b o, a = ⟨b, o, none⟩ ∧ b < W.heap.size := by
  obtain ⟨b, o, sp⟩ := a
  have hsp : sp = none := by
    cases sp with
    | none => rfl
    | some z =>
      exfalso
      simp only [World.cell?] at h
      repeat (first | (split at h; all_goals (try simp at h)) | simp at h)
  subst hsp
  exact ⟨b, o, rfl, World.block_lt_of_cell? W _ h⟩
theorem add_zero_addr (a : Addr) : a.add 0 = a := by simp [Addr.add]
section
variable {H : Type} {enc : TypeId × Value → H} {W : World}
theorem cells_u8 : Tryd.prog.cellsOf 5 = 1 := by kernel_rfl
theorem cells_by : Tryd.prog.cellsOf 43 = 1 := by kernel_rfl
theorem cells_rows : Tryd.prog.cellsOf 33 = 1 := by kernel_rfl
set_option maxRecDepth 100000 in
/-- bytes -/
theorem op_bytes {n : Nat} {cs : List Value} {y : DataW H × List MemPlace} (h : DataW.trod enc Tryd.prog W 0 (fun _ => true) true n 43 cs = some y) : ∃ v ys, cs = [v] ∧ RdE W v ys := by
  rcases open_ints Tryd.underlying43 Tryd.underlying5 cells_u8 h with ⟨rfl, _⟩ | ⟨a, len, cap, zs, rfl, hb, hl, hm, hz, _, hc, hw⟩
  · exact ⟨_, [], rfl, .inl (.inl ⟨rfl, rfl⟩)⟩
  · refine ⟨_, (zs.take len).map fun z => UInt8.ofNat z.toNat, rfl, ?_⟩
    simp only [if_true] at hz
    by_cases h0 : len = 0
    · subst h0
      exact .inr ⟨a, cap, rfl, hm, by simp⟩
    · have h1 := hc 0 (by omega)
      obtain ⟨b, o, rfl, hlt⟩ := addr_plain h1
      have hlen : ((zs.take len).map fun z => UInt8.ofNat z.toNat).length = len := by rw [List.length_map, List.length_take]; omega
      refine .inl (.inr ⟨b, o, cap, by rw [hlen], by rw [hlen]; exact hl, hm, hlt, fun j x hx => ?_⟩)
      rw [List.getElem?_map] at hx
      cases hz9 : (zs.take len)[j]? with
      | none => rw [hz9] at hx; simp at hx
      | some z =>
        rw [hz9] at hx
        simp only [Option.map_some, Option.some.injEq] at hx
        subst hx
        have hj : j < len := by
          have := (List.getElem?_eq_some_iff.1 hz9).1
          rw [List.length_take] at this; omega
        rw [List.getElem?_take, if_pos hj] at hz9
        have h1 := hc j (by omega)
        rw [addr_plus] at h1
        rw [h1]
        have h2 := hw z (List.mem_of_getElem? hz9)
        have h3 : 0 ≤ z ∧ z < 256 := by
          simp [Lit.wf, IntKind.min, IntKind.max, IntKind.signed, IntKind.bits] at h2
          omega
        have h4 : zs.getD j 0 = z := by simp [List.getD, hz9]
        rw [h4]
        have : ((UInt8.ofNat z.toNat).toNat : Int) = z := by simp; omega
        rw [this]
/-- a row of what is one cell each -/
def RdG {α : Type} (p : Value → α → Prop) (W : World) (v : Value) (xs : List α) : Prop := (∃ A c, v = .slice A 0 c ∧ c ≤ maxLen ∧ xs = []) ∨
  ∃ b o c, v = .slice (some ⟨b, o, none⟩) xs.length c ∧ xs.length ≤ c ∧ c ≤ maxLen ∧ b < W.heap.size ∧ ∀ (j : Nat) (x : α), xs[j]? = some x → ∃ u, W.cell? ⟨b, o + j, none⟩ = some u ∧ p u x
theorem op_row {α : Type} {T E : TypeId} {p : Value → α → Prop} (hT : Tryd.prog.underlying T = some (.slice E)) (hc : Tryd.prog.cellsOf E = 1) (hE : ∀ (n : Nat) (cs : List Value) (y : DataW H × List MemPlace), DataW.trod enc Tryd.prog W 0 (fun _ => true) true n E cs = some y → ∃ v x, cs = [v] ∧ p v x)
    {n : Nat} {cs : List Value} {y : DataW H × List MemPlace} (h : DataW.trod enc Tryd.prog W 0 (fun _ => true) true n T cs = some y) : ∃ v xs, cs = [v] ∧ RdG p W v xs := by
  rcases open_slice hT h with ⟨rfl, rfl⟩ | ⟨a, len, cap, M, n', D, Pl, rfl, hb, hl, hmx, hmm, rfl, hi⟩
  · exact ⟨_, [], rfl, .inl ⟨none, 0, rfl, Nat.zero_le _, rfl⟩⟩
  simp only [if_true] at hmm
  subst hmm
  have key : ∀ i, i < len → ∃ x : α, ∃ u, W.cell? (a.add i) = some u ∧ p u x := by
    intro i hlt
    obtain ⟨cs', hcs, ht⟩ := hi i (by omega)
    rw [hc] at hcs
    obtain ⟨_, hcl, hat⟩ := World.cells?_some hcs
    obtain ⟨v, x, rfl, hp⟩ := hE n' cs' _ ht
    refine ⟨x, v, ?_, hp⟩
    have := hat 0 (by omega)
    rw [Nat.mul_one] at this
    rw [add_zero_addr] at this
    exact this
  obtain ⟨xs, hxl, hxs⟩ := list_of len _ key
  refine ⟨_, xs, rfl, ?_⟩
  rcases Nat.eq_zero_or_pos len with rfl | hpos
  · exact .inl ⟨_, _, rfl, hmx, List.eq_nil_of_length_eq_zero hxl⟩
  · obtain ⟨x0, u0, h0, _⟩ := key 0 hpos
    rw [add_zero_addr] at h0
    obtain ⟨b, o, rfl, hlt⟩ := addr_plain h0
    refine .inr ⟨b, o, M, by rw [hxl], by rw [hxl]; omega, hmx, hlt, fun j x hx => ?_⟩
    obtain ⟨u, hu, hp⟩ := hxs j x hx
    rw [addr_plus] at hu
    exact ⟨u, hu, hp⟩
theorem op_rows {n : Nat} {cs : List Value} {y : DataW H × List MemPlace} (h : DataW.trod enc Tryd.prog W 0 (fun _ => true) true n 33 cs = some y) : ∃ v yss, cs = [v] ∧ RdL W v yss :=
  op_row (p := RdE W) Tryd.underlying33 cells_by (fun _ _ _ h => op_bytes h) h
theorem op_int {T : TypeId} {k : IntKind} (hT : Tryd.prog.underlying T = some (.int k)) {n : Nat} {cs : List Value} {y : DataW H × List MemPlace} (h : DataW.trod enc Tryd.prog W 0 (fun _ => true) true n T cs = some y) : ∃ z, cs = [.int k z] := by
  obtain ⟨z, rfl, _, _⟩ := DataW.trod_int hT h
  exact ⟨z, rfl⟩
end
/-- how far the i-th of these types lies -/
noncomputable def offs (ts : List TypeId) (i : Nat) : Nat := ((ts.take i).map Tryd.prog.cellsOf).sum
/-- is this type a struct of these types, one behind the other? -/
noncomputable def structOk (T : TypeId) (ts : List TypeId) : Bool :=
  match Tryd.prog.underlying T with
  | some (.struct fs) => decide (fs.toList.map (·.type) = ts) && decide (fs.toList.map (·.offset) = (List.range ts.length).map (offs ts)) && decide (Tryd.prog.cellsOf T = (ts.map Tryd.prog.cellsOf).sum)
  | _ => false
set_option maxRecDepth 100000 in
theorem struct_parts {T : TypeId} {ts : List TypeId} (hs : structOk T ts = true) {H : Type} {enc : TypeId × Value → H} {W : World} {n : Nat} {cs : List Value} {y : DataW H × List MemPlace} (h : DataW.trod enc Tryd.prog W 0 (fun _ => true) true n T cs = some y) :
    ∃ ys : List (DataW H), cs.length = (ts.map Tryd.prog.cellsOf).sum ∧ ys.length = ts.length ∧ (y.1 = .agg ys ∧ DataW.weights Tryd.prog T y.1 = DataW.weightsEach Tryd.prog ts ys) ∧ ∀ (i : Nat) (S : TypeId), ts[i]? = some S → ∃ n' z, DataW.trod enc Tryd.prog W 0 (fun _ => true) true n' S ((cs.drop (offs ts i)).take (Tryd.prog.cellsOf S)) = some z ∧ ys[i]? = some z.1 := by
  unfold structOk at hs
  split at hs
  case h_2 => cases hs
  case h_1 fs hT =>
    simp only [Bool.and_eq_true, decide_eq_true_eq] at hs
    obtain ⟨⟨h1, h2⟩, h3⟩ := hs
    obtain ⟨xs, n', rfl, rfl, hcl, hxl, hf⟩ := DataW.trod_struct hT h
    have hlen : fs.toList.length = ts.length := by rw [← h1, List.length_map]
    refine ⟨xs.map (·.1), by rw [hcl, h3], by rw [List.length_map, hxl, ← hlen]; rfl, ⟨rfl, by rw [DataW.weights, hT, ← h1]⟩, fun i S hS => ?_⟩
    have hi := (List.getElem?_eq_some_iff.1 hS).1
    have hfi : ∃ f, fs.toList[i]? = some f := ⟨fs.toList[i]'(by omega), List.getElem?_eq_getElem _⟩
    obtain ⟨f, hfi⟩ := hfi
    have e1 : f.type = S := by
      have := congrArg (fun l : List TypeId => l[i]?) h1
      simp only [List.getElem?_map, hfi, Option.map_some, hS] at this
      exact Option.some.inj this
    have e2 : f.offset = offs ts i := by
      have := congrArg (fun l : List Nat => l[i]?) h2
      simp only [List.getElem?_map, hfi, Option.map_some, List.getElem?_range hi] at this
      exact Option.some.inj this
    have h4 := hf i f (by simpa using hfi)
    have hxi : i < xs.length := by rw [hxl]; have : fs.size = fs.toList.length := rfl; omega
    rw [List.getElem?_eq_getElem hxi, e1, e2] at h4
    exact ⟨n', _, h4, by simp [List.getElem?_eq_getElem hxi]⟩
section
variable {H : Type} {enc : TypeId × Value → H} {W : World}
set_option maxRecDepth 100000 in
theorem cells_int : Tryd.prog.cellsOf 3 = 1 := by kernel_rfl
set_option maxRecDepth 100000 in
theorem batchOk : structOk 62 [3, 33] = true := by kernel_rfl
set_option maxRecDepth 100000 in
theorem op_batch {n : Nat} {cs : List Value} {y : DataW H × List MemPlace} (h : DataW.trod enc Tryd.prog W 0 (fun _ => true) true n 62 cs = some y) : ∃ z v l, cs = [.int .i64 z, v] ∧ RdL W v l := by
  obtain ⟨ys, h1, h2, _, h4⟩ := struct_parts batchOk h
  obtain ⟨n1, z1, k1, _⟩ := h4 0 _ rfl
  obtain ⟨n2, z2, k2, _⟩ := h4 1 _ rfl
  have hl : cs.length = 2 := by rw [h1]; simp [cells_int, cells_rows]
  match cs, hl with
  | [a, b], _ =>
    simp [offs, cells_int, cells_rows] at k1 k2
    obtain ⟨z, hz⟩ := op_int Tryd.underlying3 k1
    obtain ⟨v, l, hv, hr⟩ := op_rows k2
    injection hz with hz
    injection hv with hv
    subst hz
    subst hv
    exact ⟨z, b, l, rfl, hr⟩
set_option maxRecDepth 100000 in
theorem arg_batch {base : Nat} {v : Value} {d : DataW H} {ps : List MemPlace} (hv : Value.okWide Tryd.prog W .any base 62 v) (hd : DataW.Trod enc Tryd.prog W 0 (fun _ => true) true 62 v d ps) : ∃ z u l, v = .agg #[.int .i64 z, u] ∧ RdL W u l := by
  have hs := batchOk
  unfold structOk at hs
  split at hs
  case h_2 => cases hs
  case h_1 fs hT =>
    obtain ⟨cs, rfl, _⟩ := okWide_struct hT hv
    obtain ⟨n, hf⟩ := hd
    have hf : DataW.trod enc Tryd.prog W 0 (fun _ => true) true n 62 cs.toList = some (d, ps) := hf
    obtain ⟨z, u, l, h1, h2⟩ := op_batch hf
    exact ⟨z, u, l, by rw [← h1], h2⟩
set_option maxRecDepth 100000 in
theorem slice_ok {base len cap : Nat} {a : Addr} (h : Value.okWide Tryd.prog W .any base 43 (.slice (some a) len cap)) : a.spot = none ∧ a.block < W.heap.size := by
  unfold Value.okWide at h
  rw [Tryd.underlying43] at h
  simp only [Cell.okWide, Cell.ok, Tryd.underlying43] at h
  obtain ⟨_, _, h3⟩ := h
  obtain ⟨_, hs, row, cells, hsh, _⟩ := h3
  refine ⟨hs, ?_⟩
  by_cases hl : a.block < W.heap.size
  · exact hl
  · exfalso
    unfold World.shape? at hsh
    rw [Array.getElem?_eq_none (by omega)] at hsh
    simp at hsh
set_option maxRecDepth 100000 in
/-- bytes that come in themselves -/
theorem arg_bytes {base : Nat} {v : Value} {d : DataW H} {ps : List MemPlace} (hv : Value.okWide Tryd.prog W .any base 43 v) (hd : DataW.Trod enc Tryd.prog W 0 (fun _ => true) true 43 v d ps) : ∃ ys, RdB W v ys := by
  obtain ⟨a, len, cap, rfl⟩ := okWide_slice Tryd.underlying43 hv
  obtain ⟨n, h⟩ := hd
  replace h : DataW.trod enc Tryd.prog W 0 (fun _ => true) true n 43 [.slice a len cap] = some (d, ps) := h
  obtain ⟨v', ys, hv', hr⟩ := op_bytes h
  injection hv' with hv' _
  subst hv'
  rcases hr with hr | ⟨a', c', hv', hm, rfl⟩
  · exact ⟨ys, hr⟩
  · injection hv' with q1 q2 q3
    subst q1; subst q2; subst q3
    obtain ⟨hsp, hlt⟩ := slice_ok hv
    obtain ⟨b, o, sp⟩ := a'
    simp only at hsp hlt
    subst hsp
    exact ⟨[], .inr ⟨b, o, cap, rfl, Nat.zero_le _, hm, hlt, fun j x hj => by simp at hj⟩⟩
end
end Go.Proofs.YthehpafkaefohaaDoor

/- The plain law of tokens: a right token's text is read as that token, and whatever is read made that text; no program in sight. Conditions: none. -/
import Derived.Lib.ItoaNum
import Derived.Lib.AtoiAll
import Derived.Lib.IndexMore
import Derived.Laws.BytesArg
namespace Go.Proofs.YtckooioikcenmaaDoor
open Go
/-- decimal digits of a number from 0 on, as a string -/
def dgs (n : Int) : ByteArray := ⟨(Lib.decDigits n.toNat).toArray⟩
/-- the same, for numbers below 1000, without recursion -/
def dg3 (k : Nat) : List UInt8 :=
  if k < 10 then [UInt8.ofNat (48 + k)]
  else if k < 100 then [UInt8.ofNat (48 + k / 10), UInt8.ofNat (48 + k % 10)]
  else [UInt8.ofNat (48 + k / 10 / 10), UInt8.ofNat (48 + k / 10 % 10), UInt8.ofNat (48 + k % 10)]
theorem dec_dg3 (k : Nat) (h : k < 1000) : Lib.decDigits k = dg3 k := by
  unfold dg3
  by_cases h1 : k < 10
  · rw [if_pos h1, Lib.decDigits, dif_pos h1]
  · rw [if_neg h1, Lib.decDigits, dif_neg h1]
    by_cases h2 : k < 100
    · rw [if_pos h2, Lib.decDigits, dif_pos (by omega)]; rfl
    · rw [if_neg h2, Lib.decDigits, dif_neg (by omega), Lib.decDigits, dif_pos (by omega)]; rfl
theorem dgs_small {n : Int} (h0 : 0 ≤ n) (h1 : n < 10) : dgs n = strOfNums [48 + n] := by
  obtain ⟨k, rfl⟩ := Int.eq_ofNat_of_zero_le h0
  have hk : k < 10 := by omega
  unfold dgs strOfNums
  rw [Int.toNat_natCast, Lib.decDigits, dif_pos hk]
  have : ((48 + (k : Int)).toNat) = 48 + k := by omega
  simp [this]
theorem dgs_big {n : Int} (h1 : 10 ≤ n) : dgs n = dgs (n / 10) ++ dgs (n % 10) := by
  obtain ⟨k, rfl⟩ := Int.eq_ofNat_of_zero_le (by omega : 0 ≤ n)
  have hk : ¬ k < 10 := by omega
  have e1 : ((k : Int) / 10).toNat = k / 10 := by omega
  have e2 : ((k : Int) % 10).toNat = k % 10 := by omega
  have hk2 : k % 10 < 10 := by omega
  apply ByteArray.ext
  unfold dgs
  rw [Int.toNat_natCast, e1, e2, Lib.decDigits, dif_neg hk]
  rw [show Lib.decDigits (k % 10) = [UInt8.ofNat (48 + k % 10)] by rw [Lib.decDigits, dif_pos hk2]]
  simp
theorem dgs_size {n : Int} (h1 : n < 1000) : (dgs n).size ≤ 3 := by
  have : (dgs n).size = (Lib.decDigits n.toNat).length := by simp [dgs, ByteArray.size]
  rw [this, dec_dg3 _ (by omega)]
  unfold dg3
  split
  · simp
  · split <;> simp
theorem dgs_data (n : Int) : (dgs n).data.toList = Lib.decDigits n.toNat := by simp [dgs]
/-- what a table of numbers says of them all -/
theorem num_table : ∀ k, k < 201 → Lib.atoiAll (dg3 k) = .ok (k : Int) ∧ (46 : UInt8) ∉ dg3 k := by decide +kernel
def dot : ByteArray := ⟨#[46]⟩
def rightB (f : ByteArray) (n t : Int) : Bool := decide (1 ≤ f.size ∧ f.size ≤ 40 ∧ 1 ≤ n ∧ n ≤ 200 ∧ 1 ≤ t ∧ t ≤ 100)
theorem rightB_iff {f : ByteArray} {n t : Int} : rightB f n t = true ↔ (1 ≤ f.size ∧ f.size ≤ 40 ∧ 1 ≤ n ∧ n ≤ 200 ∧ 1 ≤ t ∧ t ≤ 100) := by
  unfold rightB; exact decide_eq_true_iff
def mkT (f : ByteArray) (n t : Int) : ByteArray := dgs n ++ dot ++ dgs t ++ dot ++ f
/-- the number of a text: 0 where it is not written as that number is -/
def numOf (d : List UInt8) : Int := match Lib.atoiAll d with
  | .ok v => if Lib.itoa v = d then v else 0
  | _ => 0
def cutD (l : List UInt8) : List UInt8 × List UInt8 × Bool := Lib.cut l [46]
def bs (l : List UInt8) : ByteArray := ⟨l.toArray⟩
def readT (s : ByteArray) : Option (ByteArray × Int × Int) :=
  let c := cutD s.data.toList
  let d := cutD c.2.1
  if c.2.2 = true ∧ d.2.2 = true ∧ rightB (bs d.2.1) (numOf c.1) (numOf d.1) = true then some (bs d.2.1, numOf c.1, numOf d.1) else none
theorem index_dot_none : ∀ (l : List UInt8), (46 : UInt8) ∉ l → Lib.index l [46] = -1
  | [], _ => by simp [Lib.index]
  | b :: l, h => by
    have hb : (46 : UInt8) ≠ b := fun e => h (e ▸ List.mem_cons_self ..)
    have ih := index_dot_none l (fun m => h (List.mem_cons_of_mem _ m))
    simp [Lib.index, List.isPrefixOf, hb, ih]
theorem index_dot_at : ∀ (a r : List UInt8), (46 : UInt8) ∉ a → Lib.index (a ++ 46 :: r) [46] = a.length
  | [], r, _ => by simp [Lib.index, List.isPrefixOf]
  | b :: a, r, h => by
    have hb : (46 : UInt8) ≠ b := fun e => h (e ▸ List.mem_cons_self ..)
    have ih := index_dot_at a r (fun m => h (List.mem_cons_of_mem _ m))
    simp only [List.cons_append, Lib.index, List.isPrefixOf, ih]
    have : ((46 : UInt8) == b) = false := by simpa using hb
    simp [this]
theorem cutD_none {l : List UInt8} (h : (46 : UInt8) ∉ l) : cutD l = (l, [], false) := by
  unfold cutD Lib.cut
  rw [index_dot_none l h]
  simp
theorem cutD_at {a r : List UInt8} (h : (46 : UInt8) ∉ a) : cutD (a ++ 46 :: r) = (a, r, true) := by
  unfold cutD Lib.cut
  rw [index_dot_at a r h]
  simp
theorem split_dot : ∀ (l : List UInt8), (46 : UInt8) ∉ l ∨ ∃ a r, l = a ++ 46 :: r ∧ (46 : UInt8) ∉ a
  | [] => .inl (by simp)
  | b :: l => by
    by_cases hb : (46 : UInt8) = b
    · exact .inr ⟨[], l, by simp [hb], by simp⟩
    · rcases split_dot l with h | ⟨a, r, rfl, h⟩
      · exact .inl (by simp [hb, h])
      · exact .inr ⟨b :: a, r, by simp, by simp [hb, h]⟩
theorem numOf_dgs {n : Int} (h0 : 1 ≤ n) (h1 : n ≤ 200) : numOf (dgs n).data.toList = n ∧ (46 : UInt8) ∉ (dgs n).data.toList := by
  obtain ⟨k, rfl⟩ := Int.eq_ofNat_of_zero_le (by omega : 0 ≤ n)
  have ht := num_table k (by omega)
  rw [dgs_data, Int.toNat_natCast, dec_dg3 k (by omega)]
  refine ⟨?_, ht.2⟩
  unfold numOf
  rw [ht.1]
  have : Lib.itoa (k : Int) = dg3 k := by
    unfold Lib.itoa
    rw [if_neg (by omega), Int.toNat_natCast, dec_dg3 k (by omega)]
  simp [this]
theorem numOf_back {d : List UInt8} (h : 1 ≤ numOf d) : d = (dgs (numOf d)).data.toList := by
  unfold numOf at *
  revert h
  cases Lib.atoiAll d with
  | ok v =>
    simp only
    by_cases hv : Lib.itoa v = d
    · rw [if_pos hv]
      intro h
      rw [dgs_data, ← hv]
      unfold Lib.itoa
      rw [if_neg (by omega)]
    · rw [if_neg hv]; intro h; omega
  | _ => intro h; simp at h
theorem mkT_data (f : ByteArray) (n t : Int) : (mkT f n t).data.toList = (dgs n).data.toList ++ 46 :: ((dgs t).data.toList ++ 46 :: f.data.toList) := by
  simp [mkT, dot]
theorem bs_data (f : ByteArray) : bs f.data.toList = f := by
  apply ByteArray.ext; simp [bs]
theorem data_inj {a b : ByteArray} (h : a.data.toList = b.data.toList) : a = b := by
  apply ByteArray.ext; exact Array.toList_inj.1 h
theorem readT_mk {f : ByteArray} {n t : Int} (h : rightB f n t = true) : readT (mkT f n t) = some (f, n, t) := by
  have h' := rightB_iff.1 h
  obtain ⟨hn1, hn2⟩ := numOf_dgs (n := n) (by omega) (by omega)
  obtain ⟨ht1, ht2⟩ := numOf_dgs (n := t) (by omega) (by omega)
  unfold readT
  rw [mkT_data, cutD_at hn2]
  simp only
  rw [cutD_at ht2]
  simp only
  rw [hn1, ht1, bs_data, if_pos ⟨trivial, trivial, h⟩]
theorem readT_some {s f : ByteArray} {n t : Int} (h : readT s = some (f, n, t)) : rightB f n t = true ∧ s = mkT f n t := by
  unfold readT at h
  simp only at h
  split at h
  · rename_i hc
    obtain ⟨h1, h2, h3⟩ := hc
    injection h with h
    injection h with hf h
    injection h with hn ht
    subst hf; subst hn; subst ht
    refine ⟨h3, ?_⟩
    have h' := rightB_iff.1 h3
    have bn := numOf_back (d := (cutD s.data.toList).1) (by omega)
    have bt := numOf_back (d := (cutD (cutD s.data.toList).2.1).1) (by omega)
    apply data_inj
    rw [mkT_data, ← bn, ← bt]
    rcases split_dot s.data.toList with hs | ⟨a, r, hs, ha⟩
    · rw [cutD_none hs] at h1; simp at h1
    · rw [hs, cutD_at ha] at h2 ⊢
      simp only at h2 ⊢
      rcases split_dot r with hr | ⟨a', r', hr, ha'⟩
      · rw [cutD_none hr] at h2; simp at h2
      · rw [hr, cutD_at ha']; simp [bs]
  · simp at h
theorem readT_iff {s f : ByteArray} {n t : Int} : readT s = some (f, n, t) ↔ rightB f n t = true ∧ s = mkT f n t :=
  ⟨readT_some, fun ⟨h, e⟩ => e ▸ readT_mk h⟩
theorem readT_none {s : ByteArray} (h : ∀ f n t, rightB f n t = true → s ≠ mkT f n t) : readT s = none := by
  cases hr : readT s with
  | none => rfl
  | some x =>
    obtain ⟨f, n, t⟩ := x
    exact absurd (readT_some hr).2 (h f n t (readT_some hr).1)
end Go.Proofs.YtckooioikcenmaaDoor

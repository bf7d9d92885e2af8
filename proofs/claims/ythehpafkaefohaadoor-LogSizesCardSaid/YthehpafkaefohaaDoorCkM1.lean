/- Codecs put together of parts: what is written is read, and what is read was written; no program in sight. Conditions: none. -/
import Derived.Test.YthehpafkaefohaaDoorCkM0
namespace Go.Proofs.YthehpafkaefohaaDoor
open Go.RowKit
/-- where a reader stands, and whether it has failed -/
structure Rd where
  pos : Int
  bad : Bool
/-- l has been read -/
structure AtL (ys : List UInt8) (s : Rd) (l : List UInt8) : Prop where
  ok : s.bad = false
  pos : s.pos = l.length
  pre : ∃ r, ys = l ++ r
theorem AtL.eq {ys l : List UInt8} {s : Rd} (h : AtL ys s l) : s = ⟨l.length, false⟩ := by
  obtain ⟨p, b⟩ := s
  obtain ⟨h1, h2, _⟩ := h
  simp only at h1 h2
  rw [h1, h2]
theorem getU_fwd {ys l r : List UInt8} {m : Nat} (h : ys = l ++ uv m ++ r) (hm : m < 18446744073709551616) : getU ys l.length = (m, ((l ++ uv m).length : Int), 0) := by
  have := getU_of (ys := ys) (a := l.length) (by subst h; simp) (n := m) (c := (uv m).length) (e := 0) (by subst h; rw [List.append_assoc, List.drop_left]; exact gU_zero hm r)
  rw [this]; simp
theorem getU_back {ys l : List UInt8} (h : ∃ r, ys = l ++ r) (he : (getU ys l.length).2.2 = 0) :
    (getU ys l.length).1 < 18446744073709551616 ∧ (getU ys l.length).2.1 = ((l ++ uv (getU ys l.length).1).length : Int) ∧ ∃ r, ys = l ++ uv (getU ys l.length).1 ++ r := by
  obtain ⟨rest, h⟩ := h
  generalize hg : gU (ys.drop l.length) 0 0 = g
  obtain ⟨n, c, e⟩ := g
  have h1 := getU_of (ys := ys) (a := l.length) (by subst h; simp) hg
  rw [h1] at he ⊢
  simp only at he
  subst he
  obtain ⟨h2, h3, h4⟩ := gU_zero_back hg
  subst h
  rw [List.drop_left] at h4
  refine ⟨h2, by simp [h3], rest.drop c, ?_⟩
  simp only
  rw [List.append_assoc, ← h4]
theorem getB_fwd {ys l r b : List UInt8} {most : Int} (h : ys = l ++ blobB b ++ r) (hb : (b.length : Int) ≤ most) (h64 : b.length < 18446744073709551616) : getB ys l.length most = (b, ((l ++ blobB b).length : Int), 0) := by
  have e := getU_fwd (ys := ys) (l := l) (m := b.length) (r := b ++ r) (by rw [h, blobB]; simp) h64
  unfold getB
  simp only [e]
  unfold gB
  rw [if_neg (by omega), if_neg (by omega)]
  have hl : ys.length = l.length + (uv b.length).length + b.length + r.length := by rw [h, blobB]; simp; omega
  rw [if_neg (by rw [hl, List.length_append]; omega)]
  rw [Int.toNat_natCast, h, blobB]
  rw [show l ++ (uv b.length ++ b) ++ r = (l ++ uv b.length) ++ (b ++ r) by simp, List.drop_left, List.take_left]
  simp
  omega
theorem getB_back {ys l : List UInt8} {most : Int} (h : ∃ r, ys = l ++ r) (he : (getB ys l.length most).2.2 = 0) :
    ((getB ys l.length most).1.length : Int) ≤ most ∧ (getB ys l.length most).2.1 = ((l ++ blobB (getB ys l.length most).1).length : Int) ∧ ∃ r, ys = l ++ blobB (getB ys l.length most).1 ++ r := by
  unfold getB gB at he ⊢
  by_cases h1 : (getU ys l.length).2.2 ≠ 0
  · rw [if_pos h1] at he; exact absurd he h1
  rw [if_neg h1] at he ⊢
  obtain ⟨g1, g2, r, g3⟩ := getU_back h (Classical.not_not.1 h1)
  generalize (getU ys l.length).1 = n at *
  rw [g2] at he ⊢
  by_cases h2 : most < 0 ∨ most < n
  · rw [if_pos h2] at he; simp at he
  rw [if_neg h2] at he ⊢
  by_cases h3 : (ys.length : Int) - ((l ++ uv n).length : Int) < n
  · rw [if_pos h3] at he; simp at he
  rw [if_neg h3]
  have hl : ys.length = (l ++ uv n).length + r.length := by rw [g3, List.length_append]
  have e : (ys.drop (l ++ uv n).length) = r := by rw [g3, List.drop_left]
  have hn : n ≤ r.length := by omega
  simp only [Int.toNat_natCast, e]
  have hlen : (r.take n).length = n := by rw [List.length_take]; omega
  rw [hlen]
  refine ⟨by omega, ?_, r.drop n, ?_⟩
  · simp only [blobB, hlen, List.length_append]; omega
  · simp only [blobB, hlen]
    rw [show l ++ (uv n ++ r.take n) ++ r.drop n = l ++ uv n ++ (r.take n ++ r.drop n) by simp, List.take_append_drop]
    exact g3
/-- a reader stays where a reader may be -/
def PosOk (s : Rd) : Prop := s.pos ≤ 140737488355328
/-- how a kind of data is written, and read -/
structure Cd (α : Type) where
  enc : α → List UInt8
  rd : List UInt8 → Rd → α × Rd
  okr : α → Prop
  okt : α → Bool
  sm : α → Prop
  bnd : Nat
structure Cd.Lawful {α : Type} (c : Cd α) : Prop where
  fwd : ∀ {ys l : List UInt8} {s : Rd} {x : α}, AtL ys s l → (∃ r, ys = l ++ c.enc x ++ r) → c.okr x → c.okt x = true → (c.rd ys s).1 = x ∧ AtL ys (c.rd ys s).2 (l ++ c.enc x)
  back : ∀ {ys l : List UInt8} {s : Rd}, AtL ys s l → (c.rd ys s).2.bad = false → c.okr (c.rd ys s).1 ∧ c.okt (c.rd ys s).1 = true ∧ AtL ys (c.rd ys s).2 (l ++ c.enc (c.rd ys s).1)
  bad : ∀ {ys : List UInt8} {s : Rd}, (c.rd ys s).2.bad = false → s.bad = false
  pos : ∀ {ys : List UInt8} {s : Rd}, ys.length ≤ 140737488355328 → PosOk s → PosOk (c.rd ys s).2
  one : ∀ x, 1 ≤ (c.enc x).length
  bound : ∀ {x}, c.okr x → c.sm x → (c.enc x).length ≤ c.bnd
def I64 (n : Int) : Prop := -9223372036854775808 ≤ n ∧ n ≤ 9223372036854775807
def rdI (ys : List UInt8) (s : Rd) : Int × Rd :=
  if s.bad = true then (0, s) else if (getI ys s.pos).2.2 ≠ 0 then (0, ⟨s.pos, true⟩) else ((getI ys s.pos).1, ⟨(getI ys s.pos).2.1, false⟩)
def rdB (ys : List UInt8) (s : Rd) : Int × Rd := if (rdI ys s).1 < 0 ∨ 255 < (rdI ys s).1 then (0, ⟨(rdI ys s).2.pos, true⟩) else rdI ys s
def rdF (ys : List UInt8) (s : Rd) : Bool × Rd := (decide ((rdI ys s).1 = 1), ⟨(rdI ys s).2.pos, (rdI ys s).2.bad || (decide ((rdI ys s).1 ≠ 0) && decide ((rdI ys s).1 ≠ 1))⟩)
def rdS (ys : List UInt8) (s : Rd) : ByteArray × Rd :=
  if s.bad = true then (⟨#[]⟩, s) else if (getB ys s.pos 100).2.2 ≠ 0 then (⟨#[]⟩, ⟨s.pos, true⟩) else (⟨(getB ys s.pos 100).1.toArray⟩, ⟨(getB ys s.pos 100).2.1, false⟩)
def rdIter {α : Type} (f : Rd → α × Rd) : Nat → Rd → List α → List α × Rd
  | 0, s, acc => (acc, s)
  | n + 1, s, acc => if s.bad = true then (acc, s) else rdIter f n (f s).2 (acc ++ [(f s).1])
def rdL {α : Type} (f : List UInt8 → Rd → α × Rd) (ys : List UInt8) (s : Rd) : List α × Rd :=
  if s.bad = true then ([], s) else if (getU ys s.pos).2.2 ≠ 0 ∨ ys.length < (getU ys s.pos).1 then ([], ⟨s.pos, true⟩) else rdIter (f ys) (getU ys s.pos).1 ⟨(getU ys s.pos).2.1, false⟩ []
def boolI (b : Bool) : Int := if b = true then 1 else 0
def cI : Cd Int := ⟨iv, rdI, I64, fun _ => true, fun _ => True, 10⟩
def cB : Cd Int := ⟨iv, rdB, fun n => 0 ≤ n ∧ n ≤ 255, fun _ => true, fun _ => True, 10⟩
def cF : Cd Bool := ⟨fun b => iv (boolI b), rdF, fun _ => True, fun _ => true, fun _ => True, 10⟩
def cS : Cd ByteArray := ⟨fun s => blobB s.data.toList, rdS, fun s => s.size < 18446744073709551616, fun s => decide (s.size ≤ 100), fun s => s.size ≤ 30000, 30010⟩
def cSeq {α β : Type} (a : Cd α) (b : Cd β) : Cd (α × β) :=
  ⟨fun x => a.enc x.1 ++ b.enc x.2, fun ys s => (((a.rd ys s).1, (b.rd ys (a.rd ys s).2).1), (b.rd ys (a.rd ys s).2).2), fun x => a.okr x.1 ∧ b.okr x.2, fun x => a.okt x.1 && b.okt x.2, fun x => a.sm x.1 ∧ b.sm x.2, a.bnd + b.bnd⟩
def cL {α : Type} (c : Cd α) : Cd (List α) :=
  ⟨fun xs => uv xs.length ++ xs.flatMap c.enc, rdL c.rd, fun xs => xs.length < 18446744073709551616 ∧ ∀ x ∈ xs, c.okr x, fun xs => xs.all c.okt, fun xs => xs.length ≤ 20000 ∧ ∀ x ∈ xs, c.sm x, 10 + 20000 * c.bnd⟩
theorem rdI_bad {ys : List UInt8} {s : Rd} (h : (rdI ys s).2.bad = false) : s.bad = false := by
  unfold rdI at h
  by_cases hb : s.bad = true
  · rw [if_pos hb] at h; exact h
  · simpa using hb
theorem rdI_pos {ys : List UInt8} {s : Rd} (hl : ys.length ≤ 140737488355328) (hp : PosOk s) : PosOk (rdI ys s).2 := by
  have h := getU_range ys s.pos hl
  unfold rdI getI
  by_cases hb : s.bad = true
  · rw [if_pos hb]; exact hp
  · rw [if_neg hb]
    simp only
    split
    · exact hp
    · show _ ≤ _; simp; omega
theorem rdI_fwd {ys l : List UInt8} {s : Rd} {z : Int} (h : AtL ys s l) (hr : ∃ r, ys = l ++ iv z ++ r) (hz : I64 z) : rdI ys s = (z, ⟨(l ++ iv z).length, false⟩) ∧ AtL ys (rdI ys s).2 (l ++ iv z) := by
  obtain ⟨r, hr⟩ := hr
  rw [iv_zag] at hr ⊢
  have e := getU_fwd hr (zag_lt hz.1 hz.2)
  have e2 : rdI ys s = (z, ⟨(l ++ uv (zag z)).length, false⟩) := by
    rw [h.eq]
    unfold rdI getI
    rw [if_neg (by simp)]
    simp only [e, zig_zag]
    rw [if_neg (by omega)]
  exact ⟨e2, by rw [e2]; exact ⟨rfl, rfl, r, hr⟩⟩
theorem rdI_back {ys l : List UInt8} {s : Rd} (h : AtL ys s l) (hb : (rdI ys s).2.bad = false) : I64 (rdI ys s).1 ∧ AtL ys (rdI ys s).2 (l ++ iv (rdI ys s).1) := by
  rw [h.eq] at hb ⊢
  unfold rdI getI at hb ⊢
  rw [if_neg (by simp)] at hb ⊢
  simp only at hb ⊢
  by_cases hc : (getU ys l.length).2.2 ≠ 0
  · rw [if_pos hc] at hb; cases hb
  · rw [if_neg hc]
    have he : (getU ys l.length).2.2 = 0 := Classical.not_not.1 hc
    obtain ⟨h1, h2, h3⟩ := getU_back h.pre he
    refine ⟨zig_range h1, rfl, ?_, ?_⟩
    · rw [iv_zag, zag_zig]; exact h2
    · rw [iv_zag, zag_zig]; exact h3
theorem iv_len {z : Int} (h : I64 z) : (iv z).length ≤ 10 := by rw [iv_zag]; exact uv_len10 (zag_lt h.1 h.2)
theorem iv_one (z : Int) : 1 ≤ (iv z).length := by rw [iv_zag]; exact uv_pos _
theorem cI_law : cI.Lawful where
  fwd h hr ho _ := ⟨by rw [show cI.rd = rdI from rfl, (rdI_fwd h hr ho).1], (rdI_fwd h hr ho).2⟩
  back h hb := ⟨(rdI_back h hb).1, rfl, (rdI_back h hb).2⟩
  bad h := rdI_bad h
  pos hl hp := rdI_pos hl hp
  one x := iv_one x
  bound ho _ := iv_len ho
theorem cB_law : cB.Lawful where
  fwd := by
    intro ys l s x h hr ho _
    have hx : I64 x := by have := ho.1; have := ho.2; unfold I64; omega
    obtain ⟨e, h2⟩ := rdI_fwd h hr hx
    have e2 : rdB ys s = rdI ys s := by
      unfold rdB
      rw [if_neg]
      rw [e]
      have := ho.1; have := ho.2
      simp only
      omega
    show (rdB ys s).1 = x ∧ AtL ys (rdB ys s).2 _
    rw [e2]
    exact ⟨by rw [e], h2⟩
  back := by
    intro ys l s h hb
    have hb' : (rdB ys s).2.bad = false := hb
    have e2 : rdB ys s = rdI ys s ∧ ¬ ((rdI ys s).1 < 0 ∨ 255 < (rdI ys s).1) := by
      unfold rdB at hb' ⊢
      split at hb'
      · cases hb'
      · rename_i hc; rw [if_neg hc]; exact ⟨rfl, hc⟩
    show (0 ≤ (rdB ys s).1 ∧ (rdB ys s).1 ≤ 255) ∧ true = true ∧ AtL ys (rdB ys s).2 _
    rw [e2.1] at hb' ⊢
    have := (rdI_back h hb').2
    have h3 := e2.2
    exact ⟨by omega, rfl, by show AtL ys _ (l ++ iv (rdB ys s).1); rw [e2.1]; exact this⟩
  bad := by
    intro ys s h
    have h' : (rdB ys s).2.bad = false := h
    unfold rdB at h'
    split at h'
    · cases h'
    · exact rdI_bad h'
  pos := by
    intro ys s hl hp
    have := rdI_pos hl hp
    show PosOk (rdB ys s).2
    unfold rdB
    split
    · exact this
    · exact this
  one x := iv_one x
  bound := by
    intro x ho _
    exact iv_len (by have := ho.1; have := ho.2; unfold I64; omega)
theorem boolI_range (b : Bool) : I64 (boolI b) := by unfold boolI I64; split <;> omega
theorem cF_law : cF.Lawful where
  fwd := by
    intro ys l s x h hr _ _
    obtain ⟨e, h2⟩ := rdI_fwd h hr (boolI_range x)
    have h3 : AtL ys (rdF ys s).2 (l ++ iv (boolI x)) := by
      unfold rdF
      refine ⟨?_, h2.pos, h2.pre⟩
      show ((rdI ys s).2.bad || _) = false
      rw [h2.ok, e]
      cases x <;> simp [boolI]
    refine ⟨?_, h3⟩
    show (rdF ys s).1 = x
    unfold rdF
    rw [e]
    cases x <;> simp [boolI]
  back := by
    intro ys l s h hb
    have hb' : ((rdI ys s).2.bad || (decide ((rdI ys s).1 ≠ 0) && decide ((rdI ys s).1 ≠ 1))) = false := hb
    rw [Bool.or_eq_false_iff] at hb'
    have h3 := (rdI_back h hb'.1).2
    have e : boolI (rdF ys s).1 = (rdI ys s).1 := by
      unfold rdF boolI
      have h4 := hb'.2
      simp only [decide_eq_true_eq]
      split
      · rename_i h5; exact h5.symm
      · rename_i h5
        simp [h5] at h4
        exact h4.symm
    refine ⟨trivial, rfl, ?_⟩
    show AtL ys (rdF ys s).2 (l ++ iv (boolI (rdF ys s).1))
    rw [e]
    exact ⟨hb, h3.pos, h3.pre⟩
  bad := by
    intro ys s h
    have hb' : ((rdI ys s).2.bad || (decide ((rdI ys s).1 ≠ 0) && decide ((rdI ys s).1 ≠ 1))) = false := h
    rw [Bool.or_eq_false_iff] at hb'
    exact rdI_bad hb'.1
  pos := by
    intro ys s hl hp
    exact rdI_pos hl hp
  one x := iv_one _
  bound := by
    intro x _ _
    exact iv_len (boolI_range x)
theorem rdS_bad {ys : List UInt8} {s : Rd} (h : (rdS ys s).2.bad = false) : s.bad = false := by
  unfold rdS at h
  by_cases hb : s.bad = true
  · rw [if_pos hb] at h; exact h
  · simpa using hb
theorem rdS_pos {ys : List UInt8} {s : Rd} (hl : ys.length ≤ 140737488355328) (hp : PosOk s) : PosOk (rdS ys s).2 := by
  have h := getU_range ys s.pos hl
  unfold rdS getB
  by_cases hb : s.bad = true
  · rw [if_pos hb]; exact hp
  · rw [if_neg hb]
    split
    · exact hp
    · show (Prod.fst (Prod.snd (gB _ _ _ _ _)) : Int) ≤ _
      unfold gB
      split
      · simp
      · split
        · simp
        · split
          · simp
          · simp; omega
theorem cS_law : cS.Lawful where
  fwd := by
    intro ys l s x h hr ho ht
    obtain ⟨r, hr⟩ := hr
    have hx : x.size ≤ 100 := by simpa [cS] using ht
    have hs : x.data.toList.length = x.size := rfl
    have e := getB_fwd (most := 100) hr (by omega) (by omega)
    show (rdS ys s).1 = x ∧ AtL ys (rdS ys s).2 (l ++ blobB x.data.toList)
    rw [h.eq]
    unfold rdS
    rw [if_neg (by simp)]
    simp only [e]
    rw [if_neg (by omega)]
    exact ⟨rfl, rfl, rfl, r, hr⟩
  back := by
    intro ys l s h hb
    have hb' : (rdS ys s).2.bad = false := hb
    show (rdS ys s).1.size < 18446744073709551616 ∧ decide ((rdS ys s).1.size ≤ 100) = true ∧ AtL ys (rdS ys s).2 (l ++ blobB (rdS ys s).1.data.toList)
    rw [h.eq] at hb' ⊢
    unfold rdS at hb' ⊢
    rw [if_neg (by simp)] at hb' ⊢
    simp only at hb' ⊢
    by_cases hc : (getB ys l.length 100).2.2 ≠ 0
    · rw [if_pos hc] at hb'; cases hb'
    · rw [if_neg hc]
      have he : (getB ys l.length 100).2.2 = 0 := Classical.not_not.1 hc
      obtain ⟨h1, h2, h3⟩ := getB_back h.pre he
      have h4 : (ByteArray.mk (getB ys l.length 100).1.toArray).size ≤ 100 := by
        show ((getB ys l.length 100).1.toArray).size ≤ 100
        simp; omega
      exact ⟨Nat.lt_of_le_of_lt h4 (by omega), by simpa using h4, rfl, h2, h3⟩
  bad h := rdS_bad h
  pos hl hp := rdS_pos hl hp
  one x := by
    show 1 ≤ (blobB x.data.toList).length
    have := uv_pos x.data.toList.length
    unfold blobB
    rw [List.length_append]
    omega
  bound := by
    intro x _ hs
    have hs' : x.size ≤ 30000 := hs
    have h1 : x.data.toList.length = x.size := rfl
    have := uv_len10 (n := x.data.toList.length) (by omega)
    show (blobB x.data.toList).length ≤ 30010
    unfold blobB
    rw [List.length_append]
    omega
theorem cSeq_law {α β : Type} {a : Cd α} {b : Cd β} (ha : a.Lawful) (hb : b.Lawful) : (cSeq a b).Lawful where
  fwd := by
    intro ys l s x h hr ho ht
    obtain ⟨r, hr⟩ := hr
    have hr' : ys = l ++ (a.enc x.1 ++ b.enc x.2) ++ r := hr
    have ht' : (a.okt x.1 && b.okt x.2) = true := ht
    rw [Bool.and_eq_true] at ht'
    obtain ⟨g1, k1⟩ := ha.fwd h ⟨b.enc x.2 ++ r, by rw [hr']; simp⟩ ho.1 ht'.1
    obtain ⟨g2, k2⟩ := hb.fwd k1 ⟨r, by rw [hr']; simp⟩ ho.2 ht'.2
    refine ⟨?_, ?_⟩
    · show ((a.rd ys s).1, (b.rd ys (a.rd ys s).2).1) = x
      rw [g1, g2]
    · show AtL ys (b.rd ys (a.rd ys s).2).2 (l ++ (a.enc x.1 ++ b.enc x.2))
      rw [← List.append_assoc]
      exact k2
  back := by
    intro ys l s h hbad
    have hbad' : (b.rd ys (a.rd ys s).2).2.bad = false := hbad
    obtain ⟨g1, t1, k1⟩ := ha.back h (hb.bad hbad')
    obtain ⟨g2, t2, k2⟩ := hb.back k1 hbad'
    refine ⟨⟨g1, g2⟩, ?_, ?_⟩
    · show (a.okt (a.rd ys s).1 && b.okt (b.rd ys (a.rd ys s).2).1) = true
      rw [t1, t2]; rfl
    · show AtL ys _ (l ++ (a.enc (a.rd ys s).1 ++ b.enc (b.rd ys (a.rd ys s).2).1))
      rw [← List.append_assoc]
      exact k2
  bad h := ha.bad (hb.bad h)
  pos hl hp := hb.pos hl (ha.pos hl hp)
  one x := by
    show 1 ≤ (a.enc x.1 ++ b.enc x.2).length
    have := ha.one x.1
    rw [List.length_append]; omega
  bound := by
    intro x ho hs
    have h1 := ha.bound ho.1 hs.1
    have h2 := hb.bound ho.2 hs.2
    show (a.enc x.1 ++ b.enc x.2).length ≤ a.bnd + b.bnd
    rw [List.length_append]; omega
section
variable {α : Type} {c : Cd α}
theorem iter_fwd (hc : c.Lawful) {ys : List UInt8} : ∀ (xs : List α) (l : List UInt8) (s : Rd) (acc : List α), AtL ys s l → (∃ r, ys = l ++ xs.flatMap c.enc ++ r) → (∀ x ∈ xs, c.okr x) → xs.all c.okt = true →
    (rdIter (c.rd ys) xs.length s acc).1 = acc ++ xs ∧ AtL ys (rdIter (c.rd ys) xs.length s acc).2 (l ++ xs.flatMap c.enc)
  | [], l, s, acc, h, hr, hx, ht => by simpa [rdIter] using h
  | x :: xs, l, s, acc, h, ⟨r, hr⟩, hx, ht => by
    rw [List.all_cons, Bool.and_eq_true] at ht
    obtain ⟨g1, h1⟩ := hc.fwd (x := x) h ⟨xs.flatMap c.enc ++ r, by rw [hr]; simp⟩ (hx x (by simp)) ht.1
    obtain ⟨g2, h2⟩ := iter_fwd hc xs (l ++ c.enc x) (c.rd ys s).2 (acc ++ [(c.rd ys s).1]) h1 ⟨r, by rw [hr]; simp⟩ (fun y hy => hx y (by simp [hy])) ht.2
    have e : rdIter (c.rd ys) (x :: xs).length s acc = rdIter (c.rd ys) xs.length (c.rd ys s).2 (acc ++ [(c.rd ys s).1]) := by
      show rdIter (c.rd ys) (xs.length + 1) s acc = _
      rw [rdIter, if_neg (by rw [h.ok]; simp)]
    rw [e, g2, g1]
    refine ⟨by simp, ?_⟩
    have := h2
    rw [g1] at this
    simp only [List.flatMap_cons, List.append_assoc] at this ⊢
    exact this
theorem iter_bad {f : Rd → α × Rd} : ∀ (n : Nat) (s : Rd) (acc : List α), (rdIter f n s acc).2.bad = false → s.bad = false
  | 0, s, acc, h => h
  | n + 1, s, acc, h => by
    rw [rdIter] at h
    by_cases hb : s.bad = true
    · rw [if_pos hb] at h; exact h
    · simpa using hb
theorem iter_back (hc : c.Lawful) {ys : List UInt8} : ∀ (n : Nat) (l : List UInt8) (s : Rd) (acc : List α), AtL ys s l → (rdIter (c.rd ys) n s acc).2.bad = false →
    ∃ xs, xs.length = n ∧ (rdIter (c.rd ys) n s acc).1 = acc ++ xs ∧ (∀ x ∈ xs, c.okr x) ∧ xs.all c.okt = true ∧ AtL ys (rdIter (c.rd ys) n s acc).2 (l ++ xs.flatMap c.enc)
  | 0, l, s, acc, h, hb => ⟨[], rfl, by simp [rdIter], by simp, rfl, by simpa [rdIter] using h⟩
  | n + 1, l, s, acc, h, hb => by
    rw [rdIter, if_neg (by rw [h.ok]; simp)] at hb ⊢
    obtain ⟨r1, t1, h1⟩ := hc.back h (iter_bad n _ _ hb)
    obtain ⟨xs, hl, e, hx, ht, h2⟩ := iter_back hc n _ _ _ h1 hb
    refine ⟨(c.rd ys s).1 :: xs, by simp [hl], by rw [e]; simp, ?_, ?_, ?_⟩
    · intro x hm
      rcases List.mem_cons.1 hm with rfl | hm
      · exact r1
      · exact hx x hm
    · rw [List.all_cons, t1, ht]; rfl
    · have := h2
      simp only [List.flatMap_cons, List.append_assoc] at this ⊢
      exact this
theorem iter_pos (hc : c.Lawful) {ys : List UInt8} (hl : ys.length ≤ 140737488355328) : ∀ (n : Nat) (s : Rd) (acc : List α), PosOk s → PosOk (rdIter (c.rd ys) n s acc).2
  | 0, s, acc, h => h
  | n + 1, s, acc, h => by
    rw [rdIter]
    split
    · exact h
    · exact iter_pos hc hl n _ _ (hc.pos hl h)
theorem flat_len (hc : c.Lawful) : ∀ xs : List α, xs.length ≤ (xs.flatMap c.enc).length
  | [] => by simp
  | x :: r => by
    have h1 := hc.one x
    have h2 := flat_len hc r
    simp only [List.flatMap_cons, List.length_append, List.length_cons]
    omega
theorem flat_bound (hc : c.Lawful) : ∀ xs : List α, (∀ x ∈ xs, c.okr x) → (∀ x ∈ xs, c.sm x) → (xs.flatMap c.enc).length ≤ xs.length * c.bnd
  | [], _, _ => by simp
  | x :: r, h, hs => by
    have h1 := hc.bound (h x (by simp)) (hs x (by simp))
    have h2 := flat_bound hc r (fun y hy => h y (by simp [hy])) (fun y hy => hs y (by simp [hy]))
    simp only [List.flatMap_cons, List.length_append, List.length_cons, Nat.add_mul, Nat.one_mul]
    omega
theorem cL_law (hc : c.Lawful) : (cL c).Lawful where
  fwd := by
    intro ys l s xs h hr ho ht
    obtain ⟨r, hr⟩ := hr
    have hr' : ys = l ++ (uv xs.length ++ xs.flatMap c.enc) ++ r := hr
    have e := getU_fwd (ys := ys) (l := l) (m := xs.length) (r := xs.flatMap c.enc ++ r) (by rw [hr']; simp) ho.1
    have hfl := flat_len hc xs
    have hyl : ys.length = l.length + (uv xs.length).length + (xs.flatMap c.enc).length + r.length := by rw [hr']; simp; omega
    have h1 : AtL ys ⟨(l ++ uv xs.length).length, false⟩ (l ++ uv xs.length) := ⟨rfl, rfl, xs.flatMap c.enc ++ r, by rw [hr']; simp⟩
    obtain ⟨g2, k2⟩ := iter_fwd hc xs _ _ [] h1 ⟨r, by rw [hr']; simp⟩ ho.2 ht
    show (rdL c.rd ys s).1 = xs ∧ AtL ys (rdL c.rd ys s).2 (l ++ (uv xs.length ++ xs.flatMap c.enc))
    have e3 : rdL c.rd ys s = rdIter (c.rd ys) xs.length ⟨(l ++ uv xs.length).length, false⟩ [] := by
      rw [h.eq]
      unfold rdL
      rw [if_neg (by simp)]
      simp only [e]
      rw [if_neg (by omega)]
    rw [e3, ← List.append_assoc]
    exact ⟨by rw [g2]; rfl, k2⟩
  back := by
    intro ys l s h hb
    have hb' : (rdL c.rd ys s).2.bad = false := hb
    show ((rdL c.rd ys s).1.length < 18446744073709551616 ∧ ∀ x ∈ (rdL c.rd ys s).1, c.okr x) ∧ (rdL c.rd ys s).1.all c.okt = true ∧ AtL ys (rdL c.rd ys s).2 (l ++ (uv (rdL c.rd ys s).1.length ++ (rdL c.rd ys s).1.flatMap c.enc))
    rw [h.eq] at hb' ⊢
    unfold rdL at hb' ⊢
    rw [if_neg (by simp)] at hb' ⊢
    simp only at hb' ⊢
    by_cases hcn : (getU ys l.length).2.2 ≠ 0 ∨ ys.length < (getU ys l.length).1
    · rw [if_pos hcn] at hb'; cases hb'
    · rw [if_neg hcn] at hb' ⊢
      have he : (getU ys l.length).2.2 = 0 := Classical.not_not.1 fun e => hcn (.inl e)
      obtain ⟨h1, h2, h3⟩ := getU_back h.pre he
      obtain ⟨xs, hl, e, hx, ht, k⟩ := iter_back hc _ (l ++ uv (getU ys l.length).1) _ [] ⟨rfl, h2, h3⟩ hb'
      rw [List.nil_append] at e
      rw [e]
      refine ⟨⟨by omega, hx⟩, ht, ?_⟩
      rw [hl, ← List.append_assoc]
      exact k
  bad := by
    intro ys s h
    have h' : (rdL c.rd ys s).2.bad = false := h
    unfold rdL at h'
    by_cases hb : s.bad = true
    · rw [if_pos hb] at h'; exact h'
    · simpa using hb
  pos := by
    intro ys s hl hp
    have hg := getU_range ys s.pos hl
    show PosOk (rdL c.rd ys s).2
    unfold rdL
    split
    · exact hp
    · split
      · exact hp
      · exact iter_pos hc hl _ _ _ (by show _ ≤ _; simp; omega)
  one xs := by
    show 1 ≤ (uv xs.length ++ xs.flatMap c.enc).length
    have := uv_pos xs.length
    rw [List.length_append]; omega
  bound := by
    intro xs ho hs
    have h1 := flat_bound hc xs ho.2 hs.2
    have h2 := uv_len10 ho.1
    have h3 : xs.length * c.bnd ≤ 20000 * c.bnd := Nat.mul_le_mul_right _ hs.1
    show (uv xs.length ++ xs.flatMap c.enc).length ≤ 10 + 20000 * c.bnd
    rw [List.length_append]; omega
end
/-- what is read of bytes as a whole -/
def Cd.all {α : Type} (c : Cd α) (ys : List UInt8) : Bool := !(c.rd ys ⟨0, false⟩).2.bad && decide ((c.rd ys ⟨0, false⟩).2.pos = ys.length)
theorem Cd.Lawful.whole {α : Type} {c : Cd α} (hc : c.Lawful) {x : α} (r : List UInt8) (ho : c.okr x) (ht : c.okt x = true) : c.rd (c.enc x ++ r) ⟨0, false⟩ = (x, ⟨(c.enc x).length, false⟩) := by
  obtain ⟨g, k⟩ := hc.fwd (ys := c.enc x ++ r) (l := []) (s := ⟨0, false⟩) (x := x) ⟨rfl, rfl, _, rfl⟩ ⟨r, rfl⟩ ho ht
  rw [List.nil_append] at k
  exact Prod.ext g k.eq
theorem Cd.Lawful.reads {α : Type} {c : Cd α} (hc : c.Lawful) {x : α} (ho : c.okr x) (ht : c.okt x = true) : c.all (c.enc x) = true ∧ (c.rd (c.enc x) ⟨0, false⟩).1 = x := by
  have := hc.whole [] ho ht
  rw [List.append_nil] at this
  unfold Cd.all
  rw [this]
  simp
theorem Cd.Lawful.was {α : Type} {c : Cd α} (hc : c.Lawful) {ys : List UInt8} (h : c.all ys = true) :
    ys = c.enc (c.rd ys ⟨0, false⟩).1 ∧ c.okr (c.rd ys ⟨0, false⟩).1 ∧ c.okt (c.rd ys ⟨0, false⟩).1 = true := by
  unfold Cd.all at h
  simp only [Bool.and_eq_true, decide_eq_true_eq, Bool.not_eq_true'] at h
  obtain ⟨h1, h2, h3⟩ := hc.back (ys := ys) (l := []) (s := ⟨0, false⟩) ⟨rfl, rfl, ys, rfl⟩ h.1
  refine ⟨?_, h1, h2⟩
  obtain ⟨r, hr⟩ := h3.pre
  have hp := h3.pos
  rw [h.2] at hp
  rw [List.nil_append] at hr hp
  have : r = [] := by
    have := congrArg List.length hr
    rw [List.length_append] at this
    apply List.eq_nil_of_length_eq_zero
    omega
  rw [this, List.append_nil] at hr
  exact hr
theorem Cd.Lawful.more {α : Type} {c : Cd α} (hc : c.Lawful) {x : α} (b : UInt8) (ho : c.okr x) (ht : c.okt x = true) : c.all (c.enc x ++ [b]) = false := by
  unfold Cd.all
  rw [hc.whole [b] ho ht]
  simp
  omega
theorem Cd.Lawful.cut {α : Type} {c : Cd α} (hc : c.Lawful) {x : α} {k : Nat} (ho : c.okr x) (ht : c.okt x = true) (hk : k < (c.enc x).length) : c.all ((c.enc x).take k) = false := by
  cases hb : c.all ((c.enc x).take k) with
  | false => rfl
  | true =>
    exfalso
    obtain ⟨h1, h2, h3⟩ := hc.was hb
    generalize hy : (c.enc x).take k = ys at *
    have h4 : c.enc x = c.enc (c.rd ys ⟨0, false⟩).1 ++ (c.enc x).drop k := by rw [← h1, ← hy, List.take_append_drop]
    have h5 := hc.whole ((c.enc x).drop k) h2 h3
    rw [← h4] at h5
    have h6 := hc.whole [] ho ht
    rw [List.append_nil, h5] at h6
    injection h6 with _ h6
    injection h6 with h6 _
    have h7 := congrArg List.length h1
    have h8 := congrArg List.length hy
    rw [List.length_take] at h8
    omega
theorem Cd.Lawful.inj {α : Type} {c : Cd α} (hc : c.Lawful) {x y : α} (ho : c.okr x) (ht : c.okt x = true) (ho2 : c.okr y) (ht2 : c.okt y = true) (h : c.enc x = c.enc y) : x = y := by
  have e := (hc.reads ho ht).2
  rw [h, (hc.reads ho2 ht2).2] at e
  exact e.symm
end Go.Proofs.YthehpafkaefohaaDoor
namespace Go.Proofs.YthehpafkaefohaaDoor
open Go.RowKit
/-- a kind of data in memory: how many cells, the types of the rows beneath; how it reads; how the call has made it -/
structure Mv (α : Type) where
  n : Nat
  ts : List TypeId
  rep : Nat → World → List Value → α → Prop
  own : Nat → World → List Value → α → Prop
/-- the rows of these types stay as they are -/
def Stay (ts : List TypeId) (w w' : World) : Prop := ∀ (k : Nat) (cs : Array Value) (T : TypeId) (fr : Nat × Nat), T ∈ ts → w.heap[k]? = some (.cells cs T fr) → w'.heap[k]? = some (.cells cs T fr)
theorem Stay.refl (ts : List TypeId) (w : World) : Stay ts w w := fun _ _ _ _ _ h => h
theorem Stay.trans {ts : List TypeId} {a b c : World} (h : Stay ts a b) (k : Stay ts b c) : Stay ts a c := fun i cs T fr hT hh => k i cs T fr hT (h i cs T fr hT hh)
theorem Stay.sub {ts us : List TypeId} {w w' : World} (h : Stay ts w w') (hs : ∀ t ∈ us, t ∈ ts) : Stay us w w' := fun k cs T fr hT hh => h k cs T fr (hs T hT) hh
theorem Stay.below {ts : List TypeId} {w w' : World} (h : Below w.heap.size w w') : Stay ts w w' := fun _ _ _ _ _ hh => blk_below h hh
/-- a step that turns one block, of another type, or none that was there -/
theorem Stay.grown {ts : List TypeId} {w w' : World} {row : Option Nat} (h : w.grownBy w' row) (hr : ∀ k cs T fr, row = some k → w.heap[k]? = some (.cells cs T fr) → T ∉ ts) : Stay ts w w' := fun k cs T fr hT hh =>
  (h.block k (blk_lt hh) (fun e => hr k cs T fr e.symm hh hT)).trans hh
structure Mv.Lawful {α : Type} (m : Mv α) : Prop where
  pos : 0 < m.n
  len : ∀ {B : Nat} {w : World} {vs : List Value} {x : α}, m.rep B w vs x → vs.length = m.n
  olen : ∀ {b : Nat} {w : World} {vs : List Value} {x : α}, m.own b w vs x → vs.length = m.n
  keep : ∀ {B : Nat} {w w' : World} {vs : List Value} {x : α}, m.rep B w vs x → Below B w w' → m.rep B w' vs x
  toRep : ∀ {b : Nat} {w : World} {vs : List Value} {x : α}, m.own b w vs x → m.rep w.heap.size w vs x
  okeep : ∀ {b : Nat} {w w' : World} {vs : List Value} {x : α}, m.own b w vs x → Stay m.ts w w' → m.own b w' vs x
  cell : ∀ {b : Nat} {w : World} {vs : List Value} {x : α}, m.own b w vs x → ∀ u ∈ vs, u.oneCell' = true
  rcell : ∀ {B : Nat} {w : World} {vs : List Value} {x : α}, m.rep B w vs x → ∀ u ∈ vs, u.oneCell' = true
def mOne {α : Type} (f : α → Value) : Mv α := ⟨1, [], fun _ _ vs x => vs = [f x], fun _ _ vs x => vs = [f x]⟩
theorem mOne_law {α : Type} (f : α → Value) (hf : ∀ x, (f x).oneCell' = true) : (mOne f).Lawful where
  pos := Nat.one_pos
  len h := by
    have h : _ = [f _] := h
    rw [h]; rfl
  olen h := by
    have h : _ = [f _] := h
    rw [h]; rfl
  keep h _ := h
  toRep h := h
  okeep h _ := h
  cell h := by
    have h : _ = [f _] := h
    intro u hu
    rw [h] at hu
    simp at hu
    rw [hu]; exact hf _
  rcell h := by
    have h : _ = [f _] := h
    intro u hu
    rw [h] at hu
    simp at hu
    rw [hu]; exact hf _
def mI : Mv Int := mOne (Value.int .i64)
def mB : Mv Int := mOne (Value.int .u8)
def mS : Mv ByteArray := mOne Value.string
def mF : Mv Bool := mOne Value.bool
theorem mI_law : mI.Lawful := mOne_law _ fun _ => rfl
theorem mB_law : mB.Lawful := mOne_law _ fun _ => rfl
theorem mS_law : mS.Lawful := mOne_law _ fun _ => rfl
theorem mF_law : mF.Lawful := mOne_law _ fun _ => rfl
def mSeq {α β : Type} (a : Mv α) (b : Mv β) : Mv (α × β) :=
  ⟨a.n + b.n, a.ts ++ b.ts, fun B w vs x => ∃ us ws, vs = us ++ ws ∧ a.rep B w us x.1 ∧ b.rep B w ws x.2, fun c w vs x => ∃ us ws, vs = us ++ ws ∧ a.own c w us x.1 ∧ b.own c w ws x.2⟩
theorem mSeq_law {α β : Type} {a : Mv α} {b : Mv β} (ha : a.Lawful) (hb : b.Lawful) : (mSeq a b).Lawful where
  pos := Nat.lt_of_lt_of_le ha.pos (Nat.le_add_right _ _)
  len h := by
    obtain ⟨us, ws, rfl, h1, h2⟩ := h
    rw [List.length_append, ha.len h1, hb.len h2]; rfl
  olen h := by
    obtain ⟨us, ws, rfl, h1, h2⟩ := h
    rw [List.length_append, ha.olen h1, hb.olen h2]; rfl
  keep h k := by
    obtain ⟨us, ws, rfl, h1, h2⟩ := h
    exact ⟨us, ws, rfl, ha.keep h1 k, hb.keep h2 k⟩
  toRep h := by
    obtain ⟨us, ws, rfl, h1, h2⟩ := h
    exact ⟨us, ws, rfl, ha.toRep h1, hb.toRep h2⟩
  okeep h k := by
    obtain ⟨us, ws, rfl, h1, h2⟩ := h
    exact ⟨us, ws, rfl, ha.okeep h1 (k.sub fun t ht => List.mem_append_left _ ht), hb.okeep h2 (k.sub fun t ht => List.mem_append_right _ ht)⟩
  cell h := by
    obtain ⟨us, ws, rfl, h1, h2⟩ := h
    intro u hu
    rcases List.mem_append.1 hu with hu | hu
    · exact ha.cell h1 u hu
    · exact hb.cell h2 u hu
  rcell h := by
    obtain ⟨us, ws, rfl, h1, h2⟩ := h
    intro u hu
    rcases List.mem_append.1 hu with hu | hu
    · exact ha.rcell h1 u hu
    · exact hb.rcell h2 u hu
/-- the same cells, told in another order -/
def mIso {α β : Type} (f : β → α) (m : Mv α) : Mv β := ⟨m.n, m.ts, fun B w vs y => m.rep B w vs (f y), fun b w vs y => m.own b w vs (f y)⟩
theorem mIso_law {α β : Type} (f : β → α) {m : Mv α} (h : m.Lawful) : (mIso f m).Lawful := ⟨h.pos, h.len, h.olen, h.keep, h.toRep, h.okeep, h.cell, h.rcell⟩
/-- a list that reads -/
def LRep {α : Type} (m : Mv α) (B : Nat) (w : World) (v : Value) (xs : List α) : Prop := ((∃ A c, v = .slice A 0 c) ∧ xs = []) ∨
  ∃ b o c, v = .slice (some ⟨b, o, none⟩) xs.length c ∧ xs.length ≤ c ∧ c ≤ maxLen ∧ b < B ∧ ∀ (j : Nat) (x : α), xs[j]? = some x → ∃ us, (∀ (i : Nat) (u : Value), us[i]? = some u → w.cell? ⟨b, o + j * m.n + i, none⟩ = some u) ∧ m.rep B w us x
/-- a list that the call has made -/
def LOwn {α : Type} (T : TypeId) (m : Mv α) (base : Nat) (w : World) (v : Value) (xs : List α) : Prop :=
  ∃ cells, w.ownsRow base T m.n v xs.length cells ∧ ∀ (j : Nat) (x : α), xs[j]? = some x → m.own base w ((cells.drop (j * m.n)).take m.n) x
def mL {α : Type} (T : TypeId) (m : Mv α) : Mv (List α) := ⟨1, T :: m.ts, fun B w vs xs => ∃ v, vs = [v] ∧ LRep m B w v xs, fun b w vs xs => ∃ v, vs = [v] ∧ LOwn T m b w v xs⟩
theorem LRep.form {α : Type} {m : Mv α} {B : Nat} {w : World} {v : Value} {xs : List α} (h : LRep m B w v xs) : ∃ A c, v = .slice A xs.length c := by
  rcases h with ⟨⟨A, c, rfl⟩, rfl⟩ | ⟨b, o, c, rfl, _⟩
  · exact ⟨A, c, rfl⟩
  · exact ⟨_, c, rfl⟩
theorem LRep.max {α : Type} {m : Mv α} {B : Nat} {w : World} {v : Value} {xs : List α} (h : LRep m B w v xs) : xs.length ≤ 9223372036854775807 := by
  rcases h with ⟨_, rfl⟩ | ⟨b, o, c, rfl, h1, h2, _⟩
  · simp
  · simp only [maxLen] at h2; omega
theorem LRep.keep {α : Type} {m : Mv α} (hm : m.Lawful) {B : Nat} {w w' : World} {v : Value} {xs : List α} (h : LRep m B w v xs) (hb : Below B w w') : LRep m B w' v xs := by
  rcases h with h | ⟨b, o, c, rfl, h1, h2, h3, h4⟩
  · exact .inl h
  · refine .inr ⟨b, o, c, rfl, h1, h2, h3, fun j x hx => ?_⟩
    obtain ⟨us, hu, hr⟩ := h4 j x hx
    exact ⟨us, fun i u hi => (hb.cell (p := ⟨b, o + j * m.n + i, none⟩) h3).trans (hu i u hi), hm.keep hr hb⟩
/-- an element's cells -/
theorem LRep.at {α : Type} {m : Mv α} {B : Nat} {w : World} {A : Option Addr} {n c : Nat} {xs : List α} (h : LRep m B w (.slice A n c) xs) {k : Nat} {x : α} (hx : xs[k]? = some x) :
    ∃ b o us, A = some ⟨b, o, none⟩ ∧ b < B ∧ (∀ (i : Nat) (u : Value), us[i]? = some u → w.cell? ⟨b, o + k * m.n + i, none⟩ = some u) ∧ m.rep B w us x := by
  rcases h with ⟨_, h8⟩ | ⟨b, o, c', h9, _, _, h12, h13⟩
  · rw [h8] at hx; simp at hx
  · injection h9 with h9
    obtain ⟨us, hu, hr⟩ := h13 k x hx
    exact ⟨b, o, us, h9, h12, hu, hr⟩
theorem LOwn.form {α : Type} {T : TypeId} {m : Mv α} {base : Nat} {w : World} {v : Value} {xs : List α} (h : LOwn T m base w v xs) : ∃ A c, v = .slice A xs.length c := by
  obtain ⟨cells, ho, _⟩ := h
  rcases ho.2 with ⟨rfl, h2⟩ | ⟨g, cap, cur, rfl, _⟩
  · exact ⟨_, _, by rw [h2]⟩
  · exact ⟨_, _, rfl⟩
theorem LOwn.nil {α : Type} {T : TypeId} {m : Mv α} (base : Nat) (w : World) : LOwn T m base w (.slice none 0 0) [] := ⟨[], World.ownsRow_nil _ _ _ _, fun j x h => by simp at h⟩
theorem LOwn.rep {α : Type} {T : TypeId} {m : Mv α} (hm : m.Lawful) {base : Nat} {w : World} {v : Value} {xs : List α} (h : LOwn T m base w v xs) : LRep m w.heap.size w v xs := by
  obtain ⟨cells, ho, he⟩ := h
  have ho2 := ho
  rcases ho.2 with ⟨rfl, h2⟩ | ⟨g, cap, cur, rfl, hb, hh, h3, h4, h5, h6⟩
  · exact .inl ⟨⟨_, _, rfl⟩, List.eq_nil_of_length_eq_zero h2⟩
  · refine .inr ⟨g, 0, cap, rfl, h3, h4, blk_lt hh, fun j x hj => ⟨_, fun i u hi => ?_, hm.toRep (he j x hj)⟩⟩
    have hi2 : i < m.n ∧ cells[j * m.n + i]? = some u := by
      rw [List.getElem?_take] at hi
      split at hi
      · rename_i hlt
        rw [List.getElem?_drop] at hi
        exact ⟨hlt, hi⟩
      · cases hi
    have := World.ownsRow.cells ho2 (g := g) rfl (j * m.n + i) u hi2.2
    rw [addr_add] at this
    rw [Nat.add_assoc]
    exact this
theorem own_stay {base n size : Nat} {e : TypeId} {v : Value} {xs : List Value} {w w' : World} {ts : List TypeId} (ho : w.ownsRow base e size v n xs) (h : Stay ts w w') (he : e ∈ ts) : w'.ownsRow base e size v n xs := by
  refine ⟨ho.1, ?_⟩
  rcases ho.2 with h2 | ⟨g, cap, cur, rfl, hb, hh, hr⟩
  · exact .inl h2
  · exact .inr ⟨g, cap, cur, rfl, hb, h g cur e _ he hh, hr⟩
theorem LOwn.keep {α : Type} {T : TypeId} {m : Mv α} (hm : m.Lawful) {base : Nat} {w w' : World} {v : Value} {xs : List α} (h : LOwn T m base w v xs) (hs : Stay (T :: m.ts) w w') : LOwn T m base w' v xs := by
  obtain ⟨cells, ho, he⟩ := h
  exact ⟨cells, own_stay ho hs (by simp), fun j x hj => hm.okeep (he j x hj) (hs.sub fun t ht => by simp [ht])⟩
/-- one element more, by an append -/
theorem LOwn.push {α : Type} {T : TypeId} {m : Mv α} (hm : m.Lawful) (hT : T ∉ m.ts) {base : Nat} {w w' : World} {v v' : Value} {xs : List α} {cells us : List Value} {x : α} (ho : w.ownsRow base T m.n v xs.length cells) (he : ∀ (j : Nat) (x : α), xs[j]? = some x → m.own base w ((cells.drop (j * m.n)).take m.n) x)
    (hx : m.own base w us x) (ho' : w'.ownsRow base T m.n v' (xs.length + 1) (cells ++ us)) (hg : w.grownBy w' v.ownBlock) : LOwn T m base w' v' (xs ++ [x]) := by
  have hst : Stay m.ts w w' := Stay.grown hg (fun k cs T' fr e hh hm' => by
    rcases ho.2 with ⟨rfl, _⟩ | ⟨g, cap, cur, rfl, hb, hh2, _⟩
    · cases e
    · injection e with e
      subst e
      rw [hh] at hh2
      injection hh2 with hh2
      injection hh2 with _ hh2
      rw [hh2] at hm'
      exact hT hm')
  have hul := hm.olen hx
  refine ⟨cells ++ us, by rw [List.length_append]; exact ho', fun j y hj => ?_⟩
  have hcl := ho.1
  by_cases hlt : j < xs.length
  · rw [List.getElem?_append_left hlt] at hj
    have h1 : j * m.n + m.n ≤ cells.length := by
      rw [hcl]
      have : (j + 1) * m.n ≤ xs.length * m.n := Nat.mul_le_mul_right _ hlt
      rw [Nat.add_mul, Nat.one_mul] at this
      exact this
    rw [List.drop_append_of_le_length (by omega), List.take_append_of_le_length (by rw [List.length_drop]; omega)]
    exact hm.okeep (he j y hj) hst
  · rw [List.getElem?_append_right (by omega)] at hj
    have hj0 : j = xs.length := by
      have := (List.getElem?_eq_some_iff.1 hj).1
      simp at this; omega
    subst hj0
    simp at hj
    subst hj
    rw [← hcl, List.drop_left, ← hul, List.take_length]
    exact hm.okeep hx hst
theorem mL_law {α : Type} {T : TypeId} {m : Mv α} (hm : m.Lawful) : (mL T m).Lawful where
  pos := Nat.one_pos
  len h := by obtain ⟨v, rfl, _⟩ := h; rfl
  olen h := by obtain ⟨v, rfl, _⟩ := h; rfl
  keep h k := by obtain ⟨v, rfl, h⟩ := h; exact ⟨v, rfl, h.keep hm k⟩
  toRep h := by obtain ⟨v, rfl, h⟩ := h; exact ⟨v, rfl, h.rep hm⟩
  okeep h k := by obtain ⟨v, rfl, h⟩ := h; exact ⟨v, rfl, h.keep hm k⟩
  cell h := by
    obtain ⟨v, rfl, h⟩ := h
    obtain ⟨A, c, rfl⟩ := h.form
    intro u hu
    simp at hu
    subst hu; rfl
  rcell h := by
    obtain ⟨v, rfl, h⟩ := h
    obtain ⟨A, c, rfl⟩ := h.form
    intro u hu
    simp at hu
    subst hu; rfl
/-- data in a block, from a place on -/
def RepAt {α : Type} (m : Mv α) (B : Nat) (w : World) (b o : Nat) (x : α) : Prop := ∃ us, (∀ (i : Nat) (u : Value), us[i]? = some u → w.cell? ⟨b, o + i, none⟩ = some u) ∧ m.rep B w us x
end Go.Proofs.YthehpafkaefohaaDoor

/- Programs as bytes, and what is read of bytes: the plain law. Conditions: none. -/
import Derived.Test.YtckooioikcenmaaDoorPgB0
import Derived.Test.YtckooioikcenmaaDoorPgB1
namespace Go.Proofs.YtckooioikcenmaaDoor
open Go.RowKit
def insB (x : Ins) : List UInt8 := uvs [x.op, x.a, x.b, x.c] ++ iv x.n ++ blobB x.s.data.toList
def bytesOf (name : ByteArray) (regs : Int) (xs : List Ins) : List UInt8 := blobB name.data.toList ++ uvs [regs, xs.length] ++ xs.flatMap insB
/-- where a reader stands, and whether it has failed -/
structure Rd where
  pos : Int
  bad : Bool
def rdNum (ys : List UInt8) (most : Int) (s : Rd) : Int × Rd :=
  if s.bad = true then (0, s) else if (getU ys s.pos).2.2 ≠ 0 ∨ most < (getU ys s.pos).1 then (0, ⟨s.pos, true⟩) else ((getU ys s.pos).1, ⟨(getU ys s.pos).2.1, false⟩)
def rdSig (ys : List UInt8) (s : Rd) : Int × Rd :=
  if s.bad = true then (0, s) else if (getI ys s.pos).2.2 ≠ 0 then (0, ⟨s.pos, true⟩) else ((getI ys s.pos).1, ⟨(getI ys s.pos).2.1, false⟩)
def rdText (ys : List UInt8) (s : Rd) : ByteArray × Rd :=
  if s.bad = true then (⟨#[]⟩, s) else if (getB ys s.pos 40).2.2 ≠ 0 then (⟨#[]⟩, ⟨s.pos, true⟩) else (⟨(getB ys s.pos 40).1.toArray⟩, ⟨(getB ys s.pos 40).2.1, false⟩)
def rdIns (ys : List UInt8) (s : Rd) : Ins × Rd :=
  let o := rdNum ys 255 s
  let a := rdNum ys 255 o.2
  let b := rdNum ys 255 a.2
  let c := rdNum ys 255 b.2
  let n := rdSig ys c.2
  let t := rdText ys n.2
  (⟨o.1, a.1, b.1, c.1, n.1, t.1⟩, t.2)
def rdCode (ys : List UInt8) : Nat → Rd → List Ins → List Ins × Rd
  | 0, s, acc => (acc, s)
  | n + 1, s, acc => if s.bad = true then (acc, s) else rdCode ys n (rdIns ys s).2 (acc ++ [(rdIns ys s).1])
structure Prg where
  name : ByteArray
  regs : Int
  code : List Ins
def rdProg (ys : List UInt8) : Prg × Rd :=
  let t := rdText ys ⟨0, false⟩
  let r := rdNum ys 16 t.2
  let n := rdNum ys 500 r.2
  let c := rdCode ys n.1.toNat n.2 []
  (⟨t.1, r.1, c.1⟩, c.2)
def readsB (ys : List UInt8) : Bool := !(rdProg ys).2.bad && decide ((rdProg ys).2.pos = ys.length) && checkOk (rdProg ys).1.name (rdProg ys).1.regs (rdProg ys).1.code 20
/-- l has been read -/
structure AtL (ys : List UInt8) (s : Rd) (l : List UInt8) : Prop where
  ok : s.bad = false
  pos : s.pos = l.length
  pre : ∃ r, ys = l ++ r
theorem getU_fwd {ys l r : List UInt8} {m : Nat} (h : ys = l ++ uv m ++ r) (hm : m < 18446744073709551616) : getU ys l.length = (m, ((l ++ uv m).length : Int), 0) := by
  have := getU_of (ys := ys) (a := l.length) (by subst h; simp) (n := m) (c := (uv m).length) (e := 0) (by subst h; rw [List.append_assoc, List.drop_left]; exact gU_zero hm r)
  rw [this]; simp
theorem getU_back {ys l : List UInt8} (h : ∃ r, ys = l ++ r) (he : (getU ys l.length).2.2 = 0) :
    (getU ys l.length).1 < 18446744073709551616 ∧ (getU ys l.length).2.1 = ((l ++ uv (getU ys l.length).1).length : Int) ∧ ∃ r, ys = l ++ uv (getU ys l.length).1 ++ r := by
  obtain ⟨rest, h⟩ := h
  generalize hg : gU (ys.drop l.length) 0 0 = g
  obtain ⟨n, c, e⟩ := g
  have h1 := getU_of (ys := ys) (a := l.length) (by subst h; simp) hg
  rw [h1] at he ⊢
  simp only at he
  subst he
  obtain ⟨h2, h3, h4⟩ := gU_zero_back hg
  subst h
  rw [List.drop_left] at h4
  refine ⟨h2, by simp [h3], rest.drop c, ?_⟩
  simp only
  rw [List.append_assoc, ← h4]
theorem AtL.of {ys l : List UInt8} (h : ∃ r, ys = l ++ r) : AtL ys ⟨l.length, false⟩ l := ⟨rfl, rfl, h⟩
theorem AtL.eq {ys l : List UInt8} {s : Rd} (h : AtL ys s l) : s = ⟨l.length, false⟩ := by
  obtain ⟨p, b⟩ := s
  obtain ⟨h1, h2, _⟩ := h
  simp only at h1 h2
  rw [h1, h2]
theorem rdNum_fwd {ys l : List UInt8} {s : Rd} {m : Nat} {most : Int} (h : AtL ys s l) (hr : ∃ r, ys = l ++ uv m ++ r) (hm : m < 18446744073709551616) (hmost : (m : Int) ≤ most) :
    (rdNum ys most s).1 = m ∧ AtL ys (rdNum ys most s).2 (l ++ uv m) := by
  obtain ⟨r, hr⟩ := hr
  have e := getU_fwd hr hm
  rw [h.eq]
  unfold rdNum
  rw [if_neg (by simp)]
  simp only [e]
  rw [if_neg (by omega)]
  exact ⟨rfl, rfl, rfl, r, hr⟩
theorem rdNum_ok {ys : List UInt8} {s : Rd} {most : Int} (h : (rdNum ys most s).2.bad = false) : s.bad = false := by
  unfold rdNum at h
  by_cases hb : s.bad = true
  · rw [if_pos hb] at h; exact h
  · simpa using hb
theorem rdNum_back {ys l : List UInt8} {s : Rd} {most : Int} (h : AtL ys s l) (hb : (rdNum ys most s).2.bad = false) :
    ∃ m : Nat, (rdNum ys most s).1 = m ∧ (m : Int) ≤ most ∧ m < 18446744073709551616 ∧ AtL ys (rdNum ys most s).2 (l ++ uv m) := by
  rw [h.eq] at hb ⊢
  unfold rdNum at hb ⊢
  rw [if_neg (by simp)] at hb ⊢
  simp only at hb ⊢
  by_cases hc : (getU ys l.length).2.2 ≠ 0 ∨ most < (getU ys l.length).1
  · rw [if_pos hc] at hb; cases hb
  · rw [if_neg hc]
    have he : (getU ys l.length).2.2 = 0 := Classical.not_not.1 fun e => hc (.inl e)
    obtain ⟨h1, h2, h3⟩ := getU_back h.pre he
    exact ⟨_, rfl, by omega, h1, rfl, h2, h3⟩
theorem rdSig_fwd {ys l : List UInt8} {s : Rd} {z : Int} (h : AtL ys s l) (hr : ∃ r, ys = l ++ iv z ++ r) (h0 : -9223372036854775808 ≤ z) (h1 : z ≤ 9223372036854775807) :
    (rdSig ys s).1 = z ∧ AtL ys (rdSig ys s).2 (l ++ iv z) := by
  obtain ⟨r, hr⟩ := hr
  rw [iv_zag] at hr ⊢
  have e := getU_fwd hr (zag_lt h0 h1)
  rw [h.eq]
  unfold rdSig getI
  rw [if_neg (by simp)]
  simp only [e, zig_zag]
  rw [if_neg (by omega)]
  exact ⟨rfl, rfl, rfl, r, hr⟩
theorem rdSig_ok {ys : List UInt8} {s : Rd} (h : (rdSig ys s).2.bad = false) : s.bad = false := by
  unfold rdSig at h
  by_cases hb : s.bad = true
  · rw [if_pos hb] at h; exact h
  · simpa using hb
theorem rdSig_back {ys l : List UInt8} {s : Rd} (h : AtL ys s l) (hb : (rdSig ys s).2.bad = false) :
    (-9223372036854775808 ≤ (rdSig ys s).1 ∧ (rdSig ys s).1 ≤ 9223372036854775807) ∧ AtL ys (rdSig ys s).2 (l ++ iv (rdSig ys s).1) := by
  rw [h.eq] at hb ⊢
  unfold rdSig getI at hb ⊢
  rw [if_neg (by simp)] at hb ⊢
  simp only at hb ⊢
  by_cases hc : (getU ys l.length).2.2 ≠ 0
  · rw [if_pos hc] at hb; cases hb
  · rw [if_neg hc]
    have he : (getU ys l.length).2.2 = 0 := Classical.not_not.1 hc
    obtain ⟨h1, h2, h3⟩ := getU_back h.pre he
    refine ⟨zig_range h1, rfl, ?_, ?_⟩
    · rw [iv_zag, zag_zig]; exact h2
    · rw [iv_zag, zag_zig]; exact h3
theorem getB_fwd {ys l r b : List UInt8} {most : Int} (h : ys = l ++ blobB b ++ r) (hb : (b.length : Int) ≤ most) (h64 : b.length < 18446744073709551616) : getB ys l.length most = (b, ((l ++ blobB b).length : Int), 0) := by
  have e := getU_fwd (ys := ys) (l := l) (m := b.length) (r := b ++ r) (by rw [h, blobB]; simp) h64
  unfold getB
  simp only [e]
  unfold gB
  rw [if_neg (by omega), if_neg (by omega)]
  have hl : ys.length = l.length + (uv b.length).length + b.length + r.length := by rw [h, blobB]; simp; omega
  rw [if_neg (by rw [hl, List.length_append]; omega)]
  rw [Int.toNat_natCast, h, blobB]
  rw [show l ++ (uv b.length ++ b) ++ r = (l ++ uv b.length) ++ (b ++ r) by simp, List.drop_left, List.take_left]
  simp
  omega
theorem getB_back {ys l : List UInt8} {most : Int} (h : ∃ r, ys = l ++ r) (he : (getB ys l.length most).2.2 = 0) :
    ((getB ys l.length most).1.length : Int) ≤ most ∧ (getB ys l.length most).2.1 = ((l ++ blobB (getB ys l.length most).1).length : Int) ∧ ∃ r, ys = l ++ blobB (getB ys l.length most).1 ++ r := by
  unfold getB gB at he ⊢
  by_cases h1 : (getU ys l.length).2.2 ≠ 0
  · rw [if_pos h1] at he; exact absurd he h1
  rw [if_neg h1] at he ⊢
  obtain ⟨g1, g2, r, g3⟩ := getU_back h (Classical.not_not.1 h1)
  generalize (getU ys l.length).1 = n at *
  rw [g2] at he ⊢
  by_cases h2 : most < 0 ∨ most < n
  · rw [if_pos h2] at he; simp at he
  rw [if_neg h2] at he ⊢
  by_cases h3 : (ys.length : Int) - ((l ++ uv n).length : Int) < n
  · rw [if_pos h3] at he; simp at he
  rw [if_neg h3]
  have hl : ys.length = (l ++ uv n).length + r.length := by rw [g3, List.length_append]
  have e : (ys.drop (l ++ uv n).length) = r := by rw [g3, List.drop_left]
  have hn : n ≤ r.length := by omega
  simp only [Int.toNat_natCast, e]
  have hlen : (r.take n).length = n := by rw [List.length_take]; omega
  rw [hlen]
  refine ⟨by omega, ?_, r.drop n, ?_⟩
  · simp only [blobB, hlen, List.length_append]; omega
  · simp only [blobB, hlen]
    rw [show l ++ (uv n ++ r.take n) ++ r.drop n = l ++ uv n ++ (r.take n ++ r.drop n) by simp, List.take_append_drop]
    exact g3
theorem rdText_fwd {ys l : List UInt8} {s : Rd} {t : ByteArray} (h : AtL ys s l) (hr : ∃ r, ys = l ++ blobB t.data.toList ++ r) (ht : t.size ≤ 40) :
    (rdText ys s).1 = t ∧ AtL ys (rdText ys s).2 (l ++ blobB t.data.toList) := by
  obtain ⟨r, hr⟩ := hr
  have hs : t.data.toList.length = t.size := rfl
  have e := getB_fwd (most := 40) hr (by omega) (by omega)
  rw [h.eq]
  unfold rdText
  rw [if_neg (by simp)]
  simp only [e]
  rw [if_neg (by omega)]
  exact ⟨rfl, rfl, rfl, r, hr⟩
theorem rdText_ok {ys : List UInt8} {s : Rd} (h : (rdText ys s).2.bad = false) : s.bad = false := by
  unfold rdText at h
  by_cases hb : s.bad = true
  · rw [if_pos hb] at h; exact h
  · simpa using hb
theorem rdText_back {ys l : List UInt8} {s : Rd} (h : AtL ys s l) (hb : (rdText ys s).2.bad = false) :
    (rdText ys s).1.size ≤ 40 ∧ AtL ys (rdText ys s).2 (l ++ blobB (rdText ys s).1.data.toList) := by
  rw [h.eq] at hb ⊢
  unfold rdText at hb ⊢
  rw [if_neg (by simp)] at hb ⊢
  simp only at hb ⊢
  by_cases hc : (getB ys l.length 40).2.2 ≠ 0
  · rw [if_pos hc] at hb; cases hb
  · rw [if_neg hc]
    have he : (getB ys l.length 40).2.2 = 0 := Classical.not_not.1 hc
    obtain ⟨h1, h2, h3⟩ := getB_back h.pre he
    refine ⟨?_, rfl, h2, h3⟩
    show ((getB ys l.length 40).1.toArray).size ≤ 40
    simp; omega
/-- what an instruction's numbers are, where it may be -/
def InsR (x : Ins) : Prop := (0 ≤ x.op ∧ x.op ≤ 255) ∧ (0 ≤ x.a ∧ x.a ≤ 255) ∧ (0 ≤ x.b ∧ x.b ≤ 255) ∧ (0 ≤ x.c ∧ x.c ≤ 255) ∧ (-9223372036854775808 ≤ x.n ∧ x.n ≤ 9223372036854775807) ∧ x.s.size ≤ 40
theorem insB_eq (x : Ins) : insB x = uv x.op.toNat ++ uv x.a.toNat ++ uv x.b.toNat ++ uv x.c.toNat ++ iv x.n ++ blobB x.s.data.toList := by simp [insB, uvs]
theorem num_fwd {ys l : List UInt8} {s : Rd} {m most : Int} (h : AtL ys s l) (hr : ∃ r, ys = l ++ uv m.toNat ++ r) (h0 : 0 ≤ m) (hm : m ≤ most) (h64 : most ≤ 1000) :
    (rdNum ys most s).1 = m ∧ AtL ys (rdNum ys most s).2 (l ++ uv m.toNat) := by
  obtain ⟨k, rfl⟩ := Int.eq_ofNat_of_zero_le h0
  rw [Int.toNat_natCast] at hr ⊢
  exact rdNum_fwd h hr (by omega) hm
theorem num_back {ys l : List UInt8} {s : Rd} {most : Int} (h : AtL ys s l) (hb : (rdNum ys most s).2.bad = false) :
    (0 ≤ (rdNum ys most s).1 ∧ (rdNum ys most s).1 ≤ most) ∧ AtL ys (rdNum ys most s).2 (l ++ uv (rdNum ys most s).1.toNat) := by
  obtain ⟨m, h1, h2, h3, h4⟩ := rdNum_back h hb
  rw [h1, Int.toNat_natCast]
  exact ⟨⟨by omega, h2⟩, h4⟩
theorem rdIns_fwd {ys l : List UInt8} {s : Rd} {x : Ins} (h : AtL ys s l) (hr : ∃ r, ys = l ++ insB x ++ r) (hx : InsR x) :
    (rdIns ys s).1 = x ∧ AtL ys (rdIns ys s).2 (l ++ insB x) := by
  obtain ⟨⟨a0, a1⟩, ⟨b0, b1⟩, ⟨c0, c1⟩, ⟨d0, d1⟩, ⟨e0, e1⟩, f1⟩ := hx
  obtain ⟨r, hr⟩ := hr
  rw [insB_eq] at hr ⊢
  obtain ⟨g1, h1⟩ := num_fwd (most := 255) h ⟨_, by rw [hr]; simp only [List.append_assoc]; rfl⟩ a0 a1 (by omega)
  obtain ⟨g2, h2⟩ := num_fwd (most := 255) (m := x.a) h1 ⟨_, by rw [hr]; simp only [List.append_assoc]; rfl⟩ b0 b1 (by omega)
  obtain ⟨g3, h3⟩ := num_fwd (most := 255) (m := x.b) h2 ⟨_, by rw [hr]; simp only [List.append_assoc]; rfl⟩ c0 c1 (by omega)
  obtain ⟨g4, h4⟩ := num_fwd (most := 255) (m := x.c) h3 ⟨_, by rw [hr]; simp only [List.append_assoc]; rfl⟩ d0 d1 (by omega)
  obtain ⟨g5, h5⟩ := rdSig_fwd (z := x.n) h4 ⟨_, by rw [hr]; simp only [List.append_assoc]; rfl⟩ e0 e1
  obtain ⟨g6, h6⟩ := rdText_fwd (t := x.s) h5 ⟨_, by rw [hr]; simp only [List.append_assoc]; rfl⟩ f1
  refine ⟨?_, ?_⟩
  · show (⟨_, _, _, _, _, _⟩ : Ins) = x
    rw [g1, g2, g3, g4, g5, g6]
  · have := h6
    simp only [List.append_assoc] at this ⊢
    exact this
theorem rdIns_back {ys l : List UInt8} {s : Rd} (h : AtL ys s l) (hb : (rdIns ys s).2.bad = false) :
    InsR (rdIns ys s).1 ∧ AtL ys (rdIns ys s).2 (l ++ insB (rdIns ys s).1) := by
  have b6 : (rdText ys (rdSig ys (rdNum ys 255 (rdNum ys 255 (rdNum ys 255 (rdNum ys 255 s).2).2).2).2).2).2.bad = false := hb
  have b5 := rdText_ok b6
  have b4 := rdSig_ok b5
  have b3 := rdNum_ok b4
  have b2 := rdNum_ok b3
  have b1 := rdNum_ok b2
  obtain ⟨r1, h1⟩ := num_back h b1
  obtain ⟨r2, h2⟩ := num_back h1 b2
  obtain ⟨r3, h3⟩ := num_back h2 b3
  obtain ⟨r4, h4⟩ := num_back h3 b4
  obtain ⟨r5, h5⟩ := rdSig_back h4 b5
  obtain ⟨r6, h6⟩ := rdText_back h5 b6
  refine ⟨⟨r1, r2, r3, r4, r5, r6⟩, ?_⟩
  rw [insB_eq]
  have := h6
  simp only [List.append_assoc] at this ⊢
  exact this
theorem rdCode_fwd {ys : List UInt8} : ∀ (xs : List Ins) (l : List UInt8) (s : Rd) (acc : List Ins), AtL ys s l → (∃ r, ys = l ++ xs.flatMap insB ++ r) → (∀ x ∈ xs, InsR x) →
    (rdCode ys xs.length s acc).1 = acc ++ xs ∧ AtL ys (rdCode ys xs.length s acc).2 (l ++ xs.flatMap insB)
  | [], l, s, acc, h, hr, hx => by simpa [rdCode] using h
  | x :: xs, l, s, acc, h, ⟨r, hr⟩, hx => by
    obtain ⟨g1, h1⟩ := rdIns_fwd (x := x) h ⟨_, by rw [hr]; simp only [List.flatMap_cons, List.append_assoc]; rfl⟩ (hx x (by simp))
    obtain ⟨g2, h2⟩ := rdCode_fwd xs (l ++ insB x) (rdIns ys s).2 (acc ++ [(rdIns ys s).1]) h1 ⟨r, by rw [hr]; simp only [List.flatMap_cons, List.append_assoc]⟩ (fun y hy => hx y (by simp [hy]))
    have e : rdCode ys (x :: xs).length s acc = rdCode ys xs.length (rdIns ys s).2 (acc ++ [(rdIns ys s).1]) := by
      show rdCode ys (xs.length + 1) s acc = _
      rw [rdCode, if_neg (by rw [h.ok]; simp)]
    rw [e, g2, g1]
    refine ⟨by simp, ?_⟩
    have := h2
    rw [g1] at this
    simp only [List.flatMap_cons, List.append_assoc] at this ⊢
    exact this
theorem rdCode_ok {ys : List UInt8} : ∀ (n : Nat) (s : Rd) (acc : List Ins), (rdCode ys n s acc).2.bad = false → s.bad = false
  | 0, s, acc, h => h
  | n + 1, s, acc, h => by
    rw [rdCode] at h
    by_cases hb : s.bad = true
    · rw [if_pos hb] at h; exact h
    · simpa using hb
theorem rdCode_back {ys : List UInt8} : ∀ (n : Nat) (l : List UInt8) (s : Rd) (acc : List Ins), AtL ys s l → (rdCode ys n s acc).2.bad = false →
    ∃ xs, xs.length = n ∧ (rdCode ys n s acc).1 = acc ++ xs ∧ (∀ x ∈ xs, InsR x) ∧ AtL ys (rdCode ys n s acc).2 (l ++ xs.flatMap insB)
  | 0, l, s, acc, h, hb => ⟨[], rfl, by simp [rdCode], by simp, by simpa [rdCode] using h⟩
  | n + 1, l, s, acc, h, hb => by
    rw [rdCode, if_neg (by rw [h.ok]; simp)] at hb ⊢
    obtain ⟨r1, h1⟩ := rdIns_back h (rdCode_ok n _ _ hb)
    obtain ⟨xs, hl, e, hx, h2⟩ := rdCode_back n _ _ _ h1 hb
    refine ⟨(rdIns ys s).1 :: xs, by simp [hl], by rw [e]; simp, ?_, ?_⟩
    · intro x hm
      rcases List.mem_cons.1 hm with rfl | hm
      · exact r1
      · exact hx x hm
    · have := h2
      simp only [List.flatMap_cons, List.append_assoc] at this ⊢
      exact this
theorem letter_not_j {o : Int} (k : Nat) (hk : k < 4) (h : letter (shapeOf o) k = 106) : k = 3 := by
  by_cases h1 : 1 ≤ o ∧ o ≤ 16
  · have h2 : ∀ k < 4, ∀ n : Nat, 1 ≤ n → n < 17 → letter (shapeOf (n : Int)) k = 106 → k = 3 := by
      intro k hk n hn1 hn2
      have : n = 1 ∨ n = 2 ∨ n = 3 ∨ n = 4 ∨ n = 5 ∨ n = 6 ∨ n = 7 ∨ n = 8 ∨ n = 9 ∨ n = 10 ∨ n = 11 ∨ n = 12 ∨ n = 13 ∨ n = 14 ∨ n = 15 ∨ n = 16 := by omega
      have hk' : k = 0 ∨ k = 1 ∨ k = 2 ∨ k = 3 := by omega
      rcases this with rfl | rfl | rfl | rfl | rfl | rfl | rfl | rfl | rfl | rfl | rfl | rfl | rfl | rfl | rfl | rfl <;>
        rcases hk' with rfl | rfl | rfl | rfl <;> decide
    obtain ⟨n, rfl⟩ := Int.eq_ofNat_of_zero_le (show 0 ≤ o by omega)
    exact h2 k hk n (by omega) (by omega) h
  · exfalso
    have e : shapeOf o = ⟨#[]⟩ := by
      unfold shapeOf
      repeat (rw [if_neg (by omega)])
    rw [e] at h
    simp [letter] at h
theorem may_small {regs len : Int} {l : Nat} {n : Int} (hl : l ≠ 110) (hj : l ≠ 106) (hr : regs ≤ 16) (h : mayOk regs len 20 l n = true) : 0 ≤ n ∧ n ≤ 255 := by
  have key : ∀ h : Int, h ≤ 255 → belowOk h n = true → 0 ≤ n ∧ n ≤ 255 := fun h hh hb => by
    have := belowOk_iff.1 hb
    omega
  unfold mayOk at h
  rw [if_neg hj, if_neg hl] at h
  split at h
  · exact key _ (by omega) h
  split at h
  · exact key _ (by omega) h
  exact key 1 (by omega) h
theorem fits_small {regs len : Int} {i : Ins} (hr : regs ≤ 16) (hlen : len ≤ 500) (h : fitsOk regs len 20 i = true) (hn : -9223372036854775808 ≤ i.n ∧ i.n ≤ 9223372036854775807) : InsR i := by
  obtain ⟨⟨o1, o2⟩, _, _, _, hs⟩ := fits_range hr hlen h
  unfold fitsOk at h
  dsimp only at h
  split at h
  · cases h
  simp only [Bool.and_eq_true] at h
  obtain ⟨⟨⟨⟨a1, a2⟩, a3⟩, a4⟩, a5⟩ := h
  have j : ∀ k, k < 3 → letter (shapeOf i.op) k ≠ 110 ∧ letter (shapeOf i.op) k ≠ 106 := fun k hk =>
    ⟨fun e => by have := letter_not_n k (by omega) e; omega, fun e => by have := letter_not_j k (by omega) e; omega⟩
  exact ⟨⟨by omega, by omega⟩, may_small (j 0 (by omega)).1 (j 0 (by omega)).2 hr a1, may_small (j 1 (by omega)).1 (j 1 (by omega)).2 hr a2, may_small (j 2 (by omega)).1 (j 2 (by omega)).2 hr a3, hn, hs⟩
theorem check_parts0 {name : ByteArray} {regs : Int} {xs : List Ins} {p : Int} (h : checkOk name regs xs p = true) : (1 ≤ regs ∧ regs ≤ 16) ∧ (xs.length : Int) ≤ 500 ∧ name.size ≤ 40 ∧ ∀ x ∈ xs, fitsOk regs xs.length p x = true := by
  simp only [checkOk, Bool.and_eq_true, decide_eq_true_eq, namedOk] at h
  obtain ⟨⟨⟨⟨⟨⟨⟨_, h0⟩, h2⟩, h3⟩, h4⟩, h5⟩, h6⟩, _⟩ := h
  exact ⟨⟨h2, h3⟩, by omega, by omega, List.all_eq_true.1 h6⟩
def NOk (xs : List Ins) : Prop := ∀ x ∈ xs, -9223372036854775808 ≤ x.n ∧ x.n ≤ 9223372036854775807
/-- what was written is read, whatever stands behind -/
theorem rdProg_fwd {name : ByteArray} {regs : Int} {xs : List Ins} {r : List UInt8} (h : checkOk name regs xs 20 = true) (hn : NOk xs) :
    (rdProg (bytesOf name regs xs ++ r)).1 = ⟨name, regs, xs⟩ ∧ (rdProg (bytesOf name regs xs ++ r)).2 = ⟨(bytesOf name regs xs).length, false⟩ := by
  obtain ⟨⟨h1, h2⟩, h3, h4, h5⟩ := check_parts0 h
  generalize hy : bytesOf name regs xs ++ r = ys
  have hr : ys = blobB name.data.toList ++ uv regs.toNat ++ uv xs.length ++ xs.flatMap insB ++ r := by
    rw [← hy]; simp [bytesOf, uvs]
  obtain ⟨g1, k1⟩ := rdText_fwd (ys := ys) (l := []) (s := ⟨0, false⟩) (t := name) ⟨rfl, rfl, ys, rfl⟩ ⟨_, by rw [hr]; simp only [List.append_assoc, List.nil_append]; rfl⟩ h4
  obtain ⟨g2, k2⟩ := num_fwd (most := 16) (m := regs) k1 ⟨_, by rw [hr]; simp only [List.append_assoc, List.nil_append]; rfl⟩ (by omega) (by omega) (by omega)
  obtain ⟨g3, k3⟩ := num_fwd (most := 500) (m := xs.length) k2 ⟨_, by rw [hr]; simp only [List.append_assoc, List.nil_append]; rfl⟩ (by omega) (by omega) (by omega)
  rw [Int.toNat_natCast] at k3
  obtain ⟨g4, k4⟩ := rdCode_fwd xs _ _ [] k3 ⟨r, by rw [hr]; simp only [List.append_assoc, List.nil_append]⟩ (fun x hx => fits_small h2 h3 (h5 x hx) (hn x hx))
  unfold rdProg
  simp only [g3, Int.toNat_natCast]
  refine ⟨by rw [g1, g2, g4]; rfl, ?_⟩
  rw [k4.eq]
  simp [bytesOf, uvs]
/-- what is read was written -/
theorem rdProg_back {ys : List UInt8} (h : (rdProg ys).2.bad = false) (hp : (rdProg ys).2.pos = ys.length) :
    ys = bytesOf (rdProg ys).1.name (rdProg ys).1.regs (rdProg ys).1.code ∧ NOk (rdProg ys).1.code := by
  have b4 : (rdCode ys (rdNum ys 500 (rdNum ys 16 (rdText ys ⟨0, false⟩).2).2).1.toNat (rdNum ys 500 (rdNum ys 16 (rdText ys ⟨0, false⟩).2).2).2 []).2.bad = false := h
  have b3 := rdCode_ok _ _ _ b4
  have b2 := rdNum_ok b3
  have b1 := rdNum_ok b2
  obtain ⟨r1, k1⟩ := rdText_back (ys := ys) (l := []) (s := ⟨0, false⟩) ⟨rfl, rfl, ys, rfl⟩ b1
  obtain ⟨r2, k2⟩ := num_back k1 b2
  obtain ⟨r3, k3⟩ := num_back k2 b3
  obtain ⟨xs, hl, e, hx, k4⟩ := rdCode_back _ _ _ _ k3 b4
  rw [List.nil_append] at e
  have e2 : (rdProg ys).1.code = xs := e
  have hlen : (xs.length : Int) = (rdNum ys 500 (rdNum ys 16 (rdText ys ⟨0, false⟩).2).2).1 := by rw [hl]; omega
  have e3 : bytesOf (rdProg ys).1.name (rdProg ys).1.regs (rdProg ys).1.code = [] ++ blobB (rdText ys ⟨0, false⟩).1.data.toList ++ uv (rdNum ys 16 (rdText ys ⟨0, false⟩).2).1.toNat ++
      uv (rdNum ys 500 (rdNum ys 16 (rdText ys ⟨0, false⟩).2).2).1.toNat ++ xs.flatMap insB := by
    rw [e2]
    unfold bytesOf uvs
    rw [hlen]
    simp [rdProg]
  rw [e3]
  obtain ⟨r, hr⟩ := k4.pre
  have hp2 := k4.pos
  have hp3 : (rdCode ys (rdNum ys 500 (rdNum ys 16 (rdText ys ⟨0, false⟩).2).2).1.toNat (rdNum ys 500 (rdNum ys 16 (rdText ys ⟨0, false⟩).2).2).2 []).2.pos = ys.length := hp
  rw [hp3] at hp2
  have hr0 : r = [] := by
    have := congrArg List.length hr
    rw [List.length_append] at this
    apply List.eq_nil_of_length_eq_zero
    omega
  rw [hr0, List.append_nil] at hr
  refine ⟨hr, fun x hm => ?_⟩
  rw [e2] at hm
  exact (hx x hm).2.2.2.2.1
theorem reads_fwd {name : ByteArray} {regs : Int} {xs : List Ins} (h : checkOk name regs xs 20 = true) (hn : NOk xs) :
    readsB (bytesOf name regs xs) = true ∧ (rdProg (bytesOf name regs xs)).1 = ⟨name, regs, xs⟩ := by
  have h1 := rdProg_fwd (r := []) h hn
  rw [List.append_nil] at h1
  unfold readsB
  rw [h1.1, h1.2]
  simp [h]
theorem reads_back {ys : List UInt8} (h : readsB ys = true) :
    ys = bytesOf (rdProg ys).1.name (rdProg ys).1.regs (rdProg ys).1.code ∧ NOk (rdProg ys).1.code ∧ checkOk (rdProg ys).1.name (rdProg ys).1.regs (rdProg ys).1.code 20 = true := by
  unfold readsB at h
  simp only [Bool.and_eq_true, decide_eq_true_eq, Bool.not_eq_true'] at h
  obtain ⟨⟨h1, h2⟩, h3⟩ := h
  obtain ⟨h4, h5⟩ := rdProg_back h1 h2
  exact ⟨h4, h5, h3⟩
/-- of any beginning nothing is read, nor with more behind -/
theorem reads_unique {name : ByteArray} {regs : Int} {xs : List Ins} {ys r : List UInt8} (h : checkOk name regs xs 20 = true) (hn : NOk xs) (hy : readsB ys = true) (hr : ys = bytesOf name regs xs ++ r) : r = [] := by
  have h1 := (rdProg_fwd (r := r) h hn).2
  rw [← hr] at h1
  unfold readsB at hy
  simp only [Bool.and_eq_true, decide_eq_true_eq] at hy
  have h2 := hy.1.2
  rw [h1] at h2
  simp only at h2
  have := congrArg List.length hr
  rw [List.length_append] at this
  apply List.eq_nil_of_length_eq_zero
  omega
theorem cut_none {name : ByteArray} {regs : Int} {xs : List Ins} {k : Nat} (h : checkOk name regs xs 20 = true) (hn : NOk xs) (hk : k < (bytesOf name regs xs).length) : readsB ((bytesOf name regs xs).take k) = false := by
  cases hb : readsB ((bytesOf name regs xs).take k) with
  | false => rfl
  | true =>
    exfalso
    obtain ⟨h1, h2, h3⟩ := reads_back hb
    generalize hy : (bytesOf name regs xs).take k = ys at *
    have h4 : bytesOf name regs xs = bytesOf (rdProg ys).1.name (rdProg ys).1.regs (rdProg ys).1.code ++ (bytesOf name regs xs).drop k := by
      rw [← h1, ← hy, List.take_append_drop]
    have h5 := reads_unique h3 h2 (reads_fwd h hn).1 h4
    have := congrArg List.length h5
    rw [List.length_drop] at this
    simp at this
    omega
theorem more_none {name : ByteArray} {regs : Int} {xs : List Ins} {x : UInt8} (h : checkOk name regs xs 20 = true) (hn : NOk xs) : readsB (bytesOf name regs xs ++ [x]) = false := by
  cases hb : readsB (bytesOf name regs xs ++ [x]) with
  | false => rfl
  | true =>
    have := reads_unique h hn hb rfl
    cases this
theorem bytesOf_inj {n1 n2 : ByteArray} {r1 r2 : Int} {xs1 xs2 : List Ins} (h1 : checkOk n1 r1 xs1 20 = true) (k1 : NOk xs1) (h2 : checkOk n2 r2 xs2 20 = true) (k2 : NOk xs2) (h : bytesOf n1 r1 xs1 = bytesOf n2 r2 xs2) : n1 = n2 ∧ r1 = r2 ∧ xs1 = xs2 := by
  have e1 := (reads_fwd h1 k1).2
  rw [h, (reads_fwd h2 k2).2] at e1
  injection e1 with a b c
  exact ⟨a.symm, b.symm, c.symm⟩
theorem bytesOf_pos {name : ByteArray} {regs : Int} {xs : List Ins} : 0 < (bytesOf name regs xs).length := by
  have := uv_pos name.data.toList.length
  unfold bytesOf blobB
  simp only [List.length_append]
  omega
end Go.Proofs.YtckooioikcenmaaDoor

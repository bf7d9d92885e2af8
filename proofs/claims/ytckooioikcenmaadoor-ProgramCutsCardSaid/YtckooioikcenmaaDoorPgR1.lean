/- The methods of program's reader. Conditions: sizes a machine can have. -/
import Derived.Test.YtckooioikcenmaaDoorPgR0
import Derived.Deep.RegionHeld3
import Derived.Deep.QuietTactic
import Derived.BigQuiet
import Derived.Laws.BytesArg
import Derived.Maps.Range
namespace Go.Proofs.YtckooioikcenmaaDoor
open Go.RowKit
/-- a reader of v, where it stands -/
def RAt (w : World) (r : Nat) (v : Value) (s : Rd) : Prop := w.heap[r]? = some (.cells #[v, .int .i64 s.pos, .bool s.bad] 69)
theorem grow_set (w : World) (r o : Nat) (u : Value) : w.grownBy (w.setCell ⟨r, o, none⟩ u) (some r) :=
  ⟨rfl, rfl, rfl, by simp [World.setCell], fun k hk hne => Below.heap_setCell _ _ _ _ (fun e => hne (by rw [e]))⟩
theorem grow_drewN {a w : World} {row : Option Nat} (h : a.grownBy w row) (n : Nat) : a.grownBy (w.drewN n) row := ⟨h.os, h.tape, h.output, h.size, h.block⟩
theorem grow_drew {a w : World} {row : Option Nat} (h : a.grownBy w row) : a.grownBy w.drew row := ⟨h.os, h.tape, h.output, h.size, h.block⟩
theorem grow_below {a w w' : World} {row : Option Nat} (h : a.grownBy w row) (hb : Below w.heap.size w w') : a.grownBy w' row :=
  ⟨hb.os.trans h.os, hb.tape.trans h.tape, hb.output.trans h.output, Nat.le_trans h.size hb.size, fun k hk hne => (hb.block k (Nat.lt_of_lt_of_le hk h.size)).trans (h.block k hk hne)⟩
theorem grow_alloc {a w : World} {row : Option Nat} (h : a.grownBy w row) (o : Obj) : a.grownBy (w.alloc o) row := grow_below h ((Below.refl _ _).alloc (Nat.le_refl _) o)
theorem grow_of_below {w w' : World} (hb : Below w.heap.size w w') (row : Option Nat) : w.grownBy w' row := grow_below (World.grownBy.refl _ _) hb
theorem RdB.drewN {w : World} {v : Value} {ys : List UInt8} (h : RdB w v ys) (n : Nat) : RdB (w.drewN n) v ys := h.below (below_drewN (Below.refl _ _) n)
/-- bytes stay readable while a reader moves on -/
theorem RdB.reader {w w' : World} {v u : Value} {ys zs : List UInt8} {r : Nat} {s : Rd} (h : RdB w v ys) (hR : RAt w r u s) (hu : RdB w u zs) (hg : w.grownBy w' (some r)) : RdB w' v ys := by
  have hu' : ∀ n, u ≠ .int .u8 n := by
    intro n e
    rcases hu with ⟨rfl, _⟩ | ⟨_, _, _, rfl, _⟩ <;> cases e
  rcases h with h | ⟨b, o, c, rfl, h1, h2, h3, h4⟩
  · exact .inl h
  · refine .inr ⟨b, o, c, rfl, h1, h2, Nat.lt_of_lt_of_le h3 hg.size, fun j x hj => ?_⟩
    by_cases e : b = r
    · subst e
      exfalso
      have := h4 j x hj
      rw [blk_cell hR] at this
      match o + j, this with
      | 0, this => simp at this; exact hu' _ this
      | 1, this => simp at this
      | 2, this => simp at this
      | n + 3, this => simp at this
    · exact (World.cell?_of_block (w := w) (a := ⟨b, o + j, none⟩) (hg.block b h3 (fun e2 => e (by injection e2)))).trans (h4 j x hj)
theorem str_nums (ys : List UInt8) : strOfNums (ys.map fun x => (x.toNat : Int)) = ⟨ys.toArray⟩ := by simp [strOfNums, Function.comp_def]
theorem rd_text {w : World} {v : Value} {ys : List UInt8} (h : RdB w v ys) : Sem.run Tryd.prog (convert 35 9 v) w = .ok (.string ⟨ys.toArray⟩) w := by
  rcases h with ⟨rfl, rfl⟩ | ⟨b, o, c, rfl, h1, h2, h3, h4⟩
  · exact run_convert_bytes_nil w 35 5 Tryd.underlying35 Tryd.underlying5 0 0 9 Tryd.underlying9
  · have := run_convert_bytes_arg (P := Tryd.prog) w 35 5 Tryd.underlying35 Tryd.underlying5 b o ys.length c (ys.map fun x => (x.toNat : Int)) (by simp) (fun i hi => by
      rw [h4 i ys[i] (List.getElem?_eq_getElem hi)]
      simp [List.getD, List.getElem?_eq_getElem hi]) 9 Tryd.underlying9
    rw [this, str_nums]
def NumPost (r : Nat) (v : Value) (ys : List UInt8) (most : Int) (s : Rd) (w : World) (e : Ending) (w' : World) : Prop :=
  e = .returned (.int .i64 (rdNum ys most s).1) ∧ RAt w' r v (rdNum ys most s).2 ∧ w.grownBy w' (some r)
set_option maxRecDepth 20000 in
set_option maxHeartbeats 1000000 in
theorem number_any (r : Nat) (v : Value) (ys : List UInt8) (most : Int) (s : Rd) (w : World) (hr : RdB w v ys) (hR : RAt w r v s) (hl : ys.length ≤ 140737488355328) (hp : s.pos ≤ 140737488355328) (hm0 : 0 ≤ most) (hm1 : most ≤ 1000) :
    Calls Tryd.prog 33 #[.pointer (some ⟨r, 0, none⟩), .int .i64 most] w (NumPost r v ys most s w) := by
  obtain ⟨p, bad⟩ := s
  simp only at hp
  have c0 : w.cell? ⟨r, 0, none⟩ = some v := by rw [blk_cell hR]; rfl
  have c1 : w.cell? ⟨r, 1, none⟩ = some (.int .i64 p) := by rw [blk_cell hR]; rfl
  have c2 : w.cell? ⟨r, 2, none⟩ = some (.bool bad) := by rw [blk_cell hR]; rfl
  have fz := blk_free hR 0
  have f1 := blk_free hR 1
  have f2 := blk_free hR 2
  have HR := Lib.hid hR
  have hG : Hid (∀ q, Calls Tryd.prog 50 #[v, .int .i64 p] (w.drewN q) fun e w' => e = .returned (.tuple #[.int .u64 (getU ys p).1, .int .i64 (getU ys p).2.1, .int .i64 (getU ys p).2.2]) ∧ ∃ m', w' = w.drewN m') :=
    fun q => (getUint_any v ys p (w.drewN q) (hr.drewN q) (by omega)).mono fun e w' h => by
      obtain ⟨h1, h2⟩ := h
      exact ⟨h1, q, h2.symm⟩
  have hrange := getU_range ys p hl
  obtain ⟨A, c, rfl, _, _⟩ := hr.form
  clear hR hr
  cases bad with
  | true =>
    have hd := Lib.hid (show rdNum ys most ⟨p, true⟩ = (0, ⟨p, true⟩) by simp [rdNum])
    go_enter Tryd.func33, Tryd.ntmps33
    go_wp2
    go_ret
    exact ⟨by rw [hd.out]; rfl, by rw [hd.out]; exact HR.out, World.grownBy.refl _ _⟩
  | false =>
    have hd := Lib.hid (show rdNum ys most ⟨p, false⟩ = if (getU ys p).2.2 ≠ 0 ∨ most < (getU ys p).1 then ((0 : Int), (⟨p, true⟩ : Rd)) else (((getU ys p).1 : Int), (⟨(getU ys p).2.1, false⟩ : Rd)) by simp [rdNum])
    generalize (getU ys p).1 = n at *
    generalize (getU ys p).2.1 = m at *
    generalize (getU ys p).2.2 = e at *
    obtain ⟨r1, r2, r3⟩ := hrange
    by_cases he : e ≠ 0
    · have HD := Lib.hid (hd.out.trans (if_pos (.inl he)))
      clear hd
      go_enter Tryd.func33, Tryd.ntmps33
      go_wp2
      go_quiet ((go_at_call 50; exact hG.out _))
      go_wp2
      go_ret
      exact ⟨by rw [HD.out]; rfl, by rw [HD.out]; exact blk_set HR.out 2 _, (grow_drewN (World.grownBy.refl _ _) _).trans (grow_set _ _ _ _)⟩
    · obtain rfl : e = 0 := Classical.not_not.1 he
      by_cases hn : most < n
      · have HD := Lib.hid (hd.out.trans (if_pos (.inr hn)))
        clear hd
        go_enter Tryd.func33, Tryd.ntmps33
        go_wp2
        go_quiet ((go_at_call 50; exact hG.out _))
        go_wp2
        go_ret
        exact ⟨by rw [HD.out]; rfl, by rw [HD.out]; exact blk_set HR.out 2 _, (grow_drewN (World.grownBy.refl _ _) _).trans (grow_set _ _ _ _)⟩
      · have HD := Lib.hid (hd.out.trans (if_neg (by rintro (h | h); · exact h rfl
                                                     · exact hn h)))
        clear hd
        go_enter Tryd.func33, Tryd.ntmps33
        go_wp2
        go_quiet ((go_at_call 50; exact hG.out _))
        go_wp2
        go_ret
        exact ⟨by rw [HD.out]; rfl, by rw [HD.out]; exact blk_set HR.out 1 _, (grow_drewN (World.grownBy.refl _ _) _).trans (grow_set _ _ _ _)⟩
def SigPost (r : Nat) (v : Value) (ys : List UInt8) (s : Rd) (w : World) (e : Ending) (w' : World) : Prop :=
  e = .returned (.int .i64 (rdSig ys s).1) ∧ RAt w' r v (rdSig ys s).2 ∧ w.grownBy w' (some r)
set_option maxRecDepth 20000 in
set_option maxHeartbeats 1000000 in
theorem signed_any (r : Nat) (v : Value) (ys : List UInt8) (s : Rd) (w : World) (hr : RdB w v ys) (hR : RAt w r v s) (hl : ys.length ≤ 140737488355328) (hp : s.pos ≤ 140737488355328) :
    Calls Tryd.prog 34 #[.pointer (some ⟨r, 0, none⟩)] w (SigPost r v ys s w) := by
  obtain ⟨p, bad⟩ := s
  simp only at hp
  have c0 : w.cell? ⟨r, 0, none⟩ = some v := by rw [blk_cell hR]; rfl
  have c1 : w.cell? ⟨r, 1, none⟩ = some (.int .i64 p) := by rw [blk_cell hR]; rfl
  have c2 : w.cell? ⟨r, 2, none⟩ = some (.bool bad) := by rw [blk_cell hR]; rfl
  have fz := blk_free hR 0
  have f1 := blk_free hR 1
  have f2 := blk_free hR 2
  have HR := Lib.hid hR
  have hG : Hid (∀ q, Calls Tryd.prog 51 #[v, .int .i64 p] (w.drewN q) fun e w' => e = .returned (.tuple #[.int .i64 (getI ys p).1, .int .i64 (getI ys p).2.1, .int .i64 (getI ys p).2.2]) ∧ ∃ m', w' = w.drewN m') :=
    fun q => (getInt_any v ys p (w.drewN q) (hr.drewN q) (by omega) hl).mono fun e w' h => by
      obtain ⟨h1, h2⟩ := h
      exact ⟨h1, q, h2.symm⟩
  obtain ⟨A, c, rfl, _, _⟩ := hr.form
  clear hR hr
  cases bad with
  | true =>
    have hd := Lib.hid (show rdSig ys ⟨p, true⟩ = (0, ⟨p, true⟩) by simp [rdSig])
    go_enter Tryd.func34, Tryd.ntmps34
    go_wp2
    go_ret
    exact ⟨by rw [hd.out]; rfl, by rw [hd.out]; exact HR.out, World.grownBy.refl _ _⟩
  | false =>
    have hd := Lib.hid (show rdSig ys ⟨p, false⟩ = if (getI ys p).2.2 ≠ 0 then ((0 : Int), (⟨p, true⟩ : Rd)) else ((getI ys p).1, ⟨(getI ys p).2.1, false⟩) by simp [rdSig])
    generalize (getI ys p).1 = n at *
    generalize (getI ys p).2.1 = m at *
    generalize (getI ys p).2.2 = e at *
    by_cases he : e ≠ 0
    · have HD := Lib.hid (hd.out.trans (if_pos he))
      clear hd
      go_enter Tryd.func34, Tryd.ntmps34
      go_wp2
      go_quiet ((go_at_call 51; exact hG.out _))
      go_wp2
      go_ret
      exact ⟨by rw [HD.out]; rfl, by rw [HD.out]; exact blk_set HR.out 2 _, (grow_drewN (World.grownBy.refl _ _) _).trans (grow_set _ _ _ _)⟩
    · obtain rfl : e = 0 := Classical.not_not.1 he
      have HD := Lib.hid (hd.out.trans (if_neg (by simp)))
      clear hd
      go_enter Tryd.func34, Tryd.ntmps34
      go_wp2
      go_quiet ((go_at_call 51; exact hG.out _))
      go_wp2
      go_ret
      exact ⟨by rw [HD.out]; rfl, by rw [HD.out]; exact blk_set HR.out 1 _, (grow_drewN (World.grownBy.refl _ _) _).trans (grow_set _ _ _ _)⟩
def TextPost (r : Nat) (v : Value) (ys : List UInt8) (s : Rd) (w : World) (e : Ending) (w' : World) : Prop :=
  e = .returned (.string (rdText ys s).1) ∧ RAt w' r v (rdText ys s).2 ∧ w.grownBy w' (some r)
set_option maxRecDepth 20000 in
set_option maxHeartbeats 1000000 in
theorem text_any (r : Nat) (v : Value) (ys : List UInt8) (s : Rd) (w : World) (hr : RdB w v ys) (hR : RAt w r v s) (hl : ys.length ≤ 140737488355328) (hp : s.pos ≤ 140737488355328) :
    Calls Tryd.prog 32 #[.pointer (some ⟨r, 0, none⟩)] w (TextPost r v ys s w) := by
  obtain ⟨p, bad⟩ := s
  simp only at hp
  have c0 : w.cell? ⟨r, 0, none⟩ = some v := by rw [blk_cell hR]; rfl
  have c1 : w.cell? ⟨r, 1, none⟩ = some (.int .i64 p) := by rw [blk_cell hR]; rfl
  have c2 : w.cell? ⟨r, 2, none⟩ = some (.bool bad) := by rw [blk_cell hR]; rfl
  have HR := Lib.hid hR
  have hG : Hid (∀ q, Calls Tryd.prog 49 #[v, .int .i64 p, .int .i64 40] (w.drewN q) (GetBPost ys p 40 (w.drewN q))) := fun q => getBlob_any v ys p 40 (w.drewN q) (hr.drewN q) (by omega) hl (by omega) (by omega)
  obtain ⟨A, c, rfl, _, _⟩ := hr.form
  have hr0 := Lib.hid hr
  clear hR hr
  cases bad with
  | true =>
    have hd := Lib.hid (show rdText ys ⟨p, true⟩ = (⟨#[]⟩, ⟨p, true⟩) by simp [rdText])
    go_enter Tryd.func32, Tryd.ntmps32
    go_wp2
    go_ret
    exact ⟨by rw [hd.out]; rfl, by rw [hd.out]; exact HR.out, World.grownBy.refl _ _⟩
  | false =>
    have hd := Lib.hid (show rdText ys ⟨p, false⟩ = if (getB ys p 40).2.2 ≠ 0 then ((⟨#[]⟩ : ByteArray), (⟨p, true⟩ : Rd)) else (⟨(getB ys p 40).1.toArray⟩, ⟨(getB ys p 40).2.1, false⟩) by simp [rdText])
    unfold GetBPost at hG
    generalize (getB ys p 40).1 = bs at *
    generalize (getB ys p 40).2.1 = m at *
    generalize (getB ys p 40).2.2 = e at *
    by_cases he : e ≠ 0
    · have HD := Lib.hid (hd.out.trans (if_pos he))
      clear hd
      go_enter Tryd.func32, Tryd.ntmps32
      go_wp2
      go_region_held3 (fun w' => w'.cell? ⟨r, 0, none⟩ = some (.slice A ys.length c) ∧ w'.cell? ⟨r, 1, none⟩ = some (.int .i64 p)) (go_keep) ((go_at_call 49; refine (hG.out 1).mono ?_; rintro e w2 ⟨v', rfl, hown, hb⟩; have HT := Lib.hid (blk_below (o := .cells #[.slice A ys.length c, .int .i64 p, .bool false] 69) hb HR.out); have t0 := blk_cell HT.out 0; have t1 := blk_cell HT.out 1; have t3 := blk_cell HT.out 2; have t2 := blk_free HT.out 2; simp at t0 t1 t3; have HOWN := Lib.hid hown; have HB := Lib.hid hb; clear hown hb))
      all_goals (
        go_wp2
        go_ret
        exact ⟨by rw [HD.out]; rfl, by rw [HD.out]; exact blk_set HT.out 2 _, (grow_below (grow_drewN (World.grownBy.refl _ _) 1) HB.out).trans (grow_set _ _ _ _)⟩)
    · obtain rfl : e = 0 := Classical.not_not.1 he
      have HD := Lib.hid (hd.out.trans (if_neg (by simp)))
      clear hd
      go_enter Tryd.func32, Tryd.ntmps32
      go_wp2
      go_region_held3 (fun w' => w'.cell? ⟨r, 0, none⟩ = some (.slice A ys.length c) ∧ w'.cell? ⟨r, 1, none⟩ = some (.int .i64 p)) (go_keep) ((go_at_call 49; refine (hG.out 1).mono ?_; rintro e w2 ⟨v', rfl, hown, hb⟩; have HT := Lib.hid (blk_below (o := .cells #[.slice A ys.length c, .int .i64 p, .bool false] 69) hb HR.out); have t0 := blk_cell HT.out 0; have t1 := blk_cell HT.out 1; have t3 := blk_cell HT.out 2; have t2 := blk_free HT.out 1; simp at t0 t1 t3; have HOWN := Lib.hid hown; have HB := Lib.hid hb; clear hown hb; obtain ⟨A2, n2, c2, rfl⟩ := HOWN.out.form))
      all_goals (
        have HS := Lib.hid (blk_set HT.out 1 (.int .i64 m))
        have hcv := rd_text (HOWN.out.reads.reader (s := ⟨p, false⟩) (w' := w2.setCell ⟨r, 1, none⟩ (.int .i64 m)) HT.out ((hr0.out.drewN 1).below HB.out) (grow_set _ _ _ _))
        go_wp2
        go_ret
        exact ⟨by rw [HD.out]; rfl, by rw [HD.out]; exact HS.out, (grow_below (grow_drewN (World.grownBy.refl _ _) 1) HB.out).trans (grow_set _ _ _ _)⟩)
end Go.Proofs.YtckooioikcenmaaDoor

/- Lists that are read: of numbers. Conditions: sizes a machine can have. -/
import Derived.Test.YtckooioikcenmaaGreatCkM4
namespace Go.Proofs.YtckooioikcenmaaGreat
open Go.RowKit
theorem elemInt : Elem 3 53 1 8 (.int .i64 0) := ⟨Tryz.underlying53, by kernel_rfl, rfl⟩
set_option maxRecDepth 20000 in
set_option maxHeartbeats 2000000 in
theorem rlInt_any (base r rb : Nat) (v : Value) (ys : List UInt8) (s : Rd) (w : World) (hs : RSt base r w v ys s) (hrb : w.heap[rb]? = some (.cells #[.pointer (some ⟨r, 0, none⟩)] 92)) :
    Calls Tryz.prog 109 #[.pointer (some ⟨r, 0, none⟩), .func (.func 110) #[] #[.pointer (some ⟨rb, 0, none⟩)]] w (LPost base r v ys cI mI 3 s w) := by
  obtain ⟨p, bad⟩ := s
  have hR := hs.rd
  have hr := hs.ok
  have c0 : w.cell? ⟨r, 0, none⟩ = some v := by rw [blk_cell hR]; rfl
  have c1 : w.cell? ⟨r, 1, none⟩ = some (.int .i64 p) := by rw [blk_cell hR]; rfl
  have c2 : w.cell? ⟨r, 2, none⟩ = some (.bool bad) := by rw [blk_cell hR]; rfl
  have f1 := blk_free hR 1
  have f2 := blk_free hR 2
  have HR := Lib.hid hR
  have HS := Lib.hid hs
  have hp : p ≤ 140737488355328 := hs.pos
  have HRB := Lib.hid hrb
  have hrr : rb ≠ r := ne_type hrb hR (by decide)
  clear hrb
  obtain ⟨A, cp, rfl, _, _⟩ := hr.form
  have hG : Hid (∀ q, Calls Tryz.prog 74 #[.slice A ys.length cp, .int .i64 p] (w.drewN q) fun e w' => e = .returned (.tuple #[.int .u64 (getU ys p).1, .int .i64 (getU ys p).2.1, .int .i64 (getU ys p).2.2]) ∧ ∃ m', w' = w.drewN m') :=
    fun q => (getUint_any _ ys p (w.drewN q) (hr.drewN q) (by omega)).mono fun e w' h => by
      obtain ⟨h1, h2⟩ := h
      exact ⟨h1, q, h2.symm⟩
  have hlen := hs.len
  have hlen0 := hs.len0
  obtain ⟨u1, u2, u3⟩ := getU_range ys p hlen
  have hwl : IntKind.u64.wrap (ys.length : Int) = ys.length := by rw [IntKind.wrap_u64]; omega
  cases bad with
  | true =>
    clear hR hr hs
    go_enter Tryz.func109, Tryz.ntmps109
    go_wp2
    exact bodyPost_ret (v := .slice none 0 0) (by simp [results]) rfl (LPost.end (rdL_bad _ _ _) HS.out (LOwn.nil _ _) (World.grownBy.refl _ _))
  | false =>
    by_cases hf : (getU ys p).2.2 ≠ 0 ∨ ys.length < (getU ys p).1
    · have HD := Lib.hid (rdL_fail cI ys p hf)
      have HG2 := Lib.hid (fun q => (grow_drewN (World.grownBy.refl w (some r)) q).trans (grow_set (w.drewN q) r 2 (.bool true)))
      have HS2 : Hid (∀ q, RSt base r ((w.drewN q).setCell ⟨r, 2, none⟩ (.bool true)) (.slice A ys.length cp) ys ⟨p, true⟩) := fun q => hs.step (K := r) (Chg.grown (HG2.out q)) hs.hr (blk_set HR.out 2 _) hs.pos
      clear hR hr hs
      generalize (getU ys p).1 = n at *
      generalize (getU ys p).2.1 = m at *
      generalize (getU ys p).2.2 = e at *
      go_enter Tryz.func109, Tryz.ntmps109
      go_wp2
      go_quiet ((go_at_call 74; exact hG.out _))
      by_cases he : e = 0
      · subst he
        have hf2 : ys.length < n := by simpa using hf
        go_wp2
        exact bodyPost_ret (v := .slice none 0 0) (by simp [results]) rfl (LPost.end HD.out (HS2.out _) (LOwn.nil _ _) (HG2.out _))
      · go_wp2
        exact bodyPost_ret (v := .slice none 0 0) (by simp [results]) rfl (LPost.end HD.out (HS2.out _) (LOwn.nil _ _) (HG2.out _))
    · have HD := Lib.hid (rdL_go cI ys p hf)
      have HG2 := Lib.hid (fun q => (grow_drewN (World.grownBy.refl w (some r)) q).trans (grow_set (w.drewN q) r 1 (.int .i64 (getU ys p).2.1)))
      have HS2 : Hid (∀ q, RSt base r ((w.drewN q).setCell ⟨r, 1, none⟩ (.int .i64 (getU ys p).2.1)) (.slice A ys.length cp) ys ⟨(getU ys p).2.1, false⟩) := fun q => hs.step (K := r) (Chg.grown (HG2.out q)) hs.hr (blk_set HR.out 1 _) (by show (getU ys p).2.1 ≤ _; omega)
      have hrw := hs.lt
      have hbr := hs.hr
      clear hR hr hs
      generalize (getU ys p).1 = n at *
      generalize (getU ys p).2.1 = m at *
      generalize (getU ys p).2.2 = e at *
      obtain ⟨rfl, hn⟩ : e = 0 ∧ n ≤ ys.length := by simpa using hf
      clear hf
      generalize hR0 : (cL cI).rd ys ⟨p, false⟩ = R at *
      have HR0 := Lib.hid hR0
      clear hR0
      go_enter Tryz.func109, Tryz.ntmps109
      go_wp2
      go_quiet ((go_at_call 74; exact hG.out _))
      go_wp2
      clear c0 c1 c2 f1 f2
      go_loopw [5, 8, 9] (fun i out _ wr => ∃ (k : Nat), i = .int .u64 k ∧ k < 18446744073709551616 ∧ Hid (LSt base r 3 cI mI (.slice A ys.length cp) ys R w wr out k)) (fun i _ _ _ => (intOf i).toNat)
      case atStart => exact ⟨n, rfl, by omega, ⟨_, [], by simpa using hn, HS2.out _, LOwn.nil _ _, HG2.out _, by simp [Value.ownBlock], HD.out.symm⟩⟩
      case round =>
        obtain ⟨k, rfl, hk, HL⟩ := hrel
        obtain ⟨s1, acc, hka, hst, hown, hg, hlow, heq⟩ := HL.out
        obtain ⟨p1, bad1⟩ := s1
        have t2 := blk_cell hst.rd 2
        simp at t2
        have HST := Lib.hid hst
        have HOW := Lib.hid hown
        have HGW := Lib.hid hg
        have HLO := Lib.hid hlow
        clear hst hown hg hlow HL
        match k with
        | 0 =>
          have HE : Hid (R = (acc, ⟨p1, bad1⟩)) := heq.symm
          clear heq
          go_wp2
          exact bodyPost_ret (by simp [results]) rfl (LPost.end (HR0.out.trans HE.out) HST.out HOW.out HGW.out)
        | k + 1 =>
          cases bad1 with
          | true =>
            have HE : Hid (R = (acc, ⟨p1, true⟩)) := by show _ = _; rw [← heq]; simp [rdIter]
            clear heq
            go_wp2
            exact bodyPost_ret (by simp [results]) rfl (LPost.end (HR0.out.trans HE.out) HST.out HOW.out HGW.out)
          | false =>
            have HE : Hid (rdIter ((cI).rd ys) k ((cI).rd ys ⟨p1, false⟩).2 (acc ++ [((cI).rd ys ⟨p1, false⟩).1]) = R) := by show _ = _; rw [← heq]; simp [rdIter]
            clear heq
            have hsr := HST.out.lt
            have hbK : base ≤ wr.heap.size := by omega
            have HSA : Hid (RSt base r (wr.alloc (.cells #[.int .i64 0] 3)) (.slice A ys.length cp) ys ⟨p1, false⟩) := HST.out.alloc _
            have HKA : Hid ((wr.alloc (.cells #[.int .i64 0] 3)).heap[wr.heap.size]? = some (.cells #[.int .i64 0] 3)) := alloc_at _ _
            have HRA : Hid ((wr.alloc (.cells #[.int .i64 0] 3)).heap[rb]? = some (.cells #[.pointer (some ⟨r, 0, none⟩)] 92)) := blk_alloc ((HGW.out.block rb (blk_lt HRB.out) (fun e => hrr (by injection e with e))).trans HRB.out) _
            clear hsr
            go_wp2_with fail
            refine (rInt_any base r rb wr.heap.size _ ys ⟨p1, false⟩ (wr.alloc (.cells #[.int .i64 0] 3)) HSA.out HRA.out HKA.out hbK).mono ?_
            rintro e y ⟨rfl, hst, ⟨us, hk2, hown2⟩, hc⟩
            have e0 : us = [.int .i64 (cI.rd ys ⟨p1, false⟩).1] := hown2
            subst e0
            generalize hX : (cI.rd ys ⟨p1, false⟩).1 = X at *
            have HK2 : Hid (y.heap[wr.heap.size]? = some (.cells (#[.int .i64 X] : Array Value) 3)) := by show _ = _; simpa using hk2
            have HCF : Hid (Chg r wr.heap.size wr y) := ((Chg.refl r wr.heap.size wr).alloc _).trans hc
            have HS3 := Lib.hid hst
            have HO3 := Lib.hid hown2
            have HRG : Hid (y.rangeAt wr.heap.size 0 ([.int .i64 X] : List Value)) := fun j u hj => by rw [blk_cell HK2.out]; simpa using hj
            have q0 := blk_cell HK2.out 0
            simp at q0
            have hi2 : Hid ((#[.int .i64 X] : Array Value).size = 1) := rfl
            have HOW2 : Hid (LOwn 3 mI base (y.alloc (.cells (#[.int .i64 X] : Array Value) 3)) _ acc) := HOW.out.keep mI_law ((HCF.out.alloc (.cells (#[.int .i64 X] : Array Value) 3)).stayF HST.out.rd (by decide))
            have HO4 := Lib.hid (mI_law.okeep HO3.out (Stay.below ((Below.refl y.heap.size y).alloc (Nat.le_refl _) (.cells (#[.int .i64 X] : Array Value) 3))))
            have HAL : Hid ((y.alloc (.cells (#[.int .i64 X] : Array Value) 3)).heap[y.heap.size]? = some (.cells ([.int .i64 X] : List Value).toArray 3)) := by show _ = _; exact alloc_at _ _
            have hbA : base ≤ (y.alloc (.cells (#[.int .i64 X] : Array Value) 3)).heap.size := by have := HS3.out.lt; simp; omega
            clear hst hk2 hown2 hc t2 HSA HKA HRA
            go_wp2_with (first
              | (with_reducible refine wpList_buildOne rfl (.tmp 60) rfl (.int .i64 X) (#[.int .i64 X] : Array Value) elemInt rfl rfl hi2.out (by decide) (by decide) ?_)
              | (with_reducible refine wpList_push rfl (.tmp 59) (.tmp 61) rfl elemInt mI_law (by decide) base _ acc _ ([.int .i64 X] : List Value) y.heap.size rfl HOW2.out rfl HAL.out HO4.out (by omega) (by decide) hbA ?_; intro v3 w3 hown3 hg3 hat3; have HOW3 := Lib.hid hown3; have HG3 := Lib.hid hg3; have HAT := Lib.hid hat3; clear hown3 hg3 hat3))
            obtain ⟨z1, z2, z3⟩ := LSt.next HGW.out hrw HCF.out HS3.out HLO.out HG3.out HAT.out
            have Z1 := Lib.hid z1
            have Z2 := Lib.hid z2
            have Z3 := Lib.hid z3
            clear z1 z2 z3
            go_roundw
            case rel => exact ⟨k, by go_num, by omega, ⟨_, acc ++ [_], by simp; omega, Z2.out, HOW3.out, Z1.out, Z3.out, HE.out⟩⟩
            case measure => simp [intOf]; go_num

theorem elemNum : Elem 2 55 1 8 (.int .i64 0) := ⟨Tryz.underlying55, by kernel_rfl, rfl⟩
set_option maxRecDepth 20000 in
set_option maxHeartbeats 2000000 in
theorem rlNum_any (base r rb : Nat) (v : Value) (ys : List UInt8) (s : Rd) (w : World) (hs : RSt base r w v ys s) (hrb : w.heap[rb]? = some (.cells #[.pointer (some ⟨r, 0, none⟩)] 92)) :
    Calls Tryz.prog 113 #[.pointer (some ⟨r, 0, none⟩), .func (.func 114) #[] #[.pointer (some ⟨rb, 0, none⟩)]] w (LPost base r v ys cI mI 2 s w) := by
  obtain ⟨p, bad⟩ := s
  have hR := hs.rd
  have hr := hs.ok
  have c0 : w.cell? ⟨r, 0, none⟩ = some v := by rw [blk_cell hR]; rfl
  have c1 : w.cell? ⟨r, 1, none⟩ = some (.int .i64 p) := by rw [blk_cell hR]; rfl
  have c2 : w.cell? ⟨r, 2, none⟩ = some (.bool bad) := by rw [blk_cell hR]; rfl
  have f1 := blk_free hR 1
  have f2 := blk_free hR 2
  have HR := Lib.hid hR
  have HS := Lib.hid hs
  have hp : p ≤ 140737488355328 := hs.pos
  have HRB := Lib.hid hrb
  have hrr : rb ≠ r := ne_type hrb hR (by decide)
  clear hrb
  obtain ⟨A, cp, rfl, _, _⟩ := hr.form
  have hG : Hid (∀ q, Calls Tryz.prog 74 #[.slice A ys.length cp, .int .i64 p] (w.drewN q) fun e w' => e = .returned (.tuple #[.int .u64 (getU ys p).1, .int .i64 (getU ys p).2.1, .int .i64 (getU ys p).2.2]) ∧ ∃ m', w' = w.drewN m') :=
    fun q => (getUint_any _ ys p (w.drewN q) (hr.drewN q) (by omega)).mono fun e w' h => by
      obtain ⟨h1, h2⟩ := h
      exact ⟨h1, q, h2.symm⟩
  have hlen := hs.len
  have hlen0 := hs.len0
  obtain ⟨u1, u2, u3⟩ := getU_range ys p hlen
  have hwl : IntKind.u64.wrap (ys.length : Int) = ys.length := by rw [IntKind.wrap_u64]; omega
  cases bad with
  | true =>
    clear hR hr hs
    go_enter Tryz.func113, Tryz.ntmps113
    go_wp2
    exact bodyPost_ret (v := .slice none 0 0) (by simp [results]) rfl (LPost.end (rdL_bad _ _ _) HS.out (LOwn.nil _ _) (World.grownBy.refl _ _))
  | false =>
    by_cases hf : (getU ys p).2.2 ≠ 0 ∨ ys.length < (getU ys p).1
    · have HD := Lib.hid (rdL_fail cI ys p hf)
      have HG2 := Lib.hid (fun q => (grow_drewN (World.grownBy.refl w (some r)) q).trans (grow_set (w.drewN q) r 2 (.bool true)))
      have HS2 : Hid (∀ q, RSt base r ((w.drewN q).setCell ⟨r, 2, none⟩ (.bool true)) (.slice A ys.length cp) ys ⟨p, true⟩) := fun q => hs.step (K := r) (Chg.grown (HG2.out q)) hs.hr (blk_set HR.out 2 _) hs.pos
      clear hR hr hs
      generalize (getU ys p).1 = n at *
      generalize (getU ys p).2.1 = m at *
      generalize (getU ys p).2.2 = e at *
      go_enter Tryz.func113, Tryz.ntmps113
      go_wp2
      go_quiet ((go_at_call 74; exact hG.out _))
      by_cases he : e = 0
      · subst he
        have hf2 : ys.length < n := by simpa using hf
        go_wp2
        exact bodyPost_ret (v := .slice none 0 0) (by simp [results]) rfl (LPost.end HD.out (HS2.out _) (LOwn.nil _ _) (HG2.out _))
      · go_wp2
        exact bodyPost_ret (v := .slice none 0 0) (by simp [results]) rfl (LPost.end HD.out (HS2.out _) (LOwn.nil _ _) (HG2.out _))
    · have HD := Lib.hid (rdL_go cI ys p hf)
      have HG2 := Lib.hid (fun q => (grow_drewN (World.grownBy.refl w (some r)) q).trans (grow_set (w.drewN q) r 1 (.int .i64 (getU ys p).2.1)))
      have HS2 : Hid (∀ q, RSt base r ((w.drewN q).setCell ⟨r, 1, none⟩ (.int .i64 (getU ys p).2.1)) (.slice A ys.length cp) ys ⟨(getU ys p).2.1, false⟩) := fun q => hs.step (K := r) (Chg.grown (HG2.out q)) hs.hr (blk_set HR.out 1 _) (by show (getU ys p).2.1 ≤ _; omega)
      have hrw := hs.lt
      have hbr := hs.hr
      clear hR hr hs
      generalize (getU ys p).1 = n at *
      generalize (getU ys p).2.1 = m at *
      generalize (getU ys p).2.2 = e at *
      obtain ⟨rfl, hn⟩ : e = 0 ∧ n ≤ ys.length := by simpa using hf
      clear hf
      generalize hR0 : (cL cI).rd ys ⟨p, false⟩ = R at *
      have HR0 := Lib.hid hR0
      clear hR0
      go_enter Tryz.func113, Tryz.ntmps113
      go_wp2
      go_quiet ((go_at_call 74; exact hG.out _))
      go_wp2
      clear c0 c1 c2 f1 f2
      go_loopw [5, 8, 9] (fun i out _ wr => ∃ (k : Nat), i = .int .u64 k ∧ k < 18446744073709551616 ∧ Hid (LSt base r 2 cI mI (.slice A ys.length cp) ys R w wr out k)) (fun i _ _ _ => (intOf i).toNat)
      case atStart => exact ⟨n, rfl, by omega, ⟨_, [], by simpa using hn, HS2.out _, LOwn.nil _ _, HG2.out _, by simp [Value.ownBlock], HD.out.symm⟩⟩
      case round =>
        obtain ⟨k, rfl, hk, HL⟩ := hrel
        obtain ⟨s1, acc, hka, hst, hown, hg, hlow, heq⟩ := HL.out
        obtain ⟨p1, bad1⟩ := s1
        have t2 := blk_cell hst.rd 2
        simp at t2
        have HST := Lib.hid hst
        have HOW := Lib.hid hown
        have HGW := Lib.hid hg
        have HLO := Lib.hid hlow
        clear hst hown hg hlow HL
        match k with
        | 0 =>
          have HE : Hid (R = (acc, ⟨p1, bad1⟩)) := heq.symm
          clear heq
          go_wp2
          exact bodyPost_ret (by simp [results]) rfl (LPost.end (HR0.out.trans HE.out) HST.out HOW.out HGW.out)
        | k + 1 =>
          cases bad1 with
          | true =>
            have HE : Hid (R = (acc, ⟨p1, true⟩)) := by show _ = _; rw [← heq]; simp [rdIter]
            clear heq
            go_wp2
            exact bodyPost_ret (by simp [results]) rfl (LPost.end (HR0.out.trans HE.out) HST.out HOW.out HGW.out)
          | false =>
            have HE : Hid (rdIter ((cI).rd ys) k ((cI).rd ys ⟨p1, false⟩).2 (acc ++ [((cI).rd ys ⟨p1, false⟩).1]) = R) := by show _ = _; rw [← heq]; simp [rdIter]
            clear heq
            have hsr := HST.out.lt
            have hbK : base ≤ wr.heap.size := by omega
            have HSA : Hid (RSt base r (wr.alloc (.cells #[.int .i64 0] 2)) (.slice A ys.length cp) ys ⟨p1, false⟩) := HST.out.alloc _
            have HKA : Hid ((wr.alloc (.cells #[.int .i64 0] 2)).heap[wr.heap.size]? = some (.cells #[.int .i64 0] 2)) := alloc_at _ _
            have HRA : Hid ((wr.alloc (.cells #[.int .i64 0] 2)).heap[rb]? = some (.cells #[.pointer (some ⟨r, 0, none⟩)] 92)) := blk_alloc ((HGW.out.block rb (blk_lt HRB.out) (fun e => hrr (by injection e with e))).trans HRB.out) _
            clear hsr
            go_wp2_with fail
            refine (rNum_any base r rb wr.heap.size _ ys ⟨p1, false⟩ (wr.alloc (.cells #[.int .i64 0] 2)) HSA.out HRA.out HKA.out hbK).mono ?_
            rintro e y ⟨rfl, hst, ⟨us, hk2, hown2⟩, hc⟩
            have e0 : us = [.int .i64 (cI.rd ys ⟨p1, false⟩).1] := hown2
            subst e0
            generalize hX : (cI.rd ys ⟨p1, false⟩).1 = X at *
            have HK2 : Hid (y.heap[wr.heap.size]? = some (.cells (#[.int .i64 X] : Array Value) 2)) := by show _ = _; simpa using hk2
            have HCF : Hid (Chg r wr.heap.size wr y) := ((Chg.refl r wr.heap.size wr).alloc _).trans hc
            have HS3 := Lib.hid hst
            have HO3 := Lib.hid hown2
            have HRG : Hid (y.rangeAt wr.heap.size 0 ([.int .i64 X] : List Value)) := fun j u hj => by rw [blk_cell HK2.out]; simpa using hj
            have q0 := blk_cell HK2.out 0
            simp at q0
            have hi2 : Hid ((#[.int .i64 X] : Array Value).size = 1) := rfl
            have HOW2 : Hid (LOwn 2 mI base (y.alloc (.cells (#[.int .i64 X] : Array Value) 2)) _ acc) := HOW.out.keep mI_law ((HCF.out.alloc (.cells (#[.int .i64 X] : Array Value) 2)).stayF HST.out.rd (by decide))
            have HO4 := Lib.hid (mI_law.okeep HO3.out (Stay.below ((Below.refl y.heap.size y).alloc (Nat.le_refl _) (.cells (#[.int .i64 X] : Array Value) 2))))
            have HAL : Hid ((y.alloc (.cells (#[.int .i64 X] : Array Value) 2)).heap[y.heap.size]? = some (.cells ([.int .i64 X] : List Value).toArray 2)) := by show _ = _; exact alloc_at _ _
            have hbA : base ≤ (y.alloc (.cells (#[.int .i64 X] : Array Value) 2)).heap.size := by have := HS3.out.lt; simp; omega
            clear hst hk2 hown2 hc t2 HSA HKA HRA
            go_wp2_with (first
              | (with_reducible refine wpList_buildOne rfl (.tmp 60) rfl (.int .i64 X) (#[.int .i64 X] : Array Value) elemNum rfl rfl hi2.out (by decide) (by decide) ?_)
              | (with_reducible refine wpList_push rfl (.tmp 59) (.tmp 61) rfl elemNum mI_law (by decide) base _ acc _ ([.int .i64 X] : List Value) y.heap.size rfl HOW2.out rfl HAL.out HO4.out (by omega) (by decide) hbA ?_; intro v3 w3 hown3 hg3 hat3; have HOW3 := Lib.hid hown3; have HG3 := Lib.hid hg3; have HAT := Lib.hid hat3; clear hown3 hg3 hat3))
            obtain ⟨z1, z2, z3⟩ := LSt.next HGW.out hrw HCF.out HS3.out HLO.out HG3.out HAT.out
            have Z1 := Lib.hid z1
            have Z2 := Lib.hid z2
            have Z3 := Lib.hid z3
            clear z1 z2 z3
            go_roundw
            case rel => exact ⟨k, by go_num, by omega, ⟨_, acc ++ [_], by simp; omega, Z2.out, HOW3.out, Z1.out, Z3.out, HE.out⟩⟩
            case measure => simp [intOf]; go_num

end Go.Proofs.YtckooioikcenmaaGreat

/- The reader's methods: number, numbers, ints, small, flags, texts. Conditions: sizes a machine can have. -/
import Derived.Test.YtckooioikcenmaaGreatCkM2
import Derived.Deep.RegionHeld3
import Derived.Deep.QuietTactic
import Derived.BigQuiet
import Derived.Laws.BytesArg
import Derived.Maps.Range
import Derived.Deep.MidRow
namespace Go.Proofs.YtckooioikcenmaaGreat
open Go.RowKit
/-- of what was there, two blocks alone have turned -/
structure Chg (r K : Nat) (w w' : World) : Prop where
  os : w'.os = w.os
  tape : w'.tape = w.tape
  output : w'.output = w.output
  size : w.heap.size ≤ w'.heap.size
  block : ∀ k, k < w.heap.size → k ≠ r → k ≠ K → w'.heap[k]? = w.heap[k]?
theorem Chg.refl (r K : Nat) (w : World) : Chg r K w w := ⟨rfl, rfl, rfl, Nat.le_refl _, fun _ _ _ _ => rfl⟩
theorem Chg.trans {r K : Nat} {a b c : World} (h : Chg r K a b) (k : Chg r K b c) : Chg r K a c :=
  ⟨k.os.trans h.os, k.tape.trans h.tape, k.output.trans h.output, Nat.le_trans h.size k.size, fun i hi h1 h2 => (k.block i (Nat.lt_of_lt_of_le hi h.size) h1 h2).trans (h.block i hi h1 h2)⟩
theorem Chg.of_below {r K : Nat} {w w' : World} (h : Below w.heap.size w w') : Chg r K w w' := ⟨h.os, h.tape, h.output, h.size, fun k hk _ _ => h.block k hk⟩
theorem Chg.alloc {r K : Nat} {a w : World} (h : Chg r K a w) (o : Obj) : Chg r K a (w.alloc o) := h.trans (Chg.of_below ((Below.refl _ _).alloc (Nat.le_refl _) o))
theorem Chg.drew {r K : Nat} {a w : World} (h : Chg r K a w) : Chg r K a w.drew := ⟨h.os, h.tape, h.output, h.size, h.block⟩
theorem Chg.drewN {r K : Nat} {a w : World} (h : Chg r K a w) (n : Nat) : Chg r K a (w.drewN n) := ⟨h.os, h.tape, h.output, h.size, h.block⟩
theorem Chg.grown {r K : Nat} {w w' : World} (h : w.grownBy w' (some r)) : Chg r K w w' := ⟨h.os, h.tape, h.output, h.size, fun k hk h1 _ => h.block k hk (fun e => h1 (by injection e))⟩
theorem Chg.grownK {r K : Nat} {w w' : World} (h : w.grownBy w' (some K)) : Chg r K w w' := ⟨h.os, h.tape, h.output, h.size, fun k hk _ h1 => h.block k hk (fun e => h1 (by injection e))⟩
theorem grow_set (w : World) (r o : Nat) (u : Value) : w.grownBy (w.setCell ⟨r, o, none⟩ u) (some r) :=
  ⟨rfl, rfl, rfl, by simp [World.setCell], fun k hk hne => Below.heap_setCell _ _ _ _ (fun e => hne (by rw [e]))⟩
theorem Chg.setR {r K : Nat} {a w : World} (h : Chg r K a w) (o : Nat) (u : Value) : Chg r K a (w.setCell ⟨r, o, none⟩ u) := h.trans (Chg.grown (grow_set w r o u))
theorem Chg.setK {r K : Nat} {a w : World} (h : Chg r K a w) (o : Nat) (u : Value) : Chg r K a (w.setCell ⟨K, o, none⟩ u) := h.trans (Chg.grownK (grow_set w K o u))
theorem Chg.below {r K B : Nat} {w w' : World} (h : Chg r K w w') (hr : B ≤ r) (hK : B ≤ K) (hB : B ≤ w.heap.size) : Below B w w' := ⟨h.os, h.tape, h.output, h.size, fun k hk => h.block k (by omega) (by omega) (by omega)⟩
theorem Chg.blk {r K k : Nat} {w w' : World} {o : Obj} (h : Chg r K w w') (hk : w.heap[k]? = some o) (h1 : k ≠ r) (h2 : k ≠ K) : w'.heap[k]? = some o := (h.block k (blk_lt hk) h1 h2).trans hk
/-- rows of these types stay, where neither block is one -/
theorem Chg.stay {r K : Nat} {w w' : World} {ts : List TypeId} {cs ds : Array Value} {T U : TypeId} (h : Chg r K w w') (hr : w.heap[r]? = some (.cells cs T)) (hK : w.heap[K]? = some (.cells ds U)) (hT : T ∉ ts) (hU : U ∉ ts) : Stay ts w w' := fun k es V fr hV hh => by
  refine (h.block k (blk_lt hh) ?_ ?_).trans hh
  · rintro rfl
    rw [hr] at hh
    injection hh with hh
    injection hh with _ hh
    exact hT (hh ▸ hV)
  · rintro rfl
    rw [hK] at hh
    injection hh with hh
    injection hh with _ hh
    exact hU (hh ▸ hV)
/-- a reader at r: of the bytes ys, that are older than base -/
structure RSt (base r : Nat) (w : World) (v : Value) (ys : List UInt8) (s : Rd) : Prop where
  rd : w.heap[r]? = some (.cells #[v, .int .i64 s.pos, .bool s.bad] 94)
  ok : RdB w v ys
  old : ∀ k, Value.readBlock v = some k → k < base
  len0 : ys.length ≤ 100000000000
  pos : PosOk s
  hr : base ≤ r
theorem RSt.len {base r : Nat} {w : World} {v : Value} {ys : List UInt8} {s : Rd} (h : RSt base r w v ys s) : ys.length ≤ 140737488355328 := Nat.le_trans h.len0 (by decide)
theorem RSt.lt {base r : Nat} {w : World} {v : Value} {ys : List UInt8} {s : Rd} (h : RSt base r w v ys s) : r < w.heap.size := blk_lt h.rd
theorem RSt.below {base r : Nat} {w w' : World} {v : Value} {ys : List UInt8} {s : Rd} (h : RSt base r w v ys s) (hb : Below w.heap.size w w') : RSt base r w' v ys s :=
  ⟨blk_below hb h.rd, h.ok.below hb, h.old, h.len0, h.pos, h.hr⟩
theorem RSt.alloc {base r : Nat} {w : World} {v : Value} {ys : List UInt8} {s : Rd} (h : RSt base r w v ys s) (o : Obj) : RSt base r (w.alloc o) v ys s := h.below ((Below.refl _ _).alloc (Nat.le_refl _) o)
theorem RSt.drewN {base r : Nat} {w : World} {v : Value} {ys : List UInt8} {s : Rd} (h : RSt base r w v ys s) (n : Nat) : RSt base r (w.drewN n) v ys s := h.below (below_drewN (Below.refl _ _) n)
/-- what a step makes of a reader -/
theorem RSt.step {base r K : Nat} {w w' : World} {v : Value} {ys : List UInt8} {s s' : Rd} (h : RSt base r w v ys s) (hc : Chg r K w w') (hK : base ≤ K) (hr' : w'.heap[r]? = some (.cells #[v, .int .i64 s'.pos, .bool s'.bad] 94)) (hp : PosOk s') : RSt base r w' v ys s' :=
  ⟨hr', h.ok.lower h.old hc.size (hc.below h.hr hK (by have := h.lt; have := h.hr; omega)), h.old, h.len0, hp, h.hr⟩
theorem RSt.set {base r K : Nat} {w : World} {v : Value} {ys : List UInt8} {s : Rd} (h : RSt base r w v ys s) (hK : base ≤ K) (hne : r ≠ K) (o : Nat) (u : Value) : RSt base r (w.setCell ⟨K, o, none⟩ u) v ys s :=
  h.step (K := K) ((Chg.refl _ _ _).setK o u) hK (blk_set_ne h.rd u hne) h.pos
theorem str_nums (ys : List UInt8) : strOfNums (ys.map fun x => (x.toNat : Int)) = ⟨ys.toArray⟩ := by simp [strOfNums, Function.comp_def]
theorem rd_text {w : World} {v : Value} {ys : List UInt8} (h : RdB w v ys) : Sem.run Tryz.prog (convert 36 9 v) w = .ok (.string ⟨ys.toArray⟩) w := by
  rcases h with ⟨rfl, rfl⟩ | ⟨b, o, c, rfl, h1, h2, h3, h4⟩
  · exact run_convert_bytes_nil w 36 5 Tryz.underlying36 Tryz.underlying5 0 0 9 Tryz.underlying9
  · have := run_convert_bytes_arg (P := Tryz.prog) w 36 5 Tryz.underlying36 Tryz.underlying5 b o ys.length c (ys.map fun x => (x.toNat : Int)) (by simp) (fun i hi => by
      rw [h4 i ys[i] (List.getElem?_eq_getElem hi)]
      simp [List.getD, List.getElem?_eq_getElem hi]) 9 Tryz.underlying9
    rw [this, str_nums]
theorem grow_drewN {a w : World} {row : Option Nat} (h : a.grownBy w row) (n : Nat) : a.grownBy (w.drewN n) row := ⟨h.os, h.tape, h.output, h.size, h.block⟩
theorem RdB.drewN {w : World} {v : Value} {ys : List UInt8} (h : RdB w v ys) (n : Nat) : RdB (w.drewN n) v ys := h.below (below_drewN (Below.refl _ _) n)
def NumPost (base r : Nat) (v : Value) (ys : List UInt8) (s : Rd) (w : World) (e : Ending) (w' : World) : Prop :=
  e = .returned (.int .i64 (rdI ys s).1) ∧ RSt base r w' v ys (rdI ys s).2 ∧ w.grownBy w' (some r)
set_option maxRecDepth 20000 in
set_option maxHeartbeats 1000000 in
theorem number_any (base r : Nat) (v : Value) (ys : List UInt8) (s : Rd) (w : World) (hs : RSt base r w v ys s) :
    Calls Tryz.prog 72 #[.pointer (some ⟨r, 0, none⟩)] w (NumPost base r v ys s w) := by
  have HPOS := Lib.hid (rdI_pos hs.len hs.pos)
  obtain ⟨p, bad⟩ := s
  have hR := hs.rd
  have hr := hs.ok
  have c0 : w.cell? ⟨r, 0, none⟩ = some v := by rw [blk_cell hR]; rfl
  have c1 : w.cell? ⟨r, 1, none⟩ = some (.int .i64 p) := by rw [blk_cell hR]; rfl
  have c2 : w.cell? ⟨r, 2, none⟩ = some (.bool bad) := by rw [blk_cell hR]; rfl
  have fz := blk_free hR 0
  have f1 := blk_free hR 1
  have f2 := blk_free hR 2
  have HR := Lib.hid hR
  have HS := Lib.hid hs
  have hp : p ≤ 140737488355328 := hs.pos
  have hG : Hid (∀ q, Calls Tryz.prog 106 #[v, .int .i64 p] (w.drewN q) fun e w' => e = .returned (.tuple #[.int .i64 (getI ys p).1, .int .i64 (getI ys p).2.1, .int .i64 (getI ys p).2.2]) ∧ ∃ m', w' = w.drewN m') :=
    fun q => (getInt_any v ys p (w.drewN q) (hr.drewN q) (by omega) hs.len).mono fun e w' h => by
      obtain ⟨h1, h2⟩ := h
      exact ⟨h1, q, h2.symm⟩
  obtain ⟨A, c, rfl, _, _⟩ := hr.form
  clear hR hr hs
  cases bad with
  | true =>
    have hd := Lib.hid (show rdI ys ⟨p, true⟩ = (0, ⟨p, true⟩) by simp [rdI])
    go_enter Tryz.func72, Tryz.ntmps72
    go_wp2
    go_ret
    exact ⟨by rw [hd.out]; rfl, by rw [hd.out]; exact HS.out, World.grownBy.refl _ _⟩
  | false =>
    have hd := Lib.hid (show rdI ys ⟨p, false⟩ = if (getI ys p).2.2 ≠ 0 then ((0 : Int), (⟨p, true⟩ : Rd)) else ((getI ys p).1, ⟨(getI ys p).2.1, false⟩) by simp [rdI])
    generalize (getI ys p).1 = n at *
    generalize (getI ys p).2.1 = m at *
    generalize (getI ys p).2.2 = e at *
    by_cases he : e ≠ 0
    · have HD := Lib.hid (hd.out.trans (if_pos he))
      clear hd
      have HG2 := Lib.hid (fun q => (grow_drewN (World.grownBy.refl w (some r)) q).trans (grow_set (w.drewN q) r 2 (.bool true)))
      go_enter Tryz.func72, Tryz.ntmps72
      go_wp2
      go_quiet ((go_at_call 106; exact hG.out _))
      go_wp2
      go_ret
      exact ⟨by rw [HD.out]; rfl, HS.out.step (K := r) (Chg.grown (HG2.out _)) HS.out.hr (by rw [HD.out]; exact blk_set HR.out 2 _) HPOS.out, HG2.out _⟩
    · obtain rfl : e = 0 := Classical.not_not.1 he
      have HD := Lib.hid (hd.out.trans (if_neg (by simp)))
      clear hd
      have HG2 := Lib.hid (fun q => (grow_drewN (World.grownBy.refl w (some r)) q).trans (grow_set (w.drewN q) r 1 (.int .i64 m)))
      go_enter Tryz.func72, Tryz.ntmps72
      go_wp2
      go_quiet ((go_at_call 106; exact hG.out _))
      go_wp2
      go_ret
      exact ⟨by rw [HD.out]; rfl, HS.out.step (K := r) (Chg.grown (HG2.out _)) HS.out.hr (by rw [HD.out]; exact blk_set HR.out 1 _) HPOS.out, HG2.out _⟩
/-- what is read, one by one, into the cells at these places -/
def rdTo {α : Type} (f : Rd → α × Rd) (mk : α → Value) : List Nat → Rd → Array Value → Rd × Array Value
  | [], s, cs => (s, cs)
  | o :: r, s, cs => rdTo f mk r (f s).2 (cs.setIfInBounds o (mk (f s).1))
def ptrs (K : Nat) (os : List Nat) : List Value := os.map fun o => .pointer (some ⟨K, o, none⟩)
def ToPost (base r K : Nat) (v : Value) (ys : List UInt8) (T : TypeId) (x : Rd × Array Value) (w : World) (e : Ending) (w' : World) : Prop :=
  e = .returned (.tuple #[]) ∧ RSt base r w' v ys x.1 ∧ w'.heap[K]? = some (.cells x.2 T) ∧ Chg r K w w'
theorem elems_chg {r K b : Nat} {w w' : World} {T : TypeId} {vs : List Value} (h : ElemsAt w b T vs) (hc : Chg r K w w') (h1 : b ≠ r) (h2 : b ≠ K) : ElemsAt w' b T vs := by
  obtain ⟨cs, g1, g2⟩ := h
  exact ⟨cs, hc.blk g1 h1 h2, g2⟩
/-- the loop that ints and numbers are: the place of the k-th pointer -/
theorem drop_at {os : List Nat} {k o : Nat} (h : os[k]? = some o) : os.drop k = o :: os.drop (k + 1) := by
  obtain ⟨hl, he⟩ := List.getElem?_eq_some_iff.1 h
  rw [List.drop_eq_getElem_cons hl, he]
set_option maxRecDepth 20000 in
set_option maxHeartbeats 1000000 in
theorem numbersR_any (base r K b : Nat) (v : Value) (ys : List UInt8) (s : Rd) (T : TypeId) (cs : Array Value) (os : List Nat) (ln : Nat) (hln : os.length = ln) (w : World) (hs : RSt base r w v ys s) (hK : w.heap[K]? = some (.cells cs T)) (hb : base ≤ K) (hne : r ≠ K)
    (hn : ElemsAt w b 99 (ptrs K os)) (hbr : b ≠ r) (hbK : b ≠ K) (ho : ∀ o ∈ os, ∃ u : Int, cs[o]? = some (.int .i64 u)) (hnd : os.Nodup) (h4 : ln ≤ 1000) :
    Calls Tryz.prog 34 #[.pointer (some ⟨r, 0, none⟩), .slice (some ⟨b, 0, none⟩) ln ln] w (ToPost base r K v ys T (rdTo (rdI ys) (Value.int .i64) os s cs) w) := by
  have HLN := Lib.hid hln
  have HS := Lib.hid hs
  have HK := Lib.hid hK
  have HN := Lib.hid hn
  have HO := Lib.hid ho
  have HD := Lib.hid hnd
  clear hln hs hK hn ho hnd
  go_enter Tryz.func34, Tryz.ntmps34
  go_wp2
  go_loopw [5, 8] (fun _ i wr => ∃ (k : Nat), i = .int .i64 k ∧ k ≤ ln ∧ Hid (∃ sk ck, RSt base r wr v ys sk ∧ wr.heap[K]? = some (.cells ck T) ∧ rdTo (rdI ys) (Value.int .i64) os s cs = rdTo (rdI ys) (Value.int .i64) (os.drop k) sk ck ∧ (∀ o ∈ os.drop k, ∃ u : Int, ck[o]? = some (.int .i64 u))) ∧ Hid (Chg r K w wr)) (fun _ i _ => ln - (intOf i).toNat)
  case atStart => exact ⟨0, rfl, by omega, ⟨s, cs, HS.out, HK.out, rfl, HO.out⟩, Chg.refl _ _ _⟩
  case round =>
    obtain ⟨k, rfl, hk, HST, HC⟩ := hrel
    obtain ⟨sk, ck, hRS, hKK, hEQ, hZ⟩ := HST.out
    by_cases hk4 : k < ln
    · obtain ⟨o, hok⟩ : ∃ o, os[k]? = some o := ⟨os[k]'(by rw [HLN.out]; exact hk4), List.getElem?_eq_getElem _⟩
      have d0 := (elems_chg HN.out HC.out hbr hbK).cell (k := k) (v := .pointer (some ⟨K, o, none⟩)) (by unfold ptrs; rw [List.getElem?_map, hok]; rfl)
      have hdr := drop_at hok
      rw [hdr] at hEQ hZ
      obtain ⟨u0, hu0⟩ := hZ o (by simp)
      have hnd2 : o ∉ os.drop (k + 1) := by
        have := HD.out
        rw [← List.take_append_drop k os, hdr] at this
        exact (List.nodup_cons.1 (List.nodup_append.1 this).2.1).1
      have HRS := Lib.hid hRS
      have HKK := Lib.hid hKK
      have HEQ := Lib.hid hEQ
      have HZ := Lib.hid hZ
      have HU := Lib.hid hu0
      clear hRS hKK hEQ hZ hdr hok hu0
      go_wp2_with fail
      refine (number_any base r v ys sk wr HRS.out).mono ?_
      rintro e w2 ⟨rfl, hR2, hg2⟩
      have hK2 := (Chg.grown (K := K) hg2).block K (blk_lt HKK.out) (Ne.symm hne)
      have hK3 : w2.heap[K]? = some (.cells ck T) := by
        rcases Nat.lt_or_ge K wr.heap.size with hlt | hge
        · exact (hg2.block K hlt (fun e => hne (by injection e with e; exact e.symm))).trans HKK.out
        · exact absurd (blk_lt HKK.out) (by omega)
      have e1 : w2.cell? ⟨K, o, none⟩ = some (.int .i64 u0) := by rw [blk_cell hK3]; exact HU.out
      have e2 := blk_free hK3 o
      have HR2 := Lib.hid hR2
      have HG2 := Lib.hid hg2
      have HK3 := Lib.hid hK3
      clear hR2 hg2 hK2 hK3
      go_wp2
      go_roundw
      case rel =>
        refine ⟨k + 1, by go_num, by omega, ⟨(rdI ys sk).2, ck.setIfInBounds o (.int .i64 (rdI ys sk).1), HR2.out.set hb hne _ _, blk_set HK3.out o _, HEQ.out, fun o' ho' => ?_⟩, (HC.out.trans (Chg.grown HG2.out)).setK _ _⟩
        obtain ⟨u, hu⟩ := HZ.out o' (by simp [ho'])
        refine ⟨u, ?_⟩
        rw [Array.getElem?_setIfInBounds_ne (fun e => hnd2 (by rw [e]; exact ho'))]
        exact hu
      case measure => simp [intOf]; omega
    · obtain rfl : k = ln := by omega
      have HF := Lib.hid hEQ
      have HRS := Lib.hid hRS
      have HKK := Lib.hid hKK
      have HDR := Lib.hid (List.drop_of_length_le (by rw [HLN.out]; exact Nat.le_refl _) : os.drop k = [])
      clear hEQ hRS hKK hZ
      go_wp2
      refine bodyPost_ret (v := .tuple #[]) (by simp [results]) rfl ⟨rfl, ?_, ?_, HC.out⟩
      · rw [HF.out, HDR.out]; exact HRS.out
      · rw [HF.out, HDR.out]; exact HKK.out
set_option maxRecDepth 20000 in
set_option maxHeartbeats 1000000 in
theorem intsR_any (base r K b : Nat) (v : Value) (ys : List UInt8) (s : Rd) (T : TypeId) (cs : Array Value) (os : List Nat) (ln : Nat) (hln : os.length = ln) (w : World) (hs : RSt base r w v ys s) (hK : w.heap[K]? = some (.cells cs T)) (hb : base ≤ K) (hne : r ≠ K)
    (hn : ElemsAt w b 101 (ptrs K os)) (hbr : b ≠ r) (hbK : b ≠ K) (ho : ∀ o ∈ os, ∃ u : Int, cs[o]? = some (.int .i64 u)) (hnd : os.Nodup) (h4 : ln ≤ 1000) :
    Calls Tryz.prog 35 #[.pointer (some ⟨r, 0, none⟩), .slice (some ⟨b, 0, none⟩) ln ln] w (ToPost base r K v ys T (rdTo (rdI ys) (Value.int .i64) os s cs) w) := by
  have HLN := Lib.hid hln
  have HS := Lib.hid hs
  have HK := Lib.hid hK
  have HN := Lib.hid hn
  have HO := Lib.hid ho
  have HD := Lib.hid hnd
  clear hln hs hK hn ho hnd
  go_enter Tryz.func35, Tryz.ntmps35
  go_wp2
  go_loopw [5, 8] (fun _ i wr => ∃ (k : Nat), i = .int .i64 k ∧ k ≤ ln ∧ Hid (∃ sk ck, RSt base r wr v ys sk ∧ wr.heap[K]? = some (.cells ck T) ∧ rdTo (rdI ys) (Value.int .i64) os s cs = rdTo (rdI ys) (Value.int .i64) (os.drop k) sk ck ∧ (∀ o ∈ os.drop k, ∃ u : Int, ck[o]? = some (.int .i64 u))) ∧ Hid (Chg r K w wr)) (fun _ i _ => ln - (intOf i).toNat)
  case atStart => exact ⟨0, rfl, by omega, ⟨s, cs, HS.out, HK.out, rfl, HO.out⟩, Chg.refl _ _ _⟩
  case round =>
    obtain ⟨k, rfl, hk, HST, HC⟩ := hrel
    obtain ⟨sk, ck, hRS, hKK, hEQ, hZ⟩ := HST.out
    by_cases hk4 : k < ln
    · obtain ⟨o, hok⟩ : ∃ o, os[k]? = some o := ⟨os[k]'(by rw [HLN.out]; exact hk4), List.getElem?_eq_getElem _⟩
      have d0 := (elems_chg HN.out HC.out hbr hbK).cell (k := k) (v := .pointer (some ⟨K, o, none⟩)) (by unfold ptrs; rw [List.getElem?_map, hok]; rfl)
      have hdr := drop_at hok
      rw [hdr] at hEQ hZ
      obtain ⟨u0, hu0⟩ := hZ o (by simp)
      have hnd2 : o ∉ os.drop (k + 1) := by
        have := HD.out
        rw [← List.take_append_drop k os, hdr] at this
        exact (List.nodup_cons.1 (List.nodup_append.1 this).2.1).1
      have HRS := Lib.hid hRS
      have HKK := Lib.hid hKK
      have HEQ := Lib.hid hEQ
      have HZ := Lib.hid hZ
      have HU := Lib.hid hu0
      clear hRS hKK hEQ hZ hdr hok hu0
      go_wp2_with fail
      refine (number_any base r v ys sk wr HRS.out).mono ?_
      rintro e w2 ⟨rfl, hR2, hg2⟩
      have hK2 := (Chg.grown (K := K) hg2).block K (blk_lt HKK.out) (Ne.symm hne)
      have hK3 : w2.heap[K]? = some (.cells ck T) := by
        rcases Nat.lt_or_ge K wr.heap.size with hlt | hge
        · exact (hg2.block K hlt (fun e => hne (by injection e with e; exact e.symm))).trans HKK.out
        · exact absurd (blk_lt HKK.out) (by omega)
      have e1 : w2.cell? ⟨K, o, none⟩ = some (.int .i64 u0) := by rw [blk_cell hK3]; exact HU.out
      have e2 := blk_free hK3 o
      have HR2 := Lib.hid hR2
      have HG2 := Lib.hid hg2
      have HK3 := Lib.hid hK3
      clear hR2 hg2 hK2 hK3
      go_wp2
      go_roundw
      case rel =>
        refine ⟨k + 1, by go_num, by omega, ⟨(rdI ys sk).2, ck.setIfInBounds o (.int .i64 (rdI ys sk).1), HR2.out.set hb hne _ _, blk_set HK3.out o _, HEQ.out, fun o' ho' => ?_⟩, (HC.out.trans (Chg.grown HG2.out)).setK _ _⟩
        obtain ⟨u, hu⟩ := HZ.out o' (by simp [ho'])
        refine ⟨u, ?_⟩
        rw [Array.getElem?_setIfInBounds_ne (fun e => hnd2 (by rw [e]; exact ho'))]
        exact hu
      case measure => simp [intOf]; omega
    · obtain rfl : k = ln := by omega
      have HF := Lib.hid hEQ
      have HRS := Lib.hid hRS
      have HKK := Lib.hid hKK
      have HDR := Lib.hid (List.drop_of_length_le (by rw [HLN.out]; exact Nat.le_refl _) : os.drop k = [])
      clear hEQ hRS hKK hZ
      go_wp2
      refine bodyPost_ret (v := .tuple #[]) (by simp [results]) rfl ⟨rfl, ?_, ?_, HC.out⟩
      · rw [HF.out, HDR.out]; exact HRS.out
      · rw [HF.out, HDR.out]; exact HKK.out
end Go.Proofs.YtckooioikcenmaaGreat
namespace Go.Proofs.YtckooioikcenmaaGreat
open Go.RowKit
def SmallPost (base r : Nat) (v : Value) (ys : List UInt8) (s : Rd) (w : World) (e : Ending) (w' : World) : Prop :=
  e = .returned (.int .u8 (rdB ys s).1) ∧ RSt base r w' v ys (rdB ys s).2 ∧ w.grownBy w' (some r)
set_option maxRecDepth 20000 in
set_option maxHeartbeats 1000000 in
theorem small_any (base r : Nat) (v : Value) (ys : List UInt8) (s : Rd) (w : World) (hs : RSt base r w v ys s) :
    Calls Tryz.prog 32 #[.pointer (some ⟨r, 0, none⟩)] w (SmallPost base r v ys s w) := by
  have HS := Lib.hid hs
  clear hs
  have hd := Lib.hid (show rdB ys s = if (rdI ys s).1 < 0 ∨ 255 < (rdI ys s).1 then (0, ⟨(rdI ys s).2.pos, true⟩) else rdI ys s from rfl)
  by_cases h0 : (rdI ys s).1 < 0 ∨ 255 < (rdI ys s).1
  · have HD := Lib.hid (hd.out.trans (if_pos h0))
    have H0 := Lib.hid h0
    clear h0 hd
    go_enter Tryz.func32, Tryz.ntmps32
    go_wp2_with fail
    refine (number_any base r v ys s w HS.out).mono ?_
    rintro e w2 ⟨rfl, hR2, hg2⟩
    have f2 := blk_free hR2.rd 2
    have c2 := blk_cell hR2.rd 2
    simp at c2
    have HR2 := Lib.hid hR2
    have HG2 := Lib.hid hg2
    have h0 := H0.out
    clear hR2 hg2
    generalize (rdI ys s).1 = n at *
    generalize (rdI ys s).2 = s2 at *
    by_cases h1 : n < 0
    · clear h0
      go_wp2
      go_ret
      exact ⟨by rw [HD.out]; rfl, HR2.out.step (K := r) ((Chg.refl r r _).setR 2 _) HR2.out.hr (by rw [HD.out]; exact blk_set HR2.out.rd 2 _) (by rw [HD.out]; exact HR2.out.pos), HG2.out.trans (grow_set _ _ _ _)⟩
    · have h2 : 255 < n := by omega
      clear h0
      go_wp2
      go_ret
      exact ⟨by rw [HD.out]; rfl, HR2.out.step (K := r) ((Chg.refl r r _).setR 2 _) HR2.out.hr (by rw [HD.out]; exact blk_set HR2.out.rd 2 _) (by rw [HD.out]; exact HR2.out.pos), HG2.out.trans (grow_set _ _ _ _)⟩
  · have HD := Lib.hid (hd.out.trans (if_neg h0))
    have H0 := Lib.hid h0
    clear h0 hd
    go_enter Tryz.func32, Tryz.ntmps32
    go_wp2_with fail
    refine (number_any base r v ys s w HS.out).mono ?_
    rintro e w2 ⟨rfl, hR2, hg2⟩
    have HR2 := Lib.hid hR2
    have HG2 := Lib.hid hg2
    have h0 := H0.out
    clear hR2 hg2
    generalize hN : rdI ys s = ns at *
    obtain ⟨n, s2⟩ := ns
    have HNN := Lib.hid hN
    clear hN
    simp only at h0
    have h1 : 0 ≤ n := by omega
    have h2 : n ≤ 255 := by omega
    clear h0
    go_wp2
    go_ret
    exact ⟨by rw [HD.out]; rfl, by rw [HD.out]; exact HR2.out, HG2.out⟩
set_option maxRecDepth 20000 in
set_option maxHeartbeats 1000000 in
theorem flagsR_any (base r K b : Nat) (v : Value) (ys : List UInt8) (s : Rd) (T : TypeId) (cs : Array Value) (os : List Nat) (ln : Nat) (hln : os.length = ln) (w : World) (hs : RSt base r w v ys s) (hK : w.heap[K]? = some (.cells cs T)) (hb : base ≤ K) (hne : r ≠ K)
    (hn : ElemsAt w b 113 (ptrs K os)) (hbr : b ≠ r) (hbK : b ≠ K) (ho : ∀ o ∈ os, ∃ u : Bool, cs[o]? = some (.bool u)) (hnd : os.Nodup) (h4 : ln ≤ 1000) :
    Calls Tryz.prog 43 #[.pointer (some ⟨r, 0, none⟩), .slice (some ⟨b, 0, none⟩) ln ln] w (ToPost base r K v ys T (rdTo (rdF ys) Value.bool os s cs) w) := by
  have HLN := Lib.hid hln
  have HS := Lib.hid hs
  have HK := Lib.hid hK
  have HN := Lib.hid hn
  have HO := Lib.hid ho
  have HD := Lib.hid hnd
  clear hln hs hK hn ho hnd
  go_enter Tryz.func43, Tryz.ntmps43
  go_wp2
  go_loopw [5, 6, 9] (fun _ _ i wr => ∃ (k : Nat), i = .int .i64 k ∧ k ≤ ln ∧ Hid (∃ sk ck, RSt base r wr v ys sk ∧ wr.heap[K]? = some (.cells ck T) ∧ rdTo (rdF ys) Value.bool os s cs = rdTo (rdF ys) Value.bool (os.drop k) sk ck ∧ (∀ o ∈ os.drop k, ∃ u : Bool, ck[o]? = some (.bool u))) ∧ Hid (Chg r K w wr)) (fun _ _ i _ => ln - (intOf i).toNat)
  case atStart => exact ⟨0, rfl, by omega, ⟨s, cs, HS.out, HK.out, rfl, HO.out⟩, Chg.refl _ _ _⟩
  case round =>
    obtain ⟨k, rfl, hk, HST, HC⟩ := hrel
    obtain ⟨sk, ck, hRS, hKK, hEQ, hZ⟩ := HST.out
    by_cases hk4 : k < ln
    · obtain ⟨o, hok⟩ : ∃ o, os[k]? = some o := ⟨os[k]'(by rw [HLN.out]; exact hk4), List.getElem?_eq_getElem _⟩
      have d0 := (elems_chg HN.out HC.out hbr hbK).cell (k := k) (v := .pointer (some ⟨K, o, none⟩)) (by unfold ptrs; rw [List.getElem?_map, hok]; rfl)
      have hdr := drop_at hok
      rw [hdr] at hEQ hZ
      obtain ⟨u0, hu0⟩ := hZ o (by simp)
      have hnd2 : o ∉ os.drop (k + 1) := by
        have := HD.out
        rw [← List.take_append_drop k os, hdr] at this
        exact (List.nodup_cons.1 (List.nodup_append.1 this).2.1).1
      have HRS := Lib.hid hRS
      have HKK := Lib.hid hKK
      have HEQ := Lib.hid (show rdTo (rdF ys) Value.bool os s cs = rdTo (rdF ys) Value.bool (os.drop (k + 1)) ⟨(rdI ys sk).2.pos, (rdI ys sk).2.bad || (decide ((rdI ys sk).1 ≠ 0) && decide ((rdI ys sk).1 ≠ 1))⟩ (ck.setIfInBounds o (.bool (decide ((rdI ys sk).1 = 1)))) from hEQ)
      have HZ := Lib.hid hZ
      have HU := Lib.hid hu0
      clear hRS hKK hEQ hZ hdr hok hu0
      go_wp2_with fail
      refine (number_any base r v ys sk wr HRS.out).mono ?_
      rintro e w2 ⟨rfl, hR2, hg2⟩
      have hK3 : w2.heap[K]? = some (.cells ck T) := (hg2.block K (blk_lt HKK.out) (fun e => hne (by injection e with e; exact e.symm))).trans HKK.out
      generalize (rdI ys sk).1 = n at *
      generalize (rdI ys sk).2 = s2 at *
      obtain ⟨p2, bad2⟩ := s2
      dsimp only at HEQ
      have e1 : w2.cell? ⟨K, o, none⟩ = some (.bool u0) := by rw [blk_cell hK3]; exact HU.out
      have e2 := blk_free hK3 o
      have c2 := blk_cell hR2.rd 2
      have f2 := blk_free hR2.rd 2
      simp at c2
      have HR2 := Lib.hid hR2
      have HG2 := Lib.hid hg2
      have HK3 := Lib.hid hK3
      clear hR2 hg2 hK3
      have fin : Hid (∀ (bb fl : Bool), rdTo (rdF ys) Value.bool os s cs = rdTo (rdF ys) Value.bool (os.drop (k + 1)) ⟨p2, bb⟩ (ck.setIfInBounds o (.bool fl)) →
          (∃ sk' ck', RSt base r ((w2.setCell ⟨r, 2, none⟩ (.bool bb)).setCell ⟨K, o, none⟩ (.bool fl)) v ys sk' ∧ ((w2.setCell ⟨r, 2, none⟩ (.bool bb)).setCell ⟨K, o, none⟩ (.bool fl)).heap[K]? = some (.cells ck' T) ∧ rdTo (rdF ys) Value.bool os s cs = rdTo (rdF ys) Value.bool (os.drop (k + 1)) sk' ck' ∧ (∀ o ∈ os.drop (k + 1), ∃ u : Bool, ck'[o]? = some (.bool u))) ∧
            Chg r K w ((w2.setCell ⟨r, 2, none⟩ (.bool bb)).setCell ⟨K, o, none⟩ (.bool fl))) := by
        show ∀ _ _, _
        intro bb fl hq
        have r1 : RSt base r (w2.setCell ⟨r, 2, none⟩ (.bool bb)) v ys ⟨p2, bb⟩ := HR2.out.step (K := K) ((Chg.refl r K _).setR 2 _) hb (blk_set HR2.out.rd 2 _) HR2.out.pos
        refine ⟨⟨⟨p2, bb⟩, _, r1.set hb hne _ _, blk_set (blk_set_ne HK3.out _ (Ne.symm hne)) o _, hq, fun o' ho' => ?_⟩, (((HC.out.trans (Chg.grown HG2.out)).setR 2 _).setK _ _)⟩
        obtain ⟨u, hu⟩ := HZ.out o' (by simp [ho'])
        refine ⟨u, ?_⟩
        rw [Array.getElem?_setIfInBounds_ne (fun e => hnd2 (by rw [e]; exact ho'))]
        exact hu
      by_cases n0 : n = 0
      · subst n0
        cases bad2 with
        | true =>
          go_wp2
          go_roundw
          case rel => exact ⟨k + 1, by go_num, by omega, (fin.out _ _ HEQ.out).1, (fin.out _ _ HEQ.out).2⟩
          case measure => simp [intOf]; omega
        | false =>
          go_wp2
          go_roundw
          case rel => exact ⟨k + 1, by go_num, by omega, (fin.out _ _ HEQ.out).1, (fin.out _ _ HEQ.out).2⟩
          case measure => simp [intOf]; omega
      · by_cases n1 : n = 1
        · subst n1
          cases bad2 with
          | true =>
            go_wp2
            go_roundw
            case rel => exact ⟨k + 1, by go_num, by omega, (fin.out _ _ HEQ.out).1, (fin.out _ _ HEQ.out).2⟩
            case measure => simp [intOf]; omega
          | false =>
            go_wp2
            go_roundw
            case rel => exact ⟨k + 1, by go_num, by omega, (fin.out _ _ HEQ.out).1, (fin.out _ _ HEQ.out).2⟩
            case measure => simp [intOf]; omega
        · have q0 : (n == 0) = false := beq_eq_false_iff_ne.2 n0
          have q1 : (n == 1) = false := beq_eq_false_iff_ne.2 n1
          have q2 : (n != 0) = true := by simp [n0]
          have q3 : (n != 1) = true := by simp [n1]
          have HEQ2 : Hid (rdTo (rdF ys) Value.bool os s cs = rdTo (rdF ys) Value.bool (os.drop (k + 1)) ⟨p2, true⟩ (ck.setIfInBounds o (.bool false))) := by
            show _ = _
            have := HEQ.out
            rw [decide_eq_false n1, decide_eq_true (show n ≠ 0 from n0), decide_eq_true (show n ≠ 1 from n1)] at this
            simpa using this
          cases bad2 with
          | true =>
            go_wp2
            go_roundw
            case rel => exact ⟨k + 1, by go_num, by omega, (fin.out _ _ HEQ2.out).1, (fin.out _ _ HEQ2.out).2⟩
            case measure => simp [intOf]; omega
          | false =>
            go_wp2
            go_roundw
            case rel => exact ⟨k + 1, by go_num, by omega, (fin.out _ _ HEQ2.out).1, (fin.out _ _ HEQ2.out).2⟩
            case measure => simp [intOf]; omega
    · obtain rfl : k = ln := by omega
      have HF := Lib.hid hEQ
      have HRS := Lib.hid hRS
      have HKK := Lib.hid hKK
      have HDR := Lib.hid (List.drop_of_length_le (by rw [HLN.out]; exact Nat.le_refl _) : os.drop k = [])
      clear hEQ hRS hKK hZ
      go_wp2
      refine bodyPost_ret (v := .tuple #[]) (by simp [results]) rfl ⟨rfl, ?_, ?_, HC.out⟩
      · rw [HF.out, HDR.out]; exact HRS.out
      · rw [HF.out, HDR.out]; exact HKK.out
end Go.Proofs.YtckooioikcenmaaGreat
namespace Go.Proofs.YtckooioikcenmaaGreat
open Go.RowKit
/-- a reader that has failed leaves texts without bytes -/
theorem rdTo_bad {ys : List UInt8} : ∀ (os : List Nat) (s : Rd) (cs : Array Value), s.bad = true → (∀ o ∈ os, cs[o]? = some (.string ⟨#[]⟩)) → rdTo (rdS ys) Value.string os s cs = (s, cs)
  | [], s, cs, _, _ => rfl
  | o :: r, s, cs, hb, h => by
    have e : rdS ys s = (⟨#[]⟩, s) := by unfold rdS; rw [if_pos hb]
    have h0 := h o (by simp)
    have e2 : cs.setIfInBounds o (.string ⟨#[]⟩) = cs := by
      obtain ⟨hl, he⟩ := Array.getElem?_eq_some_iff.1 h0
      apply Array.ext
      · simp
      · intro i h1 h2
        rw [Array.getElem_setIfInBounds]
        split
        · rename_i e3; subst e3; exact he.symm
        · rfl
    show rdTo (rdS ys) Value.string r (rdS ys s).2 (cs.setIfInBounds o (.string (rdS ys s).1)) = _
    rw [e, e2]
    exact rdTo_bad r s cs hb (fun o' ho' => h o' (by simp [ho']))
set_option maxRecDepth 20000 in
set_option maxHeartbeats 2000000 in
theorem textsR_any (base r K b : Nat) (v : Value) (ys : List UInt8) (s : Rd) (T : TypeId) (cs : Array Value) (os : List Nat) (ln : Nat) (hln : os.length = ln) (w : World) (hs : RSt base r w v ys s) (hK : w.heap[K]? = some (.cells cs T)) (hb : base ≤ K) (hne : r ≠ K)
    (hn : ElemsAt w b 97 (ptrs K os)) (hbr : b ≠ r) (hbK : b ≠ K) (ho : ∀ o ∈ os, cs[o]? = some (.string ⟨#[]⟩)) (hnd : os.Nodup) (h4 : ln ≤ 1000) :
    Calls Tryz.prog 33 #[.pointer (some ⟨r, 0, none⟩), .slice (some ⟨b, 0, none⟩) ln ln] w (ToPost base r K v ys T (rdTo (rdS ys) Value.string os s cs) w) := by
  have HLN := Lib.hid hln
  have HS := Lib.hid hs
  have HK := Lib.hid hK
  have HN := Lib.hid hn
  have HO := Lib.hid ho
  have HD := Lib.hid hnd
  clear hln hs hK hn ho hnd
  go_enter Tryz.func33, Tryz.ntmps33
  go_wp2
  go_loopw [5, 6, 7, 8, 11] (fun _ _ _ _ i wr => ∃ (k : Nat), i = .int .i64 k ∧ k ≤ ln ∧ Hid (∃ sk ck, RSt base r wr v ys sk ∧ wr.heap[K]? = some (.cells ck T) ∧ rdTo (rdS ys) Value.string os s cs = rdTo (rdS ys) Value.string (os.drop k) sk ck ∧ (∀ o ∈ os.drop k, ck[o]? = some (.string ⟨#[]⟩))) ∧ Hid (Chg r K w wr)) (fun _ _ _ _ i _ => ln - (intOf i).toNat)
  case atStart => exact ⟨0, rfl, by omega, ⟨s, cs, HS.out, HK.out, rfl, HO.out⟩, Chg.refl _ _ _⟩
  case round =>
    obtain ⟨k, rfl, hk, HST, HC⟩ := hrel
    obtain ⟨sk, ck, hRS, hKK, hEQ, hZ⟩ := HST.out
    by_cases hk4 : k < ln
    · obtain ⟨o, hok⟩ : ∃ o, os[k]? = some o := ⟨os[k]'(by rw [HLN.out]; exact hk4), List.getElem?_eq_getElem _⟩
      have d0 := (elems_chg HN.out HC.out hbr hbK).cell (k := k) (v := .pointer (some ⟨K, o, none⟩)) (by unfold ptrs; rw [List.getElem?_map, hok]; rfl)
      obtain ⟨p, bad⟩ := sk
      cases bad with
      | true =>
        have HF := Lib.hid (hEQ.trans (rdTo_bad _ _ _ rfl hZ))
        have c2 := blk_cell hRS.rd 2
        simp at c2
        have HRS := Lib.hid hRS
        have HKK := Lib.hid hKK
        clear hEQ hZ hRS hKK hok
        go_wp2
        refine bodyPost_ret (v := .tuple #[]) (by simp [results]) rfl ⟨rfl, ?_, ?_, HC.out⟩
        · rw [HF.out]; exact HRS.out
        · rw [HF.out]; exact HKK.out
      | false =>
        have hdr := drop_at hok
        have hnd2 : o ∉ os.drop (k + 1) := by
          have := HD.out
          rw [← List.take_append_drop k os, hdr] at this
          exact (List.nodup_cons.1 (List.nodup_append.1 this).2.1).1
        have hu0 := hZ o (by rw [hdr]; simp)
        have HPOS := Lib.hid (rdS_pos hRS.len hRS.pos)
        have hG : Hid (∀ q, Calls Tryz.prog 73 #[v, .int .i64 p, .int .i64 100] (wr.drewN q) (GetBPost ys p 100 (wr.drewN q))) := fun q => getBlob_any v ys p 100 (wr.drewN q) (hRS.ok.drewN q) (by have := hRS.pos; unfold PosOk at this; simp at this; omega) hRS.len (by omega) (by omega)
        have hd := Lib.hid (show rdS ys ⟨p, false⟩ = if (getB ys p 100).2.2 ≠ 0 then ((⟨#[]⟩ : ByteArray), (⟨p, true⟩ : Rd)) else (⟨(getB ys p 100).1.toArray⟩, ⟨(getB ys p 100).2.1, false⟩) by simp [rdS])
        unfold GetBPost at hG
        have HRS := Lib.hid hRS
        have c0 := blk_cell hRS.rd 0
        have c1 := blk_cell hRS.rd 1
        have c2 := blk_cell hRS.rd 2
        simp at c0 c1 c2
        obtain ⟨A, c, hv, _, _⟩ := hRS.ok.form
        subst hv
        have HKK := Lib.hid hKK
        have HEQ := Lib.hid hEQ
        have HZ := Lib.hid hZ
        have HU := Lib.hid hu0
        have HDR := Lib.hid hdr
        have hoK : o < ck.size := (Array.getElem?_eq_some_iff.1 hu0).1
        clear hRS hKK hEQ hZ hdr hok hu0
        generalize (getB ys p 100).1 = bs at *
        generalize (getB ys p 100).2.1 = m at *
        generalize (getB ys p 100).2.2 = e at *
        by_cases he : e ≠ 0
        · have HDD := Lib.hid (hd.out.trans (if_pos he))
          clear hd
          go_wp2
          go_region_held3 (fun w' => w'.cell? ⟨r, 0, none⟩ = some (.slice A ys.length c) ∧ w'.cell? ⟨r, 1, none⟩ = some (.int .i64 p)) (go_keep) ((go_at_call 73; refine (hG.out 1).mono ?_; rintro e w2 ⟨v', rfl, hown, hbl⟩; have HR2 := Lib.hid ((HRS.out.drewN 1).below hbl); have t0 := blk_cell HR2.out.rd 0; have t1 := blk_cell HR2.out.rd 1; have t3 := blk_cell HR2.out.rd 2; have t2 := blk_free HR2.out.rd 2; simp at t0 t1 t3; have HK2 : Hid (w2.heap[K]? = some (.cells ck T)) := blk_below hbl HKK.out; have HC2 : Hid (Chg r K w w2) := (HC.out.drewN 1).trans (Chg.of_below hbl); clear hown hbl))
          all_goals (
            have HR3 : Hid (RSt base r (w2.setCell ⟨r, 2, none⟩ (.bool true)) (.slice A ys.length c) ys ⟨p, true⟩) := HR2.out.step (K := K) ((Chg.refl r K _).setR 2 _) hb (blk_set HR2.out.rd 2 _) HR2.out.pos
            have HK3 : Hid ((w2.setCell ⟨r, 2, none⟩ (.bool true)).heap[K]? = some (.cells ck T)) := blk_set_ne HK2.out _ (Ne.symm hne)
            have HF : Hid (rdTo (rdS ys) Value.string os s cs = (⟨p, true⟩, ck)) := by
              show _ = _
              rw [HEQ.out]
              have h9 := HDR.out
              rw [h9]
              have hz9 := HZ.out
              rw [h9] at hz9
              have e9 := rdTo_bad (ys := ys) (o :: os.drop (k + 1)) ⟨p, true⟩ ck rfl hz9
              rw [← e9]
              show rdTo (rdS ys) Value.string (os.drop (k + 1)) (rdS ys ⟨p, false⟩).2 (ck.setIfInBounds o (.string (rdS ys ⟨p, false⟩).1)) = rdTo (rdS ys) Value.string (os.drop (k + 1)) (rdS ys ⟨p, true⟩).2 (ck.setIfInBounds o (.string (rdS ys ⟨p, true⟩).1))
              rw [HDD.out]
              rfl
            go_wp2
            refine bodyPost_ret (v := .tuple #[]) (by simp [results]) rfl ⟨rfl, ?_, ?_, HC2.out.setR 2 _⟩
            · rw [HF.out]; exact HR3.out
            · rw [HF.out]; exact HK3.out)
        · obtain rfl : e = 0 := Classical.not_not.1 he
          have HDD := Lib.hid (hd.out.trans (if_neg (by simp)))
          clear hd
          go_wp2
          go_region_held3 (fun w' => w'.cell? ⟨r, 0, none⟩ = some (.slice A ys.length c) ∧ w'.cell? ⟨r, 1, none⟩ = some (.int .i64 p)) (go_keep) ((go_at_call 73; refine (hG.out 1).mono ?_; rintro e w2 ⟨v', rfl, hown, hbl⟩; have HR2 := Lib.hid ((HRS.out.drewN 1).below hbl); have t0 := blk_cell HR2.out.rd 0; have t1 := blk_cell HR2.out.rd 1; have t3 := blk_cell HR2.out.rd 2; have t2 := blk_free HR2.out.rd 1; simp at t0 t1 t3; have HK2 : Hid (w2.heap[K]? = some (.cells ck T)) := blk_below hbl HKK.out; have HC2 : Hid (Chg r K w w2) := (HC.out.drewN 1).trans (Chg.of_below hbl); have hcv := rd_text hown.reads; have q1 : w2.cell? ⟨K, o, none⟩ = some (.string ⟨#[]⟩) := (by rw [blk_cell HK2.out]; exact HU.out); have q2 := blk_free HK2.out o; obtain ⟨A2, n2, c2', e2⟩ := hown.form; subst e2; clear hown hbl))
          all_goals (
            have hkne : K ≠ r := Ne.symm hne
            have HK3 : Hid ((w2.setCell ⟨K, o, none⟩ (.string ⟨bs.toArray⟩)).heap[K]? = some (.cells (ck.setIfInBounds o (.string ⟨bs.toArray⟩)) T)) := blk_set HK2.out o _
            have HR3 : Hid (RSt base r (w2.setCell ⟨K, o, none⟩ (.string ⟨bs.toArray⟩)) (.slice A ys.length c) ys ⟨p, false⟩) := HR2.out.set hb hne _ _
            have HR4 : Hid (RSt base r ((w2.setCell ⟨K, o, none⟩ (.string ⟨bs.toArray⟩)).setCell ⟨r, 1, none⟩ (.int .i64 m)) (.slice A ys.length c) ys ⟨m, false⟩) := HR3.out.step (K := K) ((Chg.refl r K _).setR 1 _) hb (blk_set HR3.out.rd 1 _) (by have := HPOS.out; rw [HDD.out] at this; exact this)
            go_wp2
            go_roundw
            case rel =>
              refine ⟨k + 1, by go_num, by omega, ⟨⟨m, false⟩, _, HR4.out, blk_set_ne HK3.out _ hkne, ?_, fun o' ho' => ?_⟩, (HC2.out.setK _ _).setR _ _⟩
              · rw [HEQ.out, HDR.out]
                show rdTo (rdS ys) Value.string (os.drop (k + 1)) (rdS ys ⟨p, false⟩).2 (ck.setIfInBounds o (.string (rdS ys ⟨p, false⟩).1)) = _
                rw [HDD.out]
              · rw [Array.getElem?_setIfInBounds_ne (fun e => hnd2 (by rw [e]; exact ho'))]
                exact HZ.out o' (by rw [HDR.out]; simp [ho'])
            case measure => simp [intOf]; omega)
    · obtain rfl : k = ln := by omega
      have HF := Lib.hid hEQ
      have HRS := Lib.hid hRS
      have HKK := Lib.hid hKK
      have HDR := Lib.hid (List.drop_of_length_le (by rw [HLN.out]; exact Nat.le_refl _) : os.drop k = [])
      clear hEQ hRS hKK hZ
      go_wp2
      refine bodyPost_ret (v := .tuple #[]) (by simp [results]) rfl ⟨rfl, ?_, ?_, HC.out⟩
      · rw [HF.out, HDR.out]; exact HRS.out
      · rw [HF.out, HDR.out]; exact HKK.out
end Go.Proofs.YtckooioikcenmaaGreat
namespace Go.Proofs.YtckooioikcenmaaGreat
open Go.RowKit
theorem ne_type {w : World} {a b : Nat} {cs ds : Array Value} {T U : TypeId} (h : w.heap[a]? = some (.cells cs T)) (k : w.heap[b]? = some (.cells ds U)) (hT : T ≠ U) : a ≠ b := by
  rintro rfl
  rw [h] at k
  injection k with k
  injection k with _ k
  exact hT k
/-- what the reading of one element into a variable at K makes -/
def EachPost {α : Type} (base r K : Nat) (v : Value) (ys : List UInt8) (c : Cd α) (m : Mv α) (T : TypeId) (s : Rd) (w : World) (e : Ending) (w' : World) : Prop :=
  e = .returned (.tuple #[]) ∧ RSt base r w' v ys (c.rd ys s).2 ∧ (∃ us : List Value, w'.heap[K]? = some (.cells us.toArray T) ∧ m.own base w' us (c.rd ys s).1) ∧ Chg r K w w'
theorem mCmd_mk {b : Nat} {w : World} {qn qk qs qa qp : _} : mCmd.own b w [.int .i64 qn, .int .u8 qk, .string qs, .int .i64 qa, .int .i64 qp] (qn, qk, qs, qa, qp) :=
  ⟨_, _, rfl, rfl, _, _, rfl, rfl, _, _, rfl, rfl, _, _, rfl, rfl, rfl⟩
theorem mKnown_mk {b : Nat} {w : World} {qn qt qv : _} : mKnown.own b w [.int .i64 qn, .int .i64 qt, .int .i64 qv] (qn, qt, qv) :=
  ⟨_, _, rfl, rfl, _, _, rfl, rfl, rfl⟩
theorem mSleep_mk {b : Nat} {w : World} {qn qd : _} : mSleep.own b w [.int .i64 qn, .int .i64 qd] (qn, qd) :=
  ⟨_, _, rfl, rfl, rfl⟩
theorem mTurn_mk {b : Nat} {w : World} {qs qn ql : _} : mTurn.own b w [.string qs, .int .i64 qn, .int .i64 ql] (qs, qn, ql) :=
  ⟨_, _, rfl, rfl, _, _, rfl, rfl, rfl⟩
theorem mItem_mk {b : Nat} {w : World} {qn qc : _} : mItem.own b w [.int .i64 qn, .int .i64 qc] (qn, qc) :=
  ⟨_, _, rfl, rfl, rfl⟩
theorem mJob_mk {b : Nat} {w : World} {qn qs qk : _} : mJob.own b w [.int .i64 qn, .string qs, .int .i64 qk] (qn, qs, qk) :=
  ⟨_, _, rfl, rfl, _, _, rfl, rfl, rfl⟩
theorem mWorker_mk {b : Nat} {w : World} {qn qt : _} : mWorker.own b w [.int .i64 qn, .int .i64 qt] (qn, qt) :=
  ⟨_, _, rfl, rfl, rfl⟩
theorem mTask_mk {b : Nat} {w : World} {qa qb qc qd qe qf qg qh qi qj : _} : mTask.own b w [.int .i64 qa, .int .i64 qb, .int .u8 qc, .int .i64 qd, .int .i64 qe, .int .i64 qf, .int .i64 qg, .int .i64 qh, .int .i64 qi, .int .i64 qj] (qa, qb, qc, qd, qe, qf, qg, qh, qi, qj) :=
  ⟨_, _, rfl, rfl, _, _, rfl, rfl, _, _, rfl, rfl, _, _, rfl, rfl, _, _, rfl, rfl, _, _, rfl, rfl, _, _, rfl, rfl, _, _, rfl, rfl, _, _, rfl, rfl, rfl⟩
theorem mAct_mk {b : Nat} {w : World} {uqt0 uqt1 uqt2 uqt3 uqt4 uqt5 uqt6 uqt7 uqt8 uqt9 : Value} {qn qt : _} (hqt : mTask.own b w [uqt0, uqt1, uqt2, uqt3, uqt4, uqt5, uqt6, uqt7, uqt8, uqt9] qt) : mAct.own b w [.int .i64 qn, uqt0, uqt1, uqt2, uqt3, uqt4, uqt5, uqt6, uqt7, uqt8, uqt9] (qn, qt) :=
  ⟨_, _, rfl, rfl, hqt⟩
theorem mHist_mk {b : Nat} {w : World} {vqcs vqts vqks vqss : Value} {qp qa qcs qts qks qss qst qcl qo qov qln qla : _} (hqcs : LOwn 191 mCmd b w vqcs qcs) (hqts : LOwn 3 mI b w vqts qts) (hqks : LOwn 202 mKnown b w vqks qks) (hqss : LOwn 2 mI b w vqss qss) : mHist.own b w [.string qp, .int .i64 qa, vqcs, vqts, vqks, vqss, .bool qst, .bool qcl, .int .i64 qo, .int .i64 qov, .int .i64 qln, .int .i64 qla] (qp, qa, qcs, qts, qks, qss, qst, qcl, qo, qov, qln, qla) :=
  ⟨_, _, rfl, rfl, _, _, rfl, rfl, _, _, rfl, ⟨_, rfl, hqcs⟩, _, _, rfl, ⟨_, rfl, hqts⟩, _, _, rfl, ⟨_, rfl, hqks⟩, _, _, rfl, ⟨_, rfl, hqss⟩, _, _, rfl, rfl, _, _, rfl, rfl, _, _, rfl, rfl, _, _, rfl, rfl, _, _, rfl, rfl, rfl⟩
theorem mLine_mk {b : Nat} {w : World} {vql : Value} {qs qn ql : _} (hql : LOwn 152 mItem b w vql ql) : mLine.own b w [.string qs, .int .i64 qn, vql] (qs, qn, ql) :=
  ⟨_, _, rfl, rfl, _, _, rfl, rfl, ⟨_, rfl, hql⟩⟩
theorem mDesk_mk {b : Nat} {w : World} {vqqs vqls : Value} {qq qqs qat qhad qls : _} (hqqs : LOwn 147 mTurn b w vqqs qqs) (hqls : LOwn 120 mLine b w vqls qls) : mDesk.own b w [.int .i64 qq, vqqs, .int .i64 qat, .bool qhad, vqls] (qq, qqs, qat, qhad, qls) :=
  ⟨_, _, rfl, rfl, _, _, rfl, ⟨_, rfl, hqqs⟩, _, _, rfl, rfl, _, _, rfl, rfl, ⟨_, rfl, hqls⟩⟩
theorem mRec_mk {b : Nat} {w : World} {uqh0 uqh1 uqh2 uqh3 uqh4 uqh5 uqh6 uqh7 uqh8 uqh9 uqh10 uqh11 : Value} {vqas vqsl : Value} {qi qq qh qas qsl qpa qn : _} (hqh : mHist.own b w [uqh0, uqh1, uqh2, uqh3, uqh4, uqh5, uqh6, uqh7, uqh8, uqh9, uqh10, uqh11] qh) (hqas : LOwn 138 mAct b w vqas qas) (hqsl : LOwn 143 mSleep b w vqsl qsl) : mRec.own b w [.string qi, .string qq, uqh0, uqh1, uqh2, uqh3, uqh4, uqh5, uqh6, uqh7, uqh8, uqh9, uqh10, uqh11, vqas, vqsl, .string qpa, .int .i64 qn] (qi, qq, qpa, qn, qh, qas, qsl) :=
  ⟨_, _, rfl, rfl, _, _, rfl, rfl, _, _, rfl, hqh, _, _, rfl, ⟨_, rfl, hqas⟩, _, _, rfl, ⟨_, rfl, hqsl⟩, _, _, rfl, rfl, rfl⟩
theorem mShop_mk {b : Nat} {w : World} {uqd0 uqd1 uqd2 uqd3 uqd4 : Value} {vqrs vqjs vqws : Value} {qnow qrs qd qjs qla qws qdr : _} (hqrs : LOwn 65 mRec b w vqrs qrs) (hqd : mDesk.own b w [uqd0, uqd1, uqd2, uqd3, uqd4] qd) (hqjs : LOwn 67 mJob b w vqjs qjs) (hqws : LOwn 87 mWorker b w vqws qws) : mShop.own b w [.int .i64 qnow, vqrs, uqd0, uqd1, uqd2, uqd3, uqd4, vqjs, .int .i64 qla, vqws, .bool qdr] (qnow, qrs, qd, qjs, qla, qws, qdr) :=
  ⟨_, _, rfl, rfl, _, _, rfl, ⟨_, rfl, hqrs⟩, _, _, rfl, hqd, _, _, rfl, ⟨_, rfl, hqjs⟩, _, _, rfl, rfl, _, _, rfl, ⟨_, rfl, hqws⟩, rfl⟩
theorem mOp_mk {b : Nat} {w : World} {qdo qi qq qp qt qa qj qs qw qm : _} : mOp.own b w [.int .u8 qdo, .string qi, .string qq, .string qp, .string qt, .int .i64 qa, .int .i64 qj, .int .i64 qs, .int .i64 qw, .int .i64 qm] (qdo, qi, qq, qp, qt, qa, qj, qs, qw, qm) :=
  ⟨_, _, rfl, rfl, _, _, rfl, rfl, _, _, rfl, rfl, _, _, rfl, rfl, _, _, rfl, rfl, _, _, rfl, rfl, _, _, rfl, rfl, _, _, rfl, rfl, _, _, rfl, rfl, rfl⟩
set_option maxRecDepth 20000 in
set_option maxHeartbeats 2000000 in
theorem rInt_any (base r rb K : Nat) (v : Value) (ys : List UInt8) (s : Rd) (w : World) (hs : RSt base r w v ys s) (hrb : w.heap[rb]? = some (.cells #[.pointer (some ⟨r, 0, none⟩)] 92)) (hK : w.heap[K]? = some (.cells #[.int .i64 0] 3)) (hb : base ≤ K) :
    Calls Tryz.prog 110 #[.pointer (some ⟨K, 0, none⟩), .pointer (some ⟨rb, 0, none⟩)] w (EachPost base r K v ys cI mI 3 s w) := by
  have hne : r ≠ K := ne_type hs.rd hK (by decide)
  have hrr : rb ≠ r := ne_type hrb hs.rd (by decide)
  have hrK : rb ≠ K := ne_type hrb hK (by decide)
  have HRB0 := Lib.hid hrb
  clear hrb
  have HS0 := Lib.hid hs
  have HK0 := Lib.hid hK
  have HC0 : Hid (Chg r K w w) := Chg.refl _ _ _
  clear hs hK
  go_enter Tryz.func110, Tryz.ntmps110
  have z0 := blk_cell HRB0.out 0
  simp at z0
  have HSA : Hid (RSt base r (World.alloc w (.cells #[.pointer (some ⟨K, 0, none⟩)] 101)) v ys s) := HS0.out.alloc _
  have HKA : Hid ((World.heap (World.alloc w (.cells #[.pointer (some ⟨K, 0, none⟩)] 101)))[K]? = some (.cells #[.int .i64 0] 3)) := blk_alloc (w := w) HK0.out _
  have HEL : Hid (ElemsAt (World.alloc w (.cells #[.pointer (some ⟨K, 0, none⟩)] 101)) (World.heap w).size 101 (ptrs K [0])) := elems_alloc w 101 [.pointer (some ⟨K, 0, none⟩)]
  have HBR : Hid ((World.heap w).size ≠ r) := by have := HS0.out.lt; show _ ≠ _; omega
  have HBK : Hid ((World.heap w).size ≠ K) := by have := blk_lt HK0.out; show _ ≠ _; omega
  go_wp2_with fail
  refine (intsR_any base r K _ v ys s 3 #[.int .i64 0] [0] 1 rfl _ HSA.out HKA.out hb hne HEL.out HBR.out HBK.out (all1 ⟨_, rfl⟩) (by decide) (by omega)).mono ?_
  rintro e y1 ⟨rfl, hst, hk, hc⟩
  have HRB1 := Lib.hid (hc.blk (blk_alloc (w := w) HRB0.out _) hrr hrK)
  clear z0
  have hst2 : RSt base r y1 v ys ((cI.rd ys (s)).2) := hst
  have hk2 : y1.heap[K]? = some (.cells #[.int .i64 ((cI.rd ys (s)).1)] 3) := hk
  obtain ⟨x, e1⟩ : ∃ z, (cI.rd ys (s)).1 = z := ⟨_, rfl⟩
  obtain ⟨s0, e2⟩ : ∃ z, (cI.rd ys (s)).2 = z := ⟨_, rfl⟩
  simp only [e1, e2] at hst2 hk2
  have F0 := Lib.hid e1
  have G0 := Lib.hid e2
  clear e1 e2
  have HS1 := Lib.hid hst2
  have HK1 := Lib.hid hk2
  have HCs : Hid (Chg r K w y1) := (((Chg.refl r K w).alloc _)).trans hc
  have HC1 := Lib.hid (HC0.out.trans HCs.out)
  clear hst hst2 hk hk2 hc HCs HSA HKA HEL HBR HBK HS0 HK0 HC0 HRB0
  have HD : Hid (cI.rd ys s = (x, s0)) := Prod.ext F0.out G0.out
  go_wp2
  exact bodyPost_ret (v := .tuple #[]) (by simp [results]) rfl ⟨rfl, by rw [HD.out]; exact HS1.out, ⟨[.int .i64 x], HK1.out, by rw [HD.out]; exact rfl⟩, HC1.out⟩
set_option maxRecDepth 20000 in
set_option maxHeartbeats 2000000 in
theorem rNum_any (base r rb K : Nat) (v : Value) (ys : List UInt8) (s : Rd) (w : World) (hs : RSt base r w v ys s) (hrb : w.heap[rb]? = some (.cells #[.pointer (some ⟨r, 0, none⟩)] 92)) (hK : w.heap[K]? = some (.cells #[.int .i64 0] 2)) (hb : base ≤ K) :
    Calls Tryz.prog 114 #[.pointer (some ⟨K, 0, none⟩), .pointer (some ⟨rb, 0, none⟩)] w (EachPost base r K v ys cI mI 2 s w) := by
  have hne : r ≠ K := ne_type hs.rd hK (by decide)
  have hrr : rb ≠ r := ne_type hrb hs.rd (by decide)
  have hrK : rb ≠ K := ne_type hrb hK (by decide)
  have HRB0 := Lib.hid hrb
  clear hrb
  have HS0 := Lib.hid hs
  have HK0 := Lib.hid hK
  have HC0 : Hid (Chg r K w w) := Chg.refl _ _ _
  clear hs hK
  go_enter Tryz.func114, Tryz.ntmps114
  have z0 := blk_cell HRB0.out 0
  simp at z0
  have HSA : Hid (RSt base r (World.alloc w (.cells #[.pointer (some ⟨K, 0, none⟩)] 99)) v ys s) := HS0.out.alloc _
  have HKA : Hid ((World.heap (World.alloc w (.cells #[.pointer (some ⟨K, 0, none⟩)] 99)))[K]? = some (.cells #[.int .i64 0] 2)) := blk_alloc (w := w) HK0.out _
  have HEL : Hid (ElemsAt (World.alloc w (.cells #[.pointer (some ⟨K, 0, none⟩)] 99)) (World.heap w).size 99 (ptrs K [0])) := elems_alloc w 99 [.pointer (some ⟨K, 0, none⟩)]
  have HBR : Hid ((World.heap w).size ≠ r) := by have := HS0.out.lt; show _ ≠ _; omega
  have HBK : Hid ((World.heap w).size ≠ K) := by have := blk_lt HK0.out; show _ ≠ _; omega
  go_wp2_with fail
  refine (numbersR_any base r K _ v ys s 2 #[.int .i64 0] [0] 1 rfl _ HSA.out HKA.out hb hne HEL.out HBR.out HBK.out (all1 ⟨_, rfl⟩) (by decide) (by omega)).mono ?_
  rintro e y1 ⟨rfl, hst, hk, hc⟩
  have HRB1 := Lib.hid (hc.blk (blk_alloc (w := w) HRB0.out _) hrr hrK)
  clear z0
  have hst2 : RSt base r y1 v ys ((cI.rd ys (s)).2) := hst
  have hk2 : y1.heap[K]? = some (.cells #[.int .i64 ((cI.rd ys (s)).1)] 2) := hk
  obtain ⟨x, e1⟩ : ∃ z, (cI.rd ys (s)).1 = z := ⟨_, rfl⟩
  obtain ⟨s0, e2⟩ : ∃ z, (cI.rd ys (s)).2 = z := ⟨_, rfl⟩
  simp only [e1, e2] at hst2 hk2
  have F0 := Lib.hid e1
  have G0 := Lib.hid e2
  clear e1 e2
  have HS1 := Lib.hid hst2
  have HK1 := Lib.hid hk2
  have HCs : Hid (Chg r K w y1) := (((Chg.refl r K w).alloc _)).trans hc
  have HC1 := Lib.hid (HC0.out.trans HCs.out)
  clear hst hst2 hk hk2 hc HCs HSA HKA HEL HBR HBK HS0 HK0 HC0 HRB0
  have HD : Hid (cI.rd ys s = (x, s0)) := Prod.ext F0.out G0.out
  go_wp2
  exact bodyPost_ret (v := .tuple #[]) (by simp [results]) rfl ⟨rfl, by rw [HD.out]; exact HS1.out, ⟨[.int .i64 x], HK1.out, by rw [HD.out]; exact rfl⟩, HC1.out⟩
theorem RSt.drew {base r : Nat} {w : World} {v : Value} {ys : List UInt8} {s : Rd} (h : RSt base r w v ys s) : RSt base r w.drew v ys s := h.drewN 1
end Go.Proofs.YtckooioikcenmaaGreat
namespace Go.Proofs.YtckooioikcenmaaGreat
open Go.RowKit
set_option maxRecDepth 20000 in
set_option maxHeartbeats 2000000 in
theorem rCmd_any (base r rb K : Nat) (v : Value) (ys : List UInt8) (s : Rd) (w : World) (hs : RSt base r w v ys s) (hrb : w.heap[rb]? = some (.cells #[.pointer (some ⟨r, 0, none⟩)] 92)) (hK : w.heap[K]? = some (.cells #[.int .i64 0, .int .u8 0, .string ⟨#[]⟩, .int .i64 0, .int .i64 0] 191)) (hb : base ≤ K) :
    Calls Tryz.prog 108 #[.pointer (some ⟨K, 0, none⟩), .pointer (some ⟨rb, 0, none⟩)] w (EachPost base r K v ys cCmd mCmd 191 s w) := by
  have hne : r ≠ K := ne_type hs.rd hK (by decide)
  have hrr : rb ≠ r := ne_type hrb hs.rd (by decide)
  have hrK : rb ≠ K := ne_type hrb hK (by decide)
  have HRB0 := Lib.hid hrb
  clear hrb
  have HS0 := Lib.hid hs
  have HK0 := Lib.hid hK
  have HC0 : Hid (Chg r K w w) := Chg.refl _ _ _
  clear hs hK
  go_enter Tryz.func108, Tryz.ntmps108
  have z0 := blk_cell HRB0.out 0
  simp at z0
  have HSA : Hid (RSt base r (World.drew (World.alloc w (.cells #[.pointer (some ⟨K, 0, none⟩)] 101))) v ys s) := RSt.drew (HS0.out.alloc _)
  have HKA : Hid ((World.heap (World.drew (World.alloc w (.cells #[.pointer (some ⟨K, 0, none⟩)] 101))))[K]? = some (.cells #[.int .i64 0, .int .u8 0, .string ⟨#[]⟩, .int .i64 0, .int .i64 0] 191)) := blk_alloc (w := w) HK0.out _
  have HEL : Hid (ElemsAt (World.drew (World.alloc w (.cells #[.pointer (some ⟨K, 0, none⟩)] 101))) (World.heap w).size 101 (ptrs K [0])) := elems_alloc w 101 [.pointer (some ⟨K, 0, none⟩)]
  have HBR : Hid ((World.heap w).size ≠ r) := by have := HS0.out.lt; show _ ≠ _; omega
  have HBK : Hid ((World.heap w).size ≠ K) := by have := blk_lt HK0.out; show _ ≠ _; omega
  go_wp2
  go_region_held3 (fun w' => w'.cell? ⟨rb, 0, none⟩ = some (.pointer (some ⟨r, 0, none⟩))) (go_keep) ((go_at_call 35; refine (intsR_any base r K _ v ys s 191 #[.int .i64 0, .int .u8 0, .string ⟨#[]⟩, .int .i64 0, .int .i64 0] [0] 1 rfl _ HSA.out HKA.out hb hne HEL.out HBR.out HBK.out (all1 ⟨_, rfl⟩) (by decide) (by omega)).mono ?_; rintro e y1 ⟨rfl, hst, hk, hc⟩; have HRB1 := Lib.hid (hc.blk (blk_alloc (w := w) HRB0.out _) hrr hrK); have z1 := blk_cell HRB1.out 0; simp at z1))
  clear z0 z1
  have hst2 : RSt base r y1 v ys ((cI.rd ys (s)).2) := hst
  have hk2 : y1.heap[K]? = some (.cells #[.int .i64 ((cI.rd ys (s)).1), .int .u8 0, .string ⟨#[]⟩, .int .i64 0, .int .i64 0] 191) := hk
  obtain ⟨qn, e1⟩ : ∃ z, (cI.rd ys (s)).1 = z := ⟨_, rfl⟩
  obtain ⟨s0, e2⟩ : ∃ z, (cI.rd ys (s)).2 = z := ⟨_, rfl⟩
  simp only [e1, e2] at hst2 hk2
  have F0 := Lib.hid e1
  have G0 := Lib.hid e2
  clear e1 e2
  have HS1 := Lib.hid hst2
  have HK1 := Lib.hid hk2
  have HCs : Hid (Chg r K w y1) := (((Chg.refl r K w).alloc _).drew).trans hc
  have HC1 := Lib.hid (HC0.out.trans HCs.out)
  clear hst hst2 hk hk2 hc HCs HSA HKA HEL HBR HBK HS0 HK0 HC0 HRB0
  have z0 := blk_cell HRB1.out 0
  simp at z0
  go_wp2_with fail
  refine (small_any base r v ys s0 _ HS1.out).mono ?_
  rintro e y2 ⟨rfl, hst, hg⟩
  have hst2 : RSt base r y2 v ys (cB.rd ys s0).2 := hst
  obtain ⟨qk, e1⟩ : ∃ z, (cB.rd ys s0).1 = z := ⟨_, rfl⟩
  obtain ⟨s1, e2⟩ : ∃ z, (cB.rd ys s0).2 = z := ⟨_, rfl⟩
  rw [show (rdB ys s0).1 = qk from e1]
  rw [e2] at hst2
  have F1 := Lib.hid e1
  have G1 := Lib.hid e2
  clear e1 e2
  have hk := (Chg.grown (K := K) hg)
  have hk2 : y2.heap[K]? = some (.cells #[.int .i64 qn, .int .u8 0, .string ⟨#[]⟩, .int .i64 0, .int .i64 0] 191) := (hg.block K (blk_lt HK1.out) (fun e => hne (by injection e with e; exact e.symm))).trans HK1.out
  have q := blk_cell hk2 1
  have qf := blk_free hk2 1
  simp at q
  have HS2 : Hid (RSt base r (y2.setCell ⟨K, 1, none⟩ (.int .u8 qk)) v ys s1) := hst2.set hb hne _ _
  have HK2 : Hid ((World.heap (y2.setCell ⟨K, 1, none⟩ (.int .u8 qk)))[K]? = some (.cells #[.int .i64 qn, .int .u8 qk, .string ⟨#[]⟩, .int .i64 0, .int .i64 0] 191)) := blk_set hk2 1 _
  have HCs : Hid (Chg r K y1 (y2.setCell ⟨K, 1, none⟩ (.int .u8 qk))) := (Chg.grown hg).setK _ _
  have HC2 := Lib.hid (HC1.out.trans HCs.out)
  have HRB2 : Hid ((World.heap (y2.setCell ⟨K, 1, none⟩ (.int .u8 qk)))[rb]? = some (.cells #[.pointer (some ⟨r, 0, none⟩)] 92)) := HCs.out.blk HRB1.out hrr hrK
  clear hst hst2 hg hk hk2 HCs HS1 HK1 HC1 HRB1 z0
  have z0 := blk_cell HRB2.out 0
  simp at z0
  have HSA : Hid (RSt base r (World.drew (World.alloc (y2.setCell ⟨K, 1, none⟩ (.int .u8 qk)) (.cells #[.pointer (some ⟨K, 2, none⟩)] 97))) v ys s1) := RSt.drew (HS2.out.alloc _)
  have HKA : Hid ((World.heap (World.drew (World.alloc (y2.setCell ⟨K, 1, none⟩ (.int .u8 qk)) (.cells #[.pointer (some ⟨K, 2, none⟩)] 97))))[K]? = some (.cells #[.int .i64 qn, .int .u8 qk, .string ⟨#[]⟩, .int .i64 0, .int .i64 0] 191)) := blk_alloc (w := (y2.setCell ⟨K, 1, none⟩ (.int .u8 qk))) HK2.out _
  have HEL : Hid (ElemsAt (World.drew (World.alloc (y2.setCell ⟨K, 1, none⟩ (.int .u8 qk)) (.cells #[.pointer (some ⟨K, 2, none⟩)] 97))) (World.heap y2).size 97 (ptrs K [2])) := by have q := elems_alloc (y2.setCell ⟨K, 1, none⟩ (.int .u8 qk)) 97 [.pointer (some ⟨K, 2, none⟩)]; rw [show (World.heap (y2.setCell ⟨K, 1, none⟩ (.int .u8 qk))).size = (World.heap y2).size by simp] at q; exact q
  have HBR : Hid ((World.heap y2).size ≠ r) := by have := HS2.out.lt; rw [show (World.heap (y2.setCell ⟨K, 1, none⟩ (.int .u8 qk))).size = (World.heap y2).size by simp] at this; show _ ≠ _; omega
  have HBK : Hid ((World.heap y2).size ≠ K) := by have := blk_lt HK2.out; rw [show (World.heap (y2.setCell ⟨K, 1, none⟩ (.int .u8 qk))).size = (World.heap y2).size by simp] at this; show _ ≠ _; omega
  go_wp2
  go_region_held3 (fun w' => w'.cell? ⟨rb, 0, none⟩ = some (.pointer (some ⟨r, 0, none⟩))) (go_keep) ((go_at_call 33; refine (textsR_any base r K _ v ys s1 191 #[.int .i64 qn, .int .u8 qk, .string ⟨#[]⟩, .int .i64 0, .int .i64 0] [2] 1 rfl _ HSA.out HKA.out hb hne HEL.out HBR.out HBK.out (all1 rfl) (by decide) (by omega)).mono ?_; rintro e y3 ⟨rfl, hst, hk, hc⟩; have HRB3 := Lib.hid (hc.blk (blk_alloc (w := (y2.setCell ⟨K, 1, none⟩ (.int .u8 qk))) HRB2.out _) hrr hrK); have z1 := blk_cell HRB3.out 0; simp at z1))
  clear z0 z1
  have hst2 : RSt base r y3 v ys ((cS.rd ys (s1)).2) := hst
  have hk2 : y3.heap[K]? = some (.cells #[.int .i64 qn, .int .u8 qk, .string ((cS.rd ys (s1)).1), .int .i64 0, .int .i64 0] 191) := hk
  obtain ⟨qs, e1⟩ : ∃ z, (cS.rd ys (s1)).1 = z := ⟨_, rfl⟩
  obtain ⟨s2, e2⟩ : ∃ z, (cS.rd ys (s1)).2 = z := ⟨_, rfl⟩
  simp only [e1, e2] at hst2 hk2
  have F2 := Lib.hid e1
  have G2 := Lib.hid e2
  clear e1 e2
  have HS3 := Lib.hid hst2
  have HK3 := Lib.hid hk2
  have HCs : Hid (Chg r K (y2.setCell ⟨K, 1, none⟩ (.int .u8 qk)) y3) := (((Chg.refl r K (y2.setCell ⟨K, 1, none⟩ (.int .u8 qk))).alloc _).drew).trans hc
  have HC3 := Lib.hid (HC2.out.trans HCs.out)
  clear hst hst2 hk hk2 hc HCs HSA HKA HEL HBR HBK HS2 HK2 HC2 HRB2
  have z0 := blk_cell HRB3.out 0
  simp at z0
  have HSA : Hid (RSt base r (World.drew (World.alloc y3 (.cells #[.pointer (some ⟨K, 3, none⟩)] 99))) v ys s2) := RSt.drew (HS3.out.alloc _)
  have HKA : Hid ((World.heap (World.drew (World.alloc y3 (.cells #[.pointer (some ⟨K, 3, none⟩)] 99))))[K]? = some (.cells #[.int .i64 qn, .int .u8 qk, .string qs, .int .i64 0, .int .i64 0] 191)) := blk_alloc (w := y3) HK3.out _
  have HEL : Hid (ElemsAt (World.drew (World.alloc y3 (.cells #[.pointer (some ⟨K, 3, none⟩)] 99))) (World.heap y3).size 99 (ptrs K [3])) := elems_alloc y3 99 [.pointer (some ⟨K, 3, none⟩)]
  have HBR : Hid ((World.heap y3).size ≠ r) := by have := HS3.out.lt; show _ ≠ _; omega
  have HBK : Hid ((World.heap y3).size ≠ K) := by have := blk_lt HK3.out; show _ ≠ _; omega
  go_wp2
  go_region_held3 (fun w' => w'.cell? ⟨rb, 0, none⟩ = some (.pointer (some ⟨r, 0, none⟩))) (go_keep) ((go_at_call 34; refine (numbersR_any base r K _ v ys s2 191 #[.int .i64 qn, .int .u8 qk, .string qs, .int .i64 0, .int .i64 0] [3] 1 rfl _ HSA.out HKA.out hb hne HEL.out HBR.out HBK.out (all1 ⟨_, rfl⟩) (by decide) (by omega)).mono ?_; rintro e y4 ⟨rfl, hst, hk, hc⟩; have HRB4 := Lib.hid (hc.blk (blk_alloc (w := y3) HRB3.out _) hrr hrK); have z1 := blk_cell HRB4.out 0; simp at z1))
  clear z0 z1
  have hst2 : RSt base r y4 v ys ((cI.rd ys (s2)).2) := hst
  have hk2 : y4.heap[K]? = some (.cells #[.int .i64 qn, .int .u8 qk, .string qs, .int .i64 ((cI.rd ys (s2)).1), .int .i64 0] 191) := hk
  obtain ⟨qa, e1⟩ : ∃ z, (cI.rd ys (s2)).1 = z := ⟨_, rfl⟩
  obtain ⟨s3, e2⟩ : ∃ z, (cI.rd ys (s2)).2 = z := ⟨_, rfl⟩
  simp only [e1, e2] at hst2 hk2
  have F3 := Lib.hid e1
  have G3 := Lib.hid e2
  clear e1 e2
  have HS4 := Lib.hid hst2
  have HK4 := Lib.hid hk2
  have HCs : Hid (Chg r K y3 y4) := (((Chg.refl r K y3).alloc _).drew).trans hc
  have HC4 := Lib.hid (HC3.out.trans HCs.out)
  clear hst hst2 hk hk2 hc HCs HSA HKA HEL HBR HBK HS3 HK3 HC3 HRB3
  have z0 := blk_cell HRB4.out 0
  simp at z0
  have HSA : Hid (RSt base r (World.drew (World.alloc y4 (.cells #[.pointer (some ⟨K, 4, none⟩)] 101))) v ys s3) := RSt.drew (HS4.out.alloc _)
  have HKA : Hid ((World.heap (World.drew (World.alloc y4 (.cells #[.pointer (some ⟨K, 4, none⟩)] 101))))[K]? = some (.cells #[.int .i64 qn, .int .u8 qk, .string qs, .int .i64 qa, .int .i64 0] 191)) := blk_alloc (w := y4) HK4.out _
  have HEL : Hid (ElemsAt (World.drew (World.alloc y4 (.cells #[.pointer (some ⟨K, 4, none⟩)] 101))) (World.heap y4).size 101 (ptrs K [4])) := elems_alloc y4 101 [.pointer (some ⟨K, 4, none⟩)]
  have HBR : Hid ((World.heap y4).size ≠ r) := by have := HS4.out.lt; show _ ≠ _; omega
  have HBK : Hid ((World.heap y4).size ≠ K) := by have := blk_lt HK4.out; show _ ≠ _; omega
  go_wp2
  go_region_held3 (fun w' => w'.cell? ⟨rb, 0, none⟩ = some (.pointer (some ⟨r, 0, none⟩))) (go_keep) ((go_at_call 35; refine (intsR_any base r K _ v ys s3 191 #[.int .i64 qn, .int .u8 qk, .string qs, .int .i64 qa, .int .i64 0] [4] 1 rfl _ HSA.out HKA.out hb hne HEL.out HBR.out HBK.out (all1 ⟨_, rfl⟩) (by decide) (by omega)).mono ?_; rintro e y5 ⟨rfl, hst, hk, hc⟩; have HRB5 := Lib.hid (hc.blk (blk_alloc (w := y4) HRB4.out _) hrr hrK); have z1 := blk_cell HRB5.out 0; simp at z1))
  clear z0 z1
  have hst2 : RSt base r y5 v ys ((cI.rd ys (s3)).2) := hst
  have hk2 : y5.heap[K]? = some (.cells #[.int .i64 qn, .int .u8 qk, .string qs, .int .i64 qa, .int .i64 ((cI.rd ys (s3)).1)] 191) := hk
  obtain ⟨qp, e1⟩ : ∃ z, (cI.rd ys (s3)).1 = z := ⟨_, rfl⟩
  obtain ⟨s4, e2⟩ : ∃ z, (cI.rd ys (s3)).2 = z := ⟨_, rfl⟩
  simp only [e1, e2] at hst2 hk2
  have F4 := Lib.hid e1
  have G4 := Lib.hid e2
  clear e1 e2
  have HS5 := Lib.hid hst2
  have HK5 := Lib.hid hk2
  have HCs : Hid (Chg r K y4 y5) := (((Chg.refl r K y4).alloc _).drew).trans hc
  have HC5 := Lib.hid (HC4.out.trans HCs.out)
  clear hst hst2 hk hk2 hc HCs HSA HKA HEL HBR HBK HS4 HK4 HC4 HRB4
  have HD : Hid (cCmd.rd ys s = ((qn, qk, qs, qa, qp), s4)) := by
    show _ = _
    simp only [cCmd, cSeq, F0.out, G0.out, F1.out, G1.out, F2.out, G2.out, F3.out, G3.out, F4.out, G4.out]
  go_wp2
  exact bodyPost_ret (v := .tuple #[]) (by simp [results]) rfl ⟨rfl, by rw [HD.out]; exact HS5.out, ⟨[.int .i64 qn, .int .u8 qk, .string qs, .int .i64 qa, .int .i64 qp], HK5.out, by rw [HD.out]; exact mCmd_mk⟩, HC5.out⟩
end Go.Proofs.YtckooioikcenmaaGreat

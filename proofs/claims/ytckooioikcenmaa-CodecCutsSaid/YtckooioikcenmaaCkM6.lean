/- SameBytes, CopyBytes. Conditions: sizes a machine can have. -/
import Derived.Test.YtckooioikcenmaaCkG1
import Derived.Laws.StructEq
namespace Go.Proofs.Ytckooioikcenmaa
open Go.RowKit
theorem str_eq (a b : ByteArray) : a.toList = b.toList ↔ a = b := by
  rw [ByteArray.toList_eq, ByteArray.toList_eq]
  constructor
  · intro h
    apply ByteArray.ext
    exact Array.toList_inj.1 h
  · rintro rfl; rfl
set_option maxRecDepth 20000 in
set_option maxHeartbeats 1000000 in
theorem sameBytes_any (u v : Value) (xs ys : List UInt8) (w : World) (hu : RdB w u xs) (hv : RdB w v ys) : Calls Try.prog 12 #[u, v] w fun e w' => e = .returned (.bool (decide (xs = ys))) ∧ w = w' := by
  have c1 := rd_text hu
  have c2 := rd_text hv
  obtain ⟨A, c, rfl, _, _⟩ := hu.form
  obtain ⟨A', c', rfl, _, _⟩ := hv.form
  clear hu hv
  by_cases h : xs = ys
  · subst h
    go_enter Try.func12, Try.ntmps12
    go_wp2
    go_ret
    exact ⟨by simp, rfl⟩
  · go_enter Try.func12, Try.ntmps12
    go_wp2
    go_ret
    exact ⟨by simp [h], rfl⟩
theorem ext_below {base n size : Nat} {e : TypeId} {v v' : Value} {xs : List Value} {w0 w w' : World} (h : Ext w w' v v') (ho : w.ownsRow base e size v n xs) (hb : Below base w0 w) (hB : base ≤ w0.heap.size) : Below base w0 w' :=
  ⟨h.1.os.trans hb.os, h.1.tape.trans hb.tape, h.1.output.trans hb.output, Nat.le_trans hb.size h.1.size, fun k hk => by
    by_cases hlt : k < w.heap.size
    · refine (h.1.block k hlt ?_).trans (hb.block k hk)
      rcases ho.2 with ⟨rfl, _⟩ | ⟨g, cap, cur, rfl, hg, _⟩
      · intro e; cases e
      · intro e
        have : k = g := by simpa [Value.ownBlock] using e
        omega
    · have := hb.size
      omega⟩
def CopyBPost (ys : List UInt8) (w : World) (e : Ending) (w' : World) : Prop := ∃ v, e = .returned v ∧ Bytes w.heap.size w' v ys ∧ Below w.heap.size w w'
set_option maxRecDepth 20000 in
set_option maxHeartbeats 1000000 in
theorem copyB_any (v : Value) (ys : List UInt8) (w : World) (hr : RdB w v ys) (hl : ys.length ≤ 100000000000) : Calls Try.prog 14 #[v] w (CopyBPost ys w) := by
  obtain ⟨i0, hi, hz0, hz1, hz2⟩ := info_parts infoB
  obtain ⟨w1, hmk, hown, hg⟩ := run_make_own (P := Try.prog) w w.heap.size 36 5 i0 (.int .u8 0) 1 Try.underlying36 hi hz0 hz1 .i64 .i64 ys.length (by rw [hz2]; omega) (by simp only [maxLen]; omega) (Nat.le_refl _)
  have hb1 : Below w.heap.size w w1 := ⟨hg.os, hg.tape, hg.output, hg.size, fun k hk => hg.block k hk (by simp)⟩
  have HB1 := Lib.hid hb1
  have HO : Hid (Bytes w.heap.size w1 (.slice (some ⟨w.heap.size, 0, none⟩) 0 ys.length) []) := hown
  have HR := Lib.hid (hr.below hb1)
  obtain ⟨A, c, rfl, _, _⟩ := hr.form
  have hs : w.heap.size ≤ w1.heap.size := hb1.size
  clear hr hg hown hb1 hi hz0 hz1 hz2
  go_enter Try.func14, Try.ntmps14
  go_wp2_with (at_builtin; refine wpList_append_bytes rfl (.tmp 7) (.tmp 8) rfl w.heap.size _ _ [] ys rfl HO.out rfl HR.out (by simp; omega) hs ?_; intro v' w' hown hext)
  go_ret
  exact ⟨_, rfl, by simpa using hown, ext_below hext HO.out HB1.out (Nat.le_refl _)⟩
set_option maxRecDepth 20000 in
set_option maxHeartbeats 1000000 in
theorem pick_any (x n : Int) (w : World) (h1 : 1 ≤ n) (hn : n ≤ 9223372036854775807) :
    ∃ r : Int, 0 ≤ r ∧ r < n ∧ Calls Try.prog 13 #[.int .i64 x, .int .i64 n] w fun e w' => e = .returned (.int .i64 r) ∧ w = w' := by
  have hr1 : x.tmod n < n := Int.tmod_lt_of_pos x (by omega)
  have hr2 : -n < x.tmod n := by
    have := Int.lt_tmod_of_pos x (b := n) (by omega)
    omega
  by_cases h0 : x.tmod n < 0
  · refine ⟨x.tmod n + n, by omega, by omega, ?_⟩
    go_enter Try.func13, Try.ntmps13
    go_wp2
    go_ret
    exact ⟨rfl, rfl⟩
  · refine ⟨x.tmod n, by omega, by omega, ?_⟩
    go_enter Try.func13, Try.ntmps13
    go_wp2
    go_ret
    exact ⟨rfl, rfl⟩
end Go.Proofs.Ytckooioikcenmaa
namespace Go.Proofs.Ytckooioikcenmaa
open Go.RowKit
set_option maxRecDepth 20000 in
set_option maxHeartbeats 1000000 in
theorem neqKnown (x0 : Int) (x1 : Int) (x2 : Int) (w : World) : Sem.run Try.prog (binOp .neq 193 (.agg #[.int .i64 x0, .int .i64 x1, .int .i64 x2]) (.agg #[.int .i64 x0, .int .i64 x1, .int .i64 x2])) w = .ok (.bool false) w := by
  have hs : Try.prog.underlying 193 = some (.struct (Try.prog.fieldsOf 193)) := by kernel_rfl
  have ht : Try.prog.stoodInHeld 193 = false := by kernel_rfl
  rw [run_neq_struct, show (10000 : Nat) = 9999 + 1 from rfl, run_equalIn_agg w 9999 193 _ _ hs ht]
  simp only [Program.fieldsOf, Try.underlying193]
  have uint := Try.underlying3
  have aint := Try.isAgg3
  have zint := Try.sizeOf3
  have uint64 := Try.underlying2
  have aint64 := Try.isAgg2
  have zint64 := Try.sizeOf2
  go_simp
set_option maxRecDepth 20000 in
set_option maxHeartbeats 1000000 in
theorem neqItem (x0 : Int) (x1 : Int) (w : World) : Sem.run Try.prog (binOp .neq 151 (.agg #[.int .i64 x0, .int .i64 x1]) (.agg #[.int .i64 x0, .int .i64 x1])) w = .ok (.bool false) w := by
  have hs : Try.prog.underlying 151 = some (.struct (Try.prog.fieldsOf 151)) := by kernel_rfl
  have ht : Try.prog.stoodInHeld 151 = false := by kernel_rfl
  rw [run_neq_struct, show (10000 : Nat) = 9999 + 1 from rfl, run_equalIn_agg w 9999 151 _ _ hs ht]
  simp only [Program.fieldsOf, Try.underlying151]
  have uint := Try.underlying3
  have aint := Try.isAgg3
  have zint := Try.sizeOf3
  have uint64 := Try.underlying2
  have aint64 := Try.isAgg2
  have zint64 := Try.sizeOf2
  go_simp
set_option maxRecDepth 20000 in
set_option maxHeartbeats 1000000 in
theorem neqSleep (x0 : Int) (x1 : Int) (w : World) : Sem.run Try.prog (binOp .neq 142 (.agg #[.int .i64 x0, .int .i64 x1]) (.agg #[.int .i64 x0, .int .i64 x1])) w = .ok (.bool false) w := by
  have hs : Try.prog.underlying 142 = some (.struct (Try.prog.fieldsOf 142)) := by kernel_rfl
  have ht : Try.prog.stoodInHeld 142 = false := by kernel_rfl
  rw [run_neq_struct, show (10000 : Nat) = 9999 + 1 from rfl, run_equalIn_agg w 9999 142 _ _ hs ht]
  simp only [Program.fieldsOf, Try.underlying142]
  have uint := Try.underlying3
  have aint := Try.isAgg3
  have zint := Try.sizeOf3
  have uint64 := Try.underlying2
  have aint64 := Try.isAgg2
  have zint64 := Try.sizeOf2
  go_simp
set_option maxRecDepth 20000 in
set_option maxHeartbeats 1000000 in
theorem neqTurn (x0 : ByteArray) (x1 : Int) (x2 : Int) (w : World) : Sem.run Try.prog (binOp .neq 146 (.agg #[.string x0, .int .i64 x1, .int .i64 x2]) (.agg #[.string x0, .int .i64 x1, .int .i64 x2])) w = .ok (.bool false) w := by
  have hs : Try.prog.underlying 146 = some (.struct (Try.prog.fieldsOf 146)) := by kernel_rfl
  have ht : Try.prog.stoodInHeld 146 = false := by kernel_rfl
  rw [run_neq_struct, show (10000 : Nat) = 9999 + 1 from rfl, run_equalIn_agg w 9999 146 _ _ hs ht]
  simp only [Program.fieldsOf, Try.underlying146]
  have uint := Try.underlying3
  have aint := Try.isAgg3
  have zint := Try.sizeOf3
  have uint64 := Try.underlying2
  have aint64 := Try.isAgg2
  have zint64 := Try.sizeOf2
  have ustring := Try.underlying9
  have astring := Try.isAgg9
  have zstring := Try.sizeOf9
  go_simp
set_option maxRecDepth 20000 in
set_option maxHeartbeats 1000000 in
theorem neqJob (x0 : Int) (x1 : ByteArray) (x2 : Int) (w : World) : Sem.run Try.prog (binOp .neq 72 (.agg #[.int .i64 x0, .string x1, .int .i64 x2]) (.agg #[.int .i64 x0, .string x1, .int .i64 x2])) w = .ok (.bool false) w := by
  have hs : Try.prog.underlying 72 = some (.struct (Try.prog.fieldsOf 72)) := by kernel_rfl
  have ht : Try.prog.stoodInHeld 72 = false := by kernel_rfl
  rw [run_neq_struct, show (10000 : Nat) = 9999 + 1 from rfl, run_equalIn_agg w 9999 72 _ _ hs ht]
  simp only [Program.fieldsOf, Try.underlying72]
  have uint := Try.underlying3
  have aint := Try.isAgg3
  have zint := Try.sizeOf3
  have uint64 := Try.underlying2
  have aint64 := Try.isAgg2
  have zint64 := Try.sizeOf2
  have ustring := Try.underlying9
  have astring := Try.isAgg9
  have zstring := Try.sizeOf9
  go_simp
set_option maxRecDepth 20000 in
set_option maxHeartbeats 1000000 in
theorem neqWorker (x0 : Int) (x1 : Int) (w : World) : Sem.run Try.prog (binOp .neq 97 (.agg #[.int .i64 x0, .int .i64 x1]) (.agg #[.int .i64 x0, .int .i64 x1])) w = .ok (.bool false) w := by
  have hs : Try.prog.underlying 97 = some (.struct (Try.prog.fieldsOf 97)) := by kernel_rfl
  have ht : Try.prog.stoodInHeld 97 = false := by kernel_rfl
  rw [run_neq_struct, show (10000 : Nat) = 9999 + 1 from rfl, run_equalIn_agg w 9999 97 _ _ hs ht]
  simp only [Program.fieldsOf, Try.underlying97]
  have uint := Try.underlying3
  have aint := Try.isAgg3
  have zint := Try.sizeOf3
  have uint64 := Try.underlying2
  have aint64 := Try.isAgg2
  have zint64 := Try.sizeOf2
  go_simp
set_option maxRecDepth 20000 in
set_option maxHeartbeats 1000000 in
theorem neqCmd (x0 : Int) (x1 : Int) (x2 : ByteArray) (x3 : Int) (x4 : Int) (w : World) : Sem.run Try.prog (binOp .neq 182 (.agg #[.int .i64 x0, .int .u8 x1, .string x2, .int .i64 x3, .int .i64 x4]) (.agg #[.int .i64 x0, .int .u8 x1, .string x2, .int .i64 x3, .int .i64 x4])) w = .ok (.bool false) w := by
  have hs : Try.prog.underlying 182 = some (.struct (Try.prog.fieldsOf 182)) := by kernel_rfl
  have ht : Try.prog.stoodInHeld 182 = false := by kernel_rfl
  rw [run_neq_struct, show (10000 : Nat) = 9999 + 1 from rfl, run_equalIn_agg w 9999 182 _ _ hs ht]
  simp only [Program.fieldsOf, Try.underlying182]
  have uint := Try.underlying3
  have aint := Try.isAgg3
  have zint := Try.sizeOf3
  have uint64 := Try.underlying2
  have aint64 := Try.isAgg2
  have zint64 := Try.sizeOf2
  have ustring := Try.underlying9
  have astring := Try.isAgg9
  have zstring := Try.sizeOf9
  have uK := Try.underlying180
  have aK := Try.isAgg180
  go_simp
set_option maxRecDepth 20000 in
set_option maxHeartbeats 1000000 in
theorem neqOp (x0 : Int) (x1 : ByteArray) (x2 : ByteArray) (x3 : ByteArray) (x4 : ByteArray) (x5 : Int) (x6 : Int) (x7 : Int) (x8 : Int) (x9 : Int) (w : World) : Sem.run Try.prog (binOp .neq 24 (.agg #[.int .u8 x0, .string x1, .string x2, .string x3, .string x4, .int .i64 x5, .int .i64 x6, .int .i64 x7, .int .i64 x8, .int .i64 x9]) (.agg #[.int .u8 x0, .string x1, .string x2, .string x3, .string x4, .int .i64 x5, .int .i64 x6, .int .i64 x7, .int .i64 x8, .int .i64 x9])) w = .ok (.bool false) w := by
  have hs : Try.prog.underlying 24 = some (.struct (Try.prog.fieldsOf 24)) := by kernel_rfl
  have ht : Try.prog.stoodInHeld 24 = false := by kernel_rfl
  rw [run_neq_struct, show (10000 : Nat) = 9999 + 1 from rfl, run_equalIn_agg w 9999 24 _ _ hs ht]
  simp only [Program.fieldsOf, Try.underlying24]
  have uint := Try.underlying3
  have aint := Try.isAgg3
  have zint := Try.sizeOf3
  have uint64 := Try.underlying2
  have aint64 := Try.isAgg2
  have zint64 := Try.sizeOf2
  have ustring := Try.underlying9
  have astring := Try.isAgg9
  have zstring := Try.sizeOf9
  have uK := Try.underlying22
  have aK := Try.isAgg22
  go_simp
end Go.Proofs.Ytckooioikcenmaa
namespace Go.Proofs.Ytckooioikcenmaa
open Go.RowKit
set_option maxRecDepth 20000 in
set_option maxHeartbeats 1000000 in
theorem neqAct (x0 : Int) (x1 : Int) (x2 : Int) (x3 : Int) (x4 : Int) (x5 : Int) (x6 : Int) (x7 : Int) (x8 : Int) (x9 : Int) (x10 : Int) (w : World) : Sem.run Try.prog (binOp .neq 137 (.agg #[.int .i64 x0, .int .i64 x1, .int .i64 x2, .int .u8 x3, .int .i64 x4, .int .i64 x5, .int .i64 x6, .int .i64 x7, .int .i64 x8, .int .i64 x9, .int .i64 x10]) (.agg #[.int .i64 x0, .int .i64 x1, .int .i64 x2, .int .u8 x3, .int .i64 x4, .int .i64 x5, .int .i64 x6, .int .i64 x7, .int .i64 x8, .int .i64 x9, .int .i64 x10])) w = .ok (.bool false) w := by
  have hs : Try.prog.underlying 137 = some (.struct (Try.prog.fieldsOf 137)) := by kernel_rfl
  have ht : Try.prog.stoodInHeld 137 = false := by kernel_rfl
  rw [run_neq_struct, show (10000 : Nat) = 9999 + 1 from rfl, run_equalIn_agg w 9999 137 _ _ hs ht]
  simp only [Program.fieldsOf, Try.underlying137]
  have uint := Try.underlying3
  have aint := Try.isAgg3
  have zint := Try.sizeOf3
  have uint64 := Try.underlying2
  have aint64 := Try.isAgg2
  have zint64 := Try.sizeOf2
  have uK := Try.underlying133
  have aK := Try.isAgg133
  go_simp
set_option maxRecDepth 20000 in
theorem eqlOut (a b : Int) (w : World) : Sem.run Try.prog (binOp .eql 62 (.agg #[.int .i64 a, .int .i64 b]) (.agg #[.int .i64 a, .int .i64 b])) w = .ok (.bool true) w := by
  have hs : Try.prog.underlying 62 = some (.struct (Try.prog.fieldsOf 62)) := by kernel_rfl
  have ht : Try.prog.stoodInHeld 62 = false := by kernel_rfl
  rw [run_eql_struct, show (10000 : Nat) = 9999 + 1 from rfl, run_equalIn_agg w 9999 62 _ _ hs ht]
  simp only [Program.fieldsOf, Try.underlying62]
  have u3 := Try.underlying3
  have a3 := Try.isAgg3
  have u4 := Try.underlying2
  have a4 := Try.isAgg2
  go_simp
end Go.Proofs.Ytckooioikcenmaa
namespace Go.Proofs.Ytckooioikcenmaa
open Go.RowKit
set_option maxRecDepth 20000 in
set_option maxHeartbeats 1000000 in
theorem sameCmds_any (B : Nat) (u v : Value) (xs : List DCmd) (w : World) (hu : LRep mCmd B w u xs) (hv : LRep mCmd B w v xs) : Calls Try.prog 96 #[u, v] w fun e w' => e = .returned (.bool true) ∧ ∃ n, w' = w.drewN n := by
  obtain ⟨A, c, rfl⟩ := hu.form
  obtain ⟨A', c', rfl⟩ := hv.form
  have hm := hu.max
  have HU := Lib.hid hu
  have HV := Lib.hid hv
  clear hu hv
  obtain ⟨ln, hln⟩ : ∃ ln, xs.length = ln := ⟨_, rfl⟩
  have HLN := Lib.hid hln
  rw [hln] at HU HV hm ⊢
  clear hln
  go_enter Try.func96, Try.ntmps96
  go_wp2
  go_loopw [5] (fun  i wr => ∃ k nq : Nat, i = .int .i64 k ∧ wr = w.drewN nq ∧ k ≤ ln) (fun  i _ => ln - (intOf i).toNat)
  case atStart => exact ⟨0, 0, rfl, rfl, by omega⟩
  case round =>
    obtain ⟨k, nq, rfl, rfl, hk⟩ := hrel
    by_cases hk4 : k < ln
    · obtain ⟨x, hxk⟩ : ∃ x, xs[k]? = some x := ⟨xs[k]'(by rw [HLN.out]; exact hk4), List.getElem?_eq_getElem _⟩
      obtain ⟨b, o, us, rfl, _, hus, hrep⟩ := HU.out.at hxk
      obtain ⟨b', o', us', rfl, _, hus', hrep'⟩ := HV.out.at hxk
      obtain ⟨qn, qk, qs, qa, qp⟩ := x
      have e1 := mCmd_form hrep
      have e2 := mCmd_form hrep'
      subst e1; subst e2
      have d0 := hus 0 _ rfl
      change World.cell? _ ⟨b, o + k * 5, none⟩ = some (.int .i64 qn) at d0
      have g0 := hus' 0 _ rfl
      change World.cell? _ ⟨b', o' + k * 5, none⟩ = some (.int .i64 qn) at g0
      have d1 := hus 1 _ rfl
      change World.cell? _ ⟨b, o + k * 5 + 1, none⟩ = some (.int .u8 qk) at d1
      have g1 := hus' 1 _ rfl
      change World.cell? _ ⟨b', o' + k * 5 + 1, none⟩ = some (.int .u8 qk) at g1
      have d2 := hus 2 _ rfl
      change World.cell? _ ⟨b, o + k * 5 + 2, none⟩ = some (.string qs) at d2
      have g2 := hus' 2 _ rfl
      change World.cell? _ ⟨b', o' + k * 5 + 2, none⟩ = some (.string qs) at g2
      have d3 := hus 3 _ rfl
      change World.cell? _ ⟨b, o + k * 5 + 3, none⟩ = some (.int .i64 qa) at d3
      have g3 := hus' 3 _ rfl
      change World.cell? _ ⟨b', o' + k * 5 + 3, none⟩ = some (.int .i64 qa) at g3
      have d4 := hus 4 _ rfl
      change World.cell? _ ⟨b, o + k * 5 + 4, none⟩ = some (.int .i64 qp) at d4
      have g4 := hus' 4 _ rfl
      change World.cell? _ ⟨b', o' + k * 5 + 4, none⟩ = some (.int .i64 qp) at g4
      have hq := neqCmd qn qk qs qa qp
      clear hxk hus hus' hrep hrep'
      go_wp2
      go_quiet (fail)
      go_wp2
      go_roundw
      case rel => exact ⟨k + 1, _, by go_num, rfl, by omega⟩
      case measure => simp [intOf]; omega
    · obtain rfl : k = ln := by omega
      go_wp2
      go_ret
      exact ⟨rfl, by first | exact ⟨_, rfl⟩ | exact ⟨0, rfl⟩⟩
set_option maxRecDepth 20000 in
set_option maxHeartbeats 1000000 in
theorem sameInts_any (B : Nat) (u v : Value) (xs : List Int) (w : World) (hu : LRep mI B w u xs) (hv : LRep mI B w v xs) : Calls Try.prog 97 #[u, v] w fun e w' => e = .returned (.bool true) ∧ ∃ n, w' = w.drewN n := by
  obtain ⟨A, c, rfl⟩ := hu.form
  obtain ⟨A', c', rfl⟩ := hv.form
  have hm := hu.max
  have HU := Lib.hid hu
  have HV := Lib.hid hv
  clear hu hv
  obtain ⟨ln, hln⟩ : ∃ ln, xs.length = ln := ⟨_, rfl⟩
  have HLN := Lib.hid hln
  rw [hln] at HU HV hm ⊢
  clear hln
  go_enter Try.func97, Try.ntmps97
  go_wp2
  go_loopw [5] (fun  i wr => ∃ k nq : Nat, i = .int .i64 k ∧ wr = w.drewN nq ∧ k ≤ ln) (fun  i _ => ln - (intOf i).toNat)
  case atStart => exact ⟨0, 0, rfl, rfl, by omega⟩
  case round =>
    obtain ⟨k, nq, rfl, rfl, hk⟩ := hrel
    by_cases hk4 : k < ln
    · obtain ⟨x, hxk⟩ : ∃ x, xs[k]? = some x := ⟨xs[k]'(by rw [HLN.out]; exact hk4), List.getElem?_eq_getElem _⟩
      obtain ⟨b, o, us, rfl, _, hus, hrep⟩ := HU.out.at hxk
      obtain ⟨b', o', us', rfl, _, hus', hrep'⟩ := HV.out.at hxk
      have e1 : us = [.int .i64 x] := hrep
      have e2 : us' = [.int .i64 x] := hrep'
      subst e1; subst e2
      have d0 := hus 0 _ rfl
      change World.cell? _ ⟨b, o + k * 1, none⟩ = some (.int .i64 x) at d0
      have g0 := hus' 0 _ rfl
      change World.cell? _ ⟨b', o' + k * 1, none⟩ = some (.int .i64 x) at g0
      rw [Nat.mul_one] at d0 g0
      clear hxk hus hus' hrep hrep'
      go_wp2
      go_quiet (fail)
      go_wp2
      go_roundw
      case rel => exact ⟨k + 1, _, by go_num, rfl, by omega⟩
      case measure => simp [intOf]; omega
    · obtain rfl : k = ln := by omega
      go_wp2
      go_ret
      exact ⟨rfl, by first | exact ⟨_, rfl⟩ | exact ⟨0, rfl⟩⟩
set_option maxRecDepth 20000 in
set_option maxHeartbeats 1000000 in
theorem sameKnowns_any (B : Nat) (u v : Value) (xs : List DKnown) (w : World) (hu : LRep mKnown B w u xs) (hv : LRep mKnown B w v xs) : Calls Try.prog 98 #[u, v] w fun e w' => e = .returned (.bool true) ∧ ∃ n, w' = w.drewN n := by
  obtain ⟨A, c, rfl⟩ := hu.form
  obtain ⟨A', c', rfl⟩ := hv.form
  have hm := hu.max
  have HU := Lib.hid hu
  have HV := Lib.hid hv
  clear hu hv
  obtain ⟨ln, hln⟩ : ∃ ln, xs.length = ln := ⟨_, rfl⟩
  have HLN := Lib.hid hln
  rw [hln] at HU HV hm ⊢
  clear hln
  go_enter Try.func98, Try.ntmps98
  go_wp2
  go_loopw [5] (fun  i wr => ∃ k nq : Nat, i = .int .i64 k ∧ wr = w.drewN nq ∧ k ≤ ln) (fun  i _ => ln - (intOf i).toNat)
  case atStart => exact ⟨0, 0, rfl, rfl, by omega⟩
  case round =>
    obtain ⟨k, nq, rfl, rfl, hk⟩ := hrel
    by_cases hk4 : k < ln
    · obtain ⟨x, hxk⟩ : ∃ x, xs[k]? = some x := ⟨xs[k]'(by rw [HLN.out]; exact hk4), List.getElem?_eq_getElem _⟩
      obtain ⟨b, o, us, rfl, _, hus, hrep⟩ := HU.out.at hxk
      obtain ⟨b', o', us', rfl, _, hus', hrep'⟩ := HV.out.at hxk
      obtain ⟨qn, qt, qv⟩ := x
      have e1 := mKnown_form hrep
      have e2 := mKnown_form hrep'
      subst e1; subst e2
      have d0 := hus 0 _ rfl
      change World.cell? _ ⟨b, o + k * 3, none⟩ = some (.int .i64 qn) at d0
      have g0 := hus' 0 _ rfl
      change World.cell? _ ⟨b', o' + k * 3, none⟩ = some (.int .i64 qn) at g0
      have d1 := hus 1 _ rfl
      change World.cell? _ ⟨b, o + k * 3 + 1, none⟩ = some (.int .i64 qt) at d1
      have g1 := hus' 1 _ rfl
      change World.cell? _ ⟨b', o' + k * 3 + 1, none⟩ = some (.int .i64 qt) at g1
      have d2 := hus 2 _ rfl
      change World.cell? _ ⟨b, o + k * 3 + 2, none⟩ = some (.int .i64 qv) at d2
      have g2 := hus' 2 _ rfl
      change World.cell? _ ⟨b', o' + k * 3 + 2, none⟩ = some (.int .i64 qv) at g2
      have hq := neqKnown qn qt qv
      clear hxk hus hus' hrep hrep'
      go_wp2
      go_quiet (fail)
      go_wp2
      go_roundw
      case rel => exact ⟨k + 1, _, by go_num, rfl, by omega⟩
      case measure => simp [intOf]; omega
    · obtain rfl : k = ln := by omega
      go_wp2
      go_ret
      exact ⟨rfl, by first | exact ⟨_, rfl⟩ | exact ⟨0, rfl⟩⟩
set_option maxRecDepth 20000 in
set_option maxHeartbeats 1000000 in
theorem sameNums_any (B : Nat) (u v : Value) (xs : List Int) (w : World) (hu : LRep mI B w u xs) (hv : LRep mI B w v xs) : Calls Try.prog 99 #[u, v] w fun e w' => e = .returned (.bool true) ∧ ∃ n, w' = w.drewN n := by
  obtain ⟨A, c, rfl⟩ := hu.form
  obtain ⟨A', c', rfl⟩ := hv.form
  have hm := hu.max
  have HU := Lib.hid hu
  have HV := Lib.hid hv
  clear hu hv
  obtain ⟨ln, hln⟩ : ∃ ln, xs.length = ln := ⟨_, rfl⟩
  have HLN := Lib.hid hln
  rw [hln] at HU HV hm ⊢
  clear hln
  go_enter Try.func99, Try.ntmps99
  go_wp2
  go_loopw [5] (fun  i wr => ∃ k nq : Nat, i = .int .i64 k ∧ wr = w.drewN nq ∧ k ≤ ln) (fun  i _ => ln - (intOf i).toNat)
  case atStart => exact ⟨0, 0, rfl, rfl, by omega⟩
  case round =>
    obtain ⟨k, nq, rfl, rfl, hk⟩ := hrel
    by_cases hk4 : k < ln
    · obtain ⟨x, hxk⟩ : ∃ x, xs[k]? = some x := ⟨xs[k]'(by rw [HLN.out]; exact hk4), List.getElem?_eq_getElem _⟩
      obtain ⟨b, o, us, rfl, _, hus, hrep⟩ := HU.out.at hxk
      obtain ⟨b', o', us', rfl, _, hus', hrep'⟩ := HV.out.at hxk
      have e1 : us = [.int .i64 x] := hrep
      have e2 : us' = [.int .i64 x] := hrep'
      subst e1; subst e2
      have d0 := hus 0 _ rfl
      change World.cell? _ ⟨b, o + k * 1, none⟩ = some (.int .i64 x) at d0
      have g0 := hus' 0 _ rfl
      change World.cell? _ ⟨b', o' + k * 1, none⟩ = some (.int .i64 x) at g0
      rw [Nat.mul_one] at d0 g0
      clear hxk hus hus' hrep hrep'
      go_wp2
      go_quiet (fail)
      go_wp2
      go_roundw
      case rel => exact ⟨k + 1, _, by go_num, rfl, by omega⟩
      case measure => simp [intOf]; omega
    · obtain rfl : k = ln := by omega
      go_wp2
      go_ret
      exact ⟨rfl, by first | exact ⟨_, rfl⟩ | exact ⟨0, rfl⟩⟩
set_option maxRecDepth 20000 in
set_option maxHeartbeats 1000000 in
theorem sameWorkers_any (B : Nat) (u v : Value) (xs : List DWorker) (w : World) (hu : LRep mWorker B w u xs) (hv : LRep mWorker B w v xs) : Calls Try.prog 42 #[u, v] w fun e w' => e = .returned (.bool true) ∧ ∃ n, w' = w.drewN n := by
  obtain ⟨A, c, rfl⟩ := hu.form
  obtain ⟨A', c', rfl⟩ := hv.form
  have hm := hu.max
  have HU := Lib.hid hu
  have HV := Lib.hid hv
  clear hu hv
  obtain ⟨ln, hln⟩ : ∃ ln, xs.length = ln := ⟨_, rfl⟩
  have HLN := Lib.hid hln
  rw [hln] at HU HV hm ⊢
  clear hln
  go_enter Try.func42, Try.ntmps42
  go_wp2
  go_loopw [5, 13] (fun _ i wr => ∃ k nq : Nat, i = .int .i64 k ∧ wr = w.drewN nq ∧ k ≤ ln) (fun _ i _ => ln - (intOf i).toNat)
  case atStart => exact ⟨0, 0, rfl, rfl, by omega⟩
  case round =>
    obtain ⟨k, nq, rfl, rfl, hk⟩ := hrel
    by_cases hk4 : k < ln
    · obtain ⟨x, hxk⟩ : ∃ x, xs[k]? = some x := ⟨xs[k]'(by rw [HLN.out]; exact hk4), List.getElem?_eq_getElem _⟩
      obtain ⟨b, o, us, rfl, _, hus, hrep⟩ := HU.out.at hxk
      obtain ⟨b', o', us', rfl, _, hus', hrep'⟩ := HV.out.at hxk
      obtain ⟨qn, qt⟩ := x
      have e1 := mWorker_form hrep
      have e2 := mWorker_form hrep'
      subst e1; subst e2
      have d0 := hus 0 _ rfl
      change World.cell? _ ⟨b, o + k * 2, none⟩ = some (.int .i64 qn) at d0
      have g0 := hus' 0 _ rfl
      change World.cell? _ ⟨b', o' + k * 2, none⟩ = some (.int .i64 qn) at g0
      have d1 := hus 1 _ rfl
      change World.cell? _ ⟨b, o + k * 2 + 1, none⟩ = some (.int .i64 qt) at d1
      have g1 := hus' 1 _ rfl
      change World.cell? _ ⟨b', o' + k * 2 + 1, none⟩ = some (.int .i64 qt) at g1
      have hq := neqWorker qn qt
      clear hxk hus hus' hrep hrep'
      go_wp2
      go_quiet (fail)
      go_wp2
      go_roundw
      case rel => exact ⟨k + 1, _, by go_num, rfl, by omega⟩
      case measure => simp [intOf]; omega
    · obtain rfl : k = ln := by omega
      go_wp2
      go_ret
      exact ⟨rfl, by first | exact ⟨_, rfl⟩ | exact ⟨0, rfl⟩⟩
end Go.Proofs.Ytckooioikcenmaa
namespace Go.Proofs.Ytckooioikcenmaa
open Go.RowKit
def SPost (w : World) (e : Ending) (w' : World) : Prop := e = .returned (.bool true) ∧ Below w.heap.size w w'
set_option maxRecDepth 20000 in
set_option maxHeartbeats 1000000 in
theorem same17_any (B : Nat) (qq qat : Int) (qhad : Bool) (u v : Value) (xs : List DTurn) (w : World) (hu : LRep mTurn B w u xs) (hv : LRep mTurn B w v xs) (hB : B ≤ w.heap.size) :
    Calls Try.prog 76 #[.agg #[.int .i64 qq, u, .int .i64 qat, .bool qhad], .agg #[.int .i64 qq, v, .int .i64 qat, .bool qhad]] w (SPost w) := by
  obtain ⟨A, c, rfl⟩ := hu.form
  obtain ⟨A', c', rfl⟩ := hv.form
  have hm := hu.max
  have hb : Below w.heap.size w ((w.alloc (.cells #[.int .i64 qq, .slice A xs.length c, .int .i64 qat, .bool qhad] 28)).alloc (.cells #[.int .i64 qq, .slice A' xs.length c', .int .i64 qat, .bool qhad] 28)) := ((Below.refl _ _).alloc (Nat.le_refl _) _).alloc (by simp) _
  have HB := Lib.hid hb
  have HU := Lib.hid (hu.keep mTurn_law (hb.mono hB))
  have HV := Lib.hid (hv.keep mTurn_law (hb.mono hB))
  clear hu hv hb
  obtain ⟨ln, hln⟩ : ∃ ln, xs.length = ln := ⟨_, rfl⟩
  have HLN := Lib.hid hln
  rw [hln] at HU HV HB hm ⊢
  clear hln
  go_enter Try.func76, Try.ntmps76
  go_wp2
  go_loopw [5, 37] (fun _ i wr => ∃ k nq : Nat, i = .int .i64 k ∧ wr = ((w.alloc (.cells #[.int .i64 qq, .slice A ln c, .int .i64 qat, .bool qhad] 28)).alloc (.cells #[.int .i64 qq, .slice A' ln c', .int .i64 qat, .bool qhad] 28)).drewN nq ∧ k ≤ ln) (fun _ i _ => ln - (intOf i).toNat)
  case atStart => exact ⟨0, 0, rfl, rfl, by omega⟩
  case round =>
    obtain ⟨k, nq, rfl, rfl, hk⟩ := hrel
    by_cases hk4 : k < ln
    · obtain ⟨x, hxk⟩ : ∃ x, xs[k]? = some x := ⟨xs[k]'(by rw [HLN.out]; exact hk4), List.getElem?_eq_getElem _⟩
      obtain ⟨b, o, us, rfl, _, hus, hrep⟩ := HU.out.at hxk
      obtain ⟨b', o', us', rfl, _, hus', hrep'⟩ := HV.out.at hxk
      obtain ⟨qs, qn, ql⟩ := x
      have e1 := mTurn_form hrep
      have e2 := mTurn_form hrep'
      subst e1; subst e2
      have d0 := hus 0 _ rfl
      change World.cell? _ ⟨b, o + k * 3, none⟩ = some (.string qs) at d0
      have d1 := hus 1 _ rfl
      change World.cell? _ ⟨b, o + k * 3 + 1, none⟩ = some (.int .i64 qn) at d1
      have d2 := hus 2 _ rfl
      change World.cell? _ ⟨b, o + k * 3 + 2, none⟩ = some (.int .i64 ql) at d2
      have g0 := hus' 0 _ rfl
      change World.cell? _ ⟨b', o' + k * 3, none⟩ = some (.string qs) at g0
      have g1 := hus' 1 _ rfl
      change World.cell? _ ⟨b', o' + k * 3 + 1, none⟩ = some (.int .i64 qn) at g1
      have g2 := hus' 2 _ rfl
      change World.cell? _ ⟨b', o' + k * 3 + 2, none⟩ = some (.int .i64 ql) at g2
      have hq := neqTurn qs qn ql
      clear hxk hus hus' hrep hrep'
      go_wp2
      go_quiet (fail)
      go_wp2
      go_roundw
      case rel => exact ⟨k + 1, _, by go_num, rfl, by omega⟩
      case measure => simp [intOf]; omega
    · obtain rfl : k = ln := by omega
      go_wp2
      go_ret
      exact ⟨rfl, below_drewN HB.out _⟩
end Go.Proofs.Ytckooioikcenmaa
namespace Go.Proofs.Ytckooioikcenmaa
open Go.RowKit
instance textDec : DecidableEq ByteArray := fun a b => decidable_of_iff (a.toList = b.toList) (str_eq a b)
instance p2Dec : DecidableEq (Int × Int) := inferInstance
instance p3Dec : DecidableEq (Int × Int × Int) := @instDecidableEqProd _ _ _ p2Dec
instance p4Dec : DecidableEq (Int × Int × Int × Int) := @instDecidableEqProd _ _ _ p3Dec
instance p5Dec : DecidableEq (Int × Int × Int × Int × Int) := @instDecidableEqProd _ _ _ p4Dec
instance p6Dec : DecidableEq (ByteArray × Int × Int × Int × Int × Int) := @instDecidableEqProd _ _ _ p5Dec
instance p7Dec : DecidableEq (ByteArray × ByteArray × Int × Int × Int × Int × Int) := @instDecidableEqProd _ _ _ p6Dec
instance p8Dec : DecidableEq (ByteArray × ByteArray × ByteArray × Int × Int × Int × Int × Int) := @instDecidableEqProd _ _ _ p7Dec
instance p9Dec : DecidableEq (ByteArray × ByteArray × ByteArray × ByteArray × Int × Int × Int × Int × Int) := @instDecidableEqProd _ _ _ p8Dec
instance opDec : DecidableEq DOp := @instDecidableEqProd Int _ _ p9Dec
set_option maxRecDepth 20000 in
set_option maxHeartbeats 1000000 in
theorem eqlOp (a : Int) (s1 s2 s3 s4 : ByteArray) (n1 n2 n3 n4 n5 : Int) (a' : Int) (t1 t2 t3 t4 : ByteArray) (m1 m2 m3 m4 m5 : Int) (w : World) : Sem.run Try.prog (binOp .eql 24 (.agg #[.int .u8 a, .string s1, .string s2, .string s3, .string s4, .int .i64 n1, .int .i64 n2, .int .i64 n3, .int .i64 n4, .int .i64 n5]) (.agg #[.int .u8 a', .string t1, .string t2, .string t3, .string t4, .int .i64 m1, .int .i64 m2, .int .i64 m3, .int .i64 m4, .int .i64 m5])) w = .ok (.bool (decide ((a, s1, s2, s3, s4, n1, n2, n3, n4, n5) = ((a', t1, t2, t3, t4, m1, m2, m3, m4, m5) : DOp)))) w := by
  have hs : Try.prog.underlying 24 = some (.struct (Try.prog.fieldsOf 24)) := by kernel_rfl
  have ht : Try.prog.stoodInHeld 24 = false := by kernel_rfl
  rw [run_eql_struct, show (10000 : Nat) = 9999 + 1 from rfl, run_equalIn_agg w 9999 24 _ _ hs ht]
  simp only [Program.fieldsOf, Try.underlying24]
  have u3 := Try.underlying3
  have a3 := Try.isAgg3
  have u4 := Try.underlying2
  have a4 := Try.isAgg2
  have u5 := Try.underlying9
  have a5 := Try.isAgg9
  have uK := Try.underlying22
  have aK := Try.isAgg22
  go_simp
  simp only [str_eq]
  by_cases h0 : a = a'
  case neg => simp [h0]
  by_cases h1 : s1 = t1
  case neg => simp [h0, h1]
  by_cases h2 : s2 = t2
  case neg => simp [h0, h1, h2]
  by_cases h3 : s3 = t3
  case neg => simp [h0, h1, h2, h3]
  by_cases h4 : s4 = t4
  case neg => simp [h0, h1, h2, h3, h4]
  by_cases h5 : n1 = m1
  case neg => simp [h0, h1, h2, h3, h4, h5]
  by_cases h6 : n2 = m2
  case neg => simp [h0, h1, h2, h3, h4, h5, h6]
  by_cases h7 : n3 = m3
  case neg => simp [h0, h1, h2, h3, h4, h5, h6, h7]
  by_cases h8 : n4 = m4
  case neg => simp [h0, h1, h2, h3, h4, h5, h6, h7, h8]
  by_cases h9 : n5 = m5
  case neg => simp [h0, h1, h2, h3, h4, h5, h6, h7, h8, h9]
  subst h0 h1 h2 h3 h4 h5 h6 h7 h8 h9
  simp
end Go.Proofs.Ytckooioikcenmaa

/- SameBytes. Conditions: sizes a machine can have. -/
import Derived.Test.YtckooioikcenmaaGreatCkG1
import Derived.Laws.StructEq
namespace Go.Proofs.YtckooioikcenmaaGreat
open Go.RowKit
theorem str_eq (a b : ByteArray) : a.toList = b.toList ↔ a = b := by
  rw [ByteArray.toList_eq, ByteArray.toList_eq]
  constructor
  · intro h
    apply ByteArray.ext
    exact Array.toList_inj.1 h
  · rintro rfl; rfl
set_option maxRecDepth 20000 in
set_option maxHeartbeats 1000000 in
theorem sameBytes_any (u v : Value) (xs ys : List UInt8) (w : World) (hu : RdB w u xs) (hv : RdB w v ys) : Calls Tryz.prog 10 #[u, v] w fun e w' => e = .returned (.bool (decide (xs = ys))) ∧ w = w' := by
  have c1 := rd_text hu
  have c2 := rd_text hv
  obtain ⟨A, c, rfl, _, _⟩ := hu.form
  obtain ⟨A', c', rfl, _, _⟩ := hv.form
  clear hu hv
  by_cases h : xs = ys
  · subst h
    go_enter Tryz.func10, Tryz.ntmps10
    go_wp2
    go_ret
    exact ⟨by simp, rfl⟩
  · go_enter Tryz.func10, Tryz.ntmps10
    go_wp2
    go_ret
    exact ⟨by simp [h], rfl⟩
theorem ext_below {base n size : Nat} {e : TypeId} {v v' : Value} {xs : List Value} {w0 w w' : World} (h : Ext w w' v v') (ho : w.ownsRow base e size v n xs) (hb : Below base w0 w) (hB : base ≤ w0.heap.size) : Below base w0 w' :=
  ⟨h.1.os.trans hb.os, h.1.tape.trans hb.tape, h.1.output.trans hb.output, Nat.le_trans hb.size h.1.size, fun k hk => by
    by_cases hlt : k < w.heap.size
    · refine (h.1.block k hlt ?_).trans (hb.block k hk)
      rcases ho.2 with ⟨rfl, _⟩ | ⟨g, cap, cur, rfl, hg, _⟩
      · intro e; cases e
      · intro e
        have : k = g := by simpa [Value.ownBlock] using e
        omega
    · have := hb.size
      omega⟩
end Go.Proofs.YtckooioikcenmaaGreat
namespace Go.Proofs.YtckooioikcenmaaGreat
open Go.RowKit
set_option maxRecDepth 20000 in
set_option maxHeartbeats 1000000 in
theorem neqKnown (x0 : Int) (x1 : Int) (x2 : Int) (w : World) : Sem.run Tryz.prog (binOp .neq 202 (.agg #[.int .i64 x0, .int .i64 x1, .int .i64 x2]) (.agg #[.int .i64 x0, .int .i64 x1, .int .i64 x2])) w = .ok (.bool false) w := by
  have hs : Tryz.prog.underlying 202 = some (.struct (Tryz.prog.fieldsOf 202)) := by kernel_rfl
  have ht : Tryz.prog.stoodInHeld 202 = false := by kernel_rfl
  rw [run_neq_struct, show (10000 : Nat) = 9999 + 1 from rfl, run_equalIn_agg w 9999 202 _ _ hs ht]
  simp only [Program.fieldsOf, Tryz.underlying202]
  have uint := Tryz.underlying3
  have aint := Tryz.isAgg3
  have zint := Tryz.sizeOf3
  have uint64 := Tryz.underlying2
  have aint64 := Tryz.isAgg2
  have zint64 := Tryz.sizeOf2
  go_simp
set_option maxRecDepth 20000 in
set_option maxHeartbeats 1000000 in
theorem neqItem (x0 : Int) (x1 : Int) (w : World) : Sem.run Tryz.prog (binOp .neq 152 (.agg #[.int .i64 x0, .int .i64 x1]) (.agg #[.int .i64 x0, .int .i64 x1])) w = .ok (.bool false) w := by
  have hs : Tryz.prog.underlying 152 = some (.struct (Tryz.prog.fieldsOf 152)) := by kernel_rfl
  have ht : Tryz.prog.stoodInHeld 152 = false := by kernel_rfl
  rw [run_neq_struct, show (10000 : Nat) = 9999 + 1 from rfl, run_equalIn_agg w 9999 152 _ _ hs ht]
  simp only [Program.fieldsOf, Tryz.underlying152]
  have uint := Tryz.underlying3
  have aint := Tryz.isAgg3
  have zint := Tryz.sizeOf3
  have uint64 := Tryz.underlying2
  have aint64 := Tryz.isAgg2
  have zint64 := Tryz.sizeOf2
  go_simp
set_option maxRecDepth 20000 in
set_option maxHeartbeats 1000000 in
theorem neqSleep (x0 : Int) (x1 : Int) (w : World) : Sem.run Tryz.prog (binOp .neq 143 (.agg #[.int .i64 x0, .int .i64 x1]) (.agg #[.int .i64 x0, .int .i64 x1])) w = .ok (.bool false) w := by
  have hs : Tryz.prog.underlying 143 = some (.struct (Tryz.prog.fieldsOf 143)) := by kernel_rfl
  have ht : Tryz.prog.stoodInHeld 143 = false := by kernel_rfl
  rw [run_neq_struct, show (10000 : Nat) = 9999 + 1 from rfl, run_equalIn_agg w 9999 143 _ _ hs ht]
  simp only [Program.fieldsOf, Tryz.underlying143]
  have uint := Tryz.underlying3
  have aint := Tryz.isAgg3
  have zint := Tryz.sizeOf3
  have uint64 := Tryz.underlying2
  have aint64 := Tryz.isAgg2
  have zint64 := Tryz.sizeOf2
  go_simp
set_option maxRecDepth 20000 in
set_option maxHeartbeats 1000000 in
theorem neqTurn (x0 : ByteArray) (x1 : Int) (x2 : Int) (w : World) : Sem.run Tryz.prog (binOp .neq 147 (.agg #[.string x0, .int .i64 x1, .int .i64 x2]) (.agg #[.string x0, .int .i64 x1, .int .i64 x2])) w = .ok (.bool false) w := by
  have hs : Tryz.prog.underlying 147 = some (.struct (Tryz.prog.fieldsOf 147)) := by kernel_rfl
  have ht : Tryz.prog.stoodInHeld 147 = false := by kernel_rfl
  rw [run_neq_struct, show (10000 : Nat) = 9999 + 1 from rfl, run_equalIn_agg w 9999 147 _ _ hs ht]
  simp only [Program.fieldsOf, Tryz.underlying147]
  have uint := Tryz.underlying3
  have aint := Tryz.isAgg3
  have zint := Tryz.sizeOf3
  have uint64 := Tryz.underlying2
  have aint64 := Tryz.isAgg2
  have zint64 := Tryz.sizeOf2
  have ustring := Tryz.underlying9
  have astring := Tryz.isAgg9
  have zstring := Tryz.sizeOf9
  go_simp
set_option maxRecDepth 20000 in
set_option maxHeartbeats 1000000 in
theorem neqJob (x0 : Int) (x1 : ByteArray) (x2 : Int) (w : World) : Sem.run Tryz.prog (binOp .neq 67 (.agg #[.int .i64 x0, .string x1, .int .i64 x2]) (.agg #[.int .i64 x0, .string x1, .int .i64 x2])) w = .ok (.bool false) w := by
  have hs : Tryz.prog.underlying 67 = some (.struct (Tryz.prog.fieldsOf 67)) := by kernel_rfl
  have ht : Tryz.prog.stoodInHeld 67 = false := by kernel_rfl
  rw [run_neq_struct, show (10000 : Nat) = 9999 + 1 from rfl, run_equalIn_agg w 9999 67 _ _ hs ht]
  simp only [Program.fieldsOf, Tryz.underlying67]
  have uint := Tryz.underlying3
  have aint := Tryz.isAgg3
  have zint := Tryz.sizeOf3
  have uint64 := Tryz.underlying2
  have aint64 := Tryz.isAgg2
  have zint64 := Tryz.sizeOf2
  have ustring := Tryz.underlying9
  have astring := Tryz.isAgg9
  have zstring := Tryz.sizeOf9
  go_simp
set_option maxRecDepth 20000 in
set_option maxHeartbeats 1000000 in
theorem neqWorker (x0 : Int) (x1 : Int) (w : World) : Sem.run Tryz.prog (binOp .neq 87 (.agg #[.int .i64 x0, .int .i64 x1]) (.agg #[.int .i64 x0, .int .i64 x1])) w = .ok (.bool false) w := by
  have hs : Tryz.prog.underlying 87 = some (.struct (Tryz.prog.fieldsOf 87)) := by kernel_rfl
  have ht : Tryz.prog.stoodInHeld 87 = false := by kernel_rfl
  rw [run_neq_struct, show (10000 : Nat) = 9999 + 1 from rfl, run_equalIn_agg w 9999 87 _ _ hs ht]
  simp only [Program.fieldsOf, Tryz.underlying87]
  have uint := Tryz.underlying3
  have aint := Tryz.isAgg3
  have zint := Tryz.sizeOf3
  have uint64 := Tryz.underlying2
  have aint64 := Tryz.isAgg2
  have zint64 := Tryz.sizeOf2
  go_simp
set_option maxRecDepth 20000 in
set_option maxHeartbeats 1000000 in
theorem neqCmd (x0 : Int) (x1 : Int) (x2 : ByteArray) (x3 : Int) (x4 : Int) (w : World) : Sem.run Tryz.prog (binOp .neq 191 (.agg #[.int .i64 x0, .int .u8 x1, .string x2, .int .i64 x3, .int .i64 x4]) (.agg #[.int .i64 x0, .int .u8 x1, .string x2, .int .i64 x3, .int .i64 x4])) w = .ok (.bool false) w := by
  have hs : Tryz.prog.underlying 191 = some (.struct (Tryz.prog.fieldsOf 191)) := by kernel_rfl
  have ht : Tryz.prog.stoodInHeld 191 = false := by kernel_rfl
  rw [run_neq_struct, show (10000 : Nat) = 9999 + 1 from rfl, run_equalIn_agg w 9999 191 _ _ hs ht]
  simp only [Program.fieldsOf, Tryz.underlying191]
  have uint := Tryz.underlying3
  have aint := Tryz.isAgg3
  have zint := Tryz.sizeOf3
  have uint64 := Tryz.underlying2
  have aint64 := Tryz.isAgg2
  have zint64 := Tryz.sizeOf2
  have ustring := Tryz.underlying9
  have astring := Tryz.isAgg9
  have zstring := Tryz.sizeOf9
  have uK := Tryz.underlying189
  have aK := Tryz.isAgg189
  go_simp
set_option maxRecDepth 20000 in
set_option maxHeartbeats 1000000 in
theorem neqOp (x0 : Int) (x1 : ByteArray) (x2 : ByteArray) (x3 : ByteArray) (x4 : ByteArray) (x5 : Int) (x6 : Int) (x7 : Int) (x8 : Int) (x9 : Int) (w : World) : Sem.run Tryz.prog (binOp .neq 24 (.agg #[.int .u8 x0, .string x1, .string x2, .string x3, .string x4, .int .i64 x5, .int .i64 x6, .int .i64 x7, .int .i64 x8, .int .i64 x9]) (.agg #[.int .u8 x0, .string x1, .string x2, .string x3, .string x4, .int .i64 x5, .int .i64 x6, .int .i64 x7, .int .i64 x8, .int .i64 x9])) w = .ok (.bool false) w := by
  have hs : Tryz.prog.underlying 24 = some (.struct (Tryz.prog.fieldsOf 24)) := by kernel_rfl
  have ht : Tryz.prog.stoodInHeld 24 = false := by kernel_rfl
  rw [run_neq_struct, show (10000 : Nat) = 9999 + 1 from rfl, run_equalIn_agg w 9999 24 _ _ hs ht]
  simp only [Program.fieldsOf, Tryz.underlying24]
  have uint := Tryz.underlying3
  have aint := Tryz.isAgg3
  have zint := Tryz.sizeOf3
  have uint64 := Tryz.underlying2
  have aint64 := Tryz.isAgg2
  have zint64 := Tryz.sizeOf2
  have ustring := Tryz.underlying9
  have astring := Tryz.isAgg9
  have zstring := Tryz.sizeOf9
  have uK := Tryz.underlying22
  have aK := Tryz.isAgg22
  go_simp
end Go.Proofs.YtckooioikcenmaaGreat
namespace Go.Proofs.YtckooioikcenmaaGreat
open Go.RowKit
set_option maxRecDepth 20000 in
set_option maxHeartbeats 1000000 in
theorem neqAct (x0 : Int) (x1 : Int) (x2 : Int) (x3 : Int) (x4 : Int) (x5 : Int) (x6 : Int) (x7 : Int) (x8 : Int) (x9 : Int) (x10 : Int) (w : World) : Sem.run Tryz.prog (binOp .neq 138 (.agg #[.int .i64 x0, .int .i64 x1, .int .i64 x2, .int .u8 x3, .int .i64 x4, .int .i64 x5, .int .i64 x6, .int .i64 x7, .int .i64 x8, .int .i64 x9, .int .i64 x10]) (.agg #[.int .i64 x0, .int .i64 x1, .int .i64 x2, .int .u8 x3, .int .i64 x4, .int .i64 x5, .int .i64 x6, .int .i64 x7, .int .i64 x8, .int .i64 x9, .int .i64 x10])) w = .ok (.bool false) w := by
  have hs : Tryz.prog.underlying 138 = some (.struct (Tryz.prog.fieldsOf 138)) := by kernel_rfl
  have ht : Tryz.prog.stoodInHeld 138 = false := by kernel_rfl
  rw [run_neq_struct, show (10000 : Nat) = 9999 + 1 from rfl, run_equalIn_agg w 9999 138 _ _ hs ht]
  simp only [Program.fieldsOf, Tryz.underlying138]
  have uint := Tryz.underlying3
  have aint := Tryz.isAgg3
  have zint := Tryz.sizeOf3
  have uint64 := Tryz.underlying2
  have aint64 := Tryz.isAgg2
  have zint64 := Tryz.sizeOf2
  have uK := Tryz.underlying134
  have aK := Tryz.isAgg134
  go_simp
set_option maxRecDepth 20000 in
theorem eqlOut (a b : Int) (w : World) : Sem.run Tryz.prog (binOp .eql 57 (.agg #[.int .i64 a, .int .i64 b]) (.agg #[.int .i64 a, .int .i64 b])) w = .ok (.bool true) w := by
  have hs : Tryz.prog.underlying 57 = some (.struct (Tryz.prog.fieldsOf 57)) := by kernel_rfl
  have ht : Tryz.prog.stoodInHeld 57 = false := by kernel_rfl
  rw [run_eql_struct, show (10000 : Nat) = 9999 + 1 from rfl, run_equalIn_agg w 9999 57 _ _ hs ht]
  simp only [Program.fieldsOf, Tryz.underlying57]
  have u3 := Tryz.underlying3
  have a3 := Tryz.isAgg3
  have u4 := Tryz.underlying2
  have a4 := Tryz.isAgg2
  go_simp
end Go.Proofs.YtckooioikcenmaaGreat
namespace Go.Proofs.YtckooioikcenmaaGreat
open Go.RowKit
set_option maxRecDepth 20000 in
set_option maxHeartbeats 1000000 in
theorem sameCmds_any (B : Nat) (u v : Value) (xs : List DCmd) (w : World) (hu : LRep mCmd B w u xs) (hv : LRep mCmd B w v xs) : Calls Tryz.prog 115 #[u, v] w fun e w' => e = .returned (.bool true) ∧ ∃ n, w' = w.drewN n := by
  obtain ⟨A, c, rfl⟩ := hu.form
  obtain ⟨A', c', rfl⟩ := hv.form
  have hm := hu.max
  have HU := Lib.hid hu
  have HV := Lib.hid hv
  clear hu hv
  obtain ⟨ln, hln⟩ : ∃ ln, xs.length = ln := ⟨_, rfl⟩
  have HLN := Lib.hid hln
  rw [hln] at HU HV hm ⊢
  clear hln
  go_enter Tryz.func115, Tryz.ntmps115
  go_wp2
  go_loopw [5] (fun  i wr => ∃ k nq : Nat, i = .int .i64 k ∧ wr = w.drewN nq ∧ k ≤ ln) (fun  i _ => ln - (intOf i).toNat)
  case atStart => exact ⟨0, 0, rfl, rfl, by omega⟩
  case round =>
    obtain ⟨k, nq, rfl, rfl, hk⟩ := hrel
    by_cases hk4 : k < ln
    · obtain ⟨x, hxk⟩ : ∃ x, xs[k]? = some x := ⟨xs[k]'(by rw [HLN.out]; exact hk4), List.getElem?_eq_getElem _⟩
      obtain ⟨b, o, us, rfl, _, hus, hrep⟩ := HU.out.at hxk
      obtain ⟨b', o', us', rfl, _, hus', hrep'⟩ := HV.out.at hxk
      obtain ⟨qn, qk, qs, qa, qp⟩ := x
      have e1 := mCmd_form hrep
      have e2 := mCmd_form hrep'
      subst e1; subst e2
      have d0 := hus 0 _ rfl
      change World.cell? _ ⟨b, o + k * 5, none⟩ = some (.int .i64 qn) at d0
      have g0 := hus' 0 _ rfl
      change World.cell? _ ⟨b', o' + k * 5, none⟩ = some (.int .i64 qn) at g0
      have d1 := hus 1 _ rfl
      change World.cell? _ ⟨b, o + k * 5 + 1, none⟩ = some (.int .u8 qk) at d1
      have g1 := hus' 1 _ rfl
      change World.cell? _ ⟨b', o' + k * 5 + 1, none⟩ = some (.int .u8 qk) at g1
      have d2 := hus 2 _ rfl
      change World.cell? _ ⟨b, o + k * 5 + 2, none⟩ = some (.string qs) at d2
      have g2 := hus' 2 _ rfl
      change World.cell? _ ⟨b', o' + k * 5 + 2, none⟩ = some (.string qs) at g2
      have d3 := hus 3 _ rfl
      change World.cell? _ ⟨b, o + k * 5 + 3, none⟩ = some (.int .i64 qa) at d3
      have g3 := hus' 3 _ rfl
      change World.cell? _ ⟨b', o' + k * 5 + 3, none⟩ = some (.int .i64 qa) at g3
      have d4 := hus 4 _ rfl
      change World.cell? _ ⟨b, o + k * 5 + 4, none⟩ = some (.int .i64 qp) at d4
      have g4 := hus' 4 _ rfl
      change World.cell? _ ⟨b', o' + k * 5 + 4, none⟩ = some (.int .i64 qp) at g4
      have hq := neqCmd qn qk qs qa qp
      clear hxk hus hus' hrep hrep'
      go_wp2
      go_quiet (fail)
      go_wp2
      go_roundw
      case rel => exact ⟨k + 1, _, by go_num, rfl, by omega⟩
      case measure => simp [intOf]; omega
    · obtain rfl : k = ln := by omega
      go_wp2
      go_ret
      exact ⟨rfl, by first | exact ⟨_, rfl⟩ | exact ⟨0, rfl⟩⟩
set_option maxRecDepth 20000 in
set_option maxHeartbeats 1000000 in
theorem sameInts_any (B : Nat) (u v : Value) (xs : List Int) (w : World) (hu : LRep mI B w u xs) (hv : LRep mI B w v xs) : Calls Tryz.prog 116 #[u, v] w fun e w' => e = .returned (.bool true) ∧ ∃ n, w' = w.drewN n := by
  obtain ⟨A, c, rfl⟩ := hu.form
  obtain ⟨A', c', rfl⟩ := hv.form
  have hm := hu.max
  have HU := Lib.hid hu
  have HV := Lib.hid hv
  clear hu hv
  obtain ⟨ln, hln⟩ : ∃ ln, xs.length = ln := ⟨_, rfl⟩
  have HLN := Lib.hid hln
  rw [hln] at HU HV hm ⊢
  clear hln
  go_enter Tryz.func116, Tryz.ntmps116
  go_wp2
  go_loopw [5] (fun  i wr => ∃ k nq : Nat, i = .int .i64 k ∧ wr = w.drewN nq ∧ k ≤ ln) (fun  i _ => ln - (intOf i).toNat)
  case atStart => exact ⟨0, 0, rfl, rfl, by omega⟩
  case round =>
    obtain ⟨k, nq, rfl, rfl, hk⟩ := hrel
    by_cases hk4 : k < ln
    · obtain ⟨x, hxk⟩ : ∃ x, xs[k]? = some x := ⟨xs[k]'(by rw [HLN.out]; exact hk4), List.getElem?_eq_getElem _⟩
      obtain ⟨b, o, us, rfl, _, hus, hrep⟩ := HU.out.at hxk
      obtain ⟨b', o', us', rfl, _, hus', hrep'⟩ := HV.out.at hxk
      have e1 : us = [.int .i64 x] := hrep
      have e2 : us' = [.int .i64 x] := hrep'
      subst e1; subst e2
      have d0 := hus 0 _ rfl
      change World.cell? _ ⟨b, o + k * 1, none⟩ = some (.int .i64 x) at d0
      have g0 := hus' 0 _ rfl
      change World.cell? _ ⟨b', o' + k * 1, none⟩ = some (.int .i64 x) at g0
      rw [Nat.mul_one] at d0 g0
      clear hxk hus hus' hrep hrep'
      go_wp2
      go_quiet (fail)
      go_wp2
      go_roundw
      case rel => exact ⟨k + 1, _, by go_num, rfl, by omega⟩
      case measure => simp [intOf]; omega
    · obtain rfl : k = ln := by omega
      go_wp2
      go_ret
      exact ⟨rfl, by first | exact ⟨_, rfl⟩ | exact ⟨0, rfl⟩⟩
set_option maxRecDepth 20000 in
set_option maxHeartbeats 1000000 in
theorem sameKnowns_any (B : Nat) (u v : Value) (xs : List DKnown) (w : World) (hu : LRep mKnown B w u xs) (hv : LRep mKnown B w v xs) : Calls Tryz.prog 117 #[u, v] w fun e w' => e = .returned (.bool true) ∧ ∃ n, w' = w.drewN n := by
  obtain ⟨A, c, rfl⟩ := hu.form
  obtain ⟨A', c', rfl⟩ := hv.form
  have hm := hu.max
  have HU := Lib.hid hu
  have HV := Lib.hid hv
  clear hu hv
  obtain ⟨ln, hln⟩ : ∃ ln, xs.length = ln := ⟨_, rfl⟩
  have HLN := Lib.hid hln
  rw [hln] at HU HV hm ⊢
  clear hln
  go_enter Tryz.func117, Tryz.ntmps117
  go_wp2
  go_loopw [5] (fun  i wr => ∃ k nq : Nat, i = .int .i64 k ∧ wr = w.drewN nq ∧ k ≤ ln) (fun  i _ => ln - (intOf i).toNat)
  case atStart => exact ⟨0, 0, rfl, rfl, by omega⟩
  case round =>
    obtain ⟨k, nq, rfl, rfl, hk⟩ := hrel
    by_cases hk4 : k < ln
    · obtain ⟨x, hxk⟩ : ∃ x, xs[k]? = some x := ⟨xs[k]'(by rw [HLN.out]; exact hk4), List.getElem?_eq_getElem _⟩
      obtain ⟨b, o, us, rfl, _, hus, hrep⟩ := HU.out.at hxk
      obtain ⟨b', o', us', rfl, _, hus', hrep'⟩ := HV.out.at hxk
      obtain ⟨qn, qt, qv⟩ := x
      have e1 := mKnown_form hrep
      have e2 := mKnown_form hrep'
      subst e1; subst e2
      have d0 := hus 0 _ rfl
      change World.cell? _ ⟨b, o + k * 3, none⟩ = some (.int .i64 qn) at d0
      have g0 := hus' 0 _ rfl
      change World.cell? _ ⟨b', o' + k * 3, none⟩ = some (.int .i64 qn) at g0
      have d1 := hus 1 _ rfl
      change World.cell? _ ⟨b, o + k * 3 + 1, none⟩ = some (.int .i64 qt) at d1
      have g1 := hus' 1 _ rfl
      change World.cell? _ ⟨b', o' + k * 3 + 1, none⟩ = some (.int .i64 qt) at g1
      have d2 := hus 2 _ rfl
      change World.cell? _ ⟨b, o + k * 3 + 2, none⟩ = some (.int .i64 qv) at d2
      have g2 := hus' 2 _ rfl
      change World.cell? _ ⟨b', o' + k * 3 + 2, none⟩ = some (.int .i64 qv) at g2
      have hq := neqKnown qn qt qv
      clear hxk hus hus' hrep hrep'
      go_wp2
      go_quiet (fail)
      go_wp2
      go_roundw
      case rel => exact ⟨k + 1, _, by go_num, rfl, by omega⟩
      case measure => simp [intOf]; omega
    · obtain rfl : k = ln := by omega
      go_wp2
      go_ret
      exact ⟨rfl, by first | exact ⟨_, rfl⟩ | exact ⟨0, rfl⟩⟩
set_option maxRecDepth 20000 in
set_option maxHeartbeats 1000000 in
theorem sameNums_any (B : Nat) (u v : Value) (xs : List Int) (w : World) (hu : LRep mI B w u xs) (hv : LRep mI B w v xs) : Calls Tryz.prog 118 #[u, v] w fun e w' => e = .returned (.bool true) ∧ ∃ n, w' = w.drewN n := by
  obtain ⟨A, c, rfl⟩ := hu.form
  obtain ⟨A', c', rfl⟩ := hv.form
  have hm := hu.max
  have HU := Lib.hid hu
  have HV := Lib.hid hv
  clear hu hv
  obtain ⟨ln, hln⟩ : ∃ ln, xs.length = ln := ⟨_, rfl⟩
  have HLN := Lib.hid hln
  rw [hln] at HU HV hm ⊢
  clear hln
  go_enter Tryz.func118, Tryz.ntmps118
  go_wp2
  go_loopw [5] (fun  i wr => ∃ k nq : Nat, i = .int .i64 k ∧ wr = w.drewN nq ∧ k ≤ ln) (fun  i _ => ln - (intOf i).toNat)
  case atStart => exact ⟨0, 0, rfl, rfl, by omega⟩
  case round =>
    obtain ⟨k, nq, rfl, rfl, hk⟩ := hrel
    by_cases hk4 : k < ln
    · obtain ⟨x, hxk⟩ : ∃ x, xs[k]? = some x := ⟨xs[k]'(by rw [HLN.out]; exact hk4), List.getElem?_eq_getElem _⟩
      obtain ⟨b, o, us, rfl, _, hus, hrep⟩ := HU.out.at hxk
      obtain ⟨b', o', us', rfl, _, hus', hrep'⟩ := HV.out.at hxk
      have e1 : us = [.int .i64 x] := hrep
      have e2 : us' = [.int .i64 x] := hrep'
      subst e1; subst e2
      have d0 := hus 0 _ rfl
      change World.cell? _ ⟨b, o + k * 1, none⟩ = some (.int .i64 x) at d0
      have g0 := hus' 0 _ rfl
      change World.cell? _ ⟨b', o' + k * 1, none⟩ = some (.int .i64 x) at g0
      rw [Nat.mul_one] at d0 g0
      clear hxk hus hus' hrep hrep'
      go_wp2
      go_quiet (fail)
      go_wp2
      go_roundw
      case rel => exact ⟨k + 1, _, by go_num, rfl, by omega⟩
      case measure => simp [intOf]; omega
    · obtain rfl : k = ln := by omega
      go_wp2
      go_ret
      exact ⟨rfl, by first | exact ⟨_, rfl⟩ | exact ⟨0, rfl⟩⟩
set_option maxRecDepth 20000 in
set_option maxHeartbeats 1000000 in
theorem sameWorkers_any (B : Nat) (u v : Value) (xs : List DWorker) (w : World) (hu : LRep mWorker B w u xs) (hv : LRep mWorker B w v xs) : Calls Tryz.prog 45 #[u, v] w fun e w' => e = .returned (.bool true) ∧ ∃ n, w' = w.drewN n := by
  obtain ⟨A, c, rfl⟩ := hu.form
  obtain ⟨A', c', rfl⟩ := hv.form
  have hm := hu.max
  have HU := Lib.hid hu
  have HV := Lib.hid hv
  clear hu hv
  obtain ⟨ln, hln⟩ : ∃ ln, xs.length = ln := ⟨_, rfl⟩
  have HLN := Lib.hid hln
  rw [hln] at HU HV hm ⊢
  clear hln
  go_enter Tryz.func45, Tryz.ntmps45
  go_wp2
  go_loopw [5, 13] (fun _ i wr => ∃ k nq : Nat, i = .int .i64 k ∧ wr = w.drewN nq ∧ k ≤ ln) (fun _ i _ => ln - (intOf i).toNat)
  case atStart => exact ⟨0, 0, rfl, rfl, by omega⟩
  case round =>
    obtain ⟨k, nq, rfl, rfl, hk⟩ := hrel
    by_cases hk4 : k < ln
    · obtain ⟨x, hxk⟩ : ∃ x, xs[k]? = some x := ⟨xs[k]'(by rw [HLN.out]; exact hk4), List.getElem?_eq_getElem _⟩
      obtain ⟨b, o, us, rfl, _, hus, hrep⟩ := HU.out.at hxk
      obtain ⟨b', o', us', rfl, _, hus', hrep'⟩ := HV.out.at hxk
      obtain ⟨qn, qt⟩ := x
      have e1 := mWorker_form hrep
      have e2 := mWorker_form hrep'
      subst e1; subst e2
      have d0 := hus 0 _ rfl
      change World.cell? _ ⟨b, o + k * 2, none⟩ = some (.int .i64 qn) at d0
      have g0 := hus' 0 _ rfl
      change World.cell? _ ⟨b', o' + k * 2, none⟩ = some (.int .i64 qn) at g0
      have d1 := hus 1 _ rfl
      change World.cell? _ ⟨b, o + k * 2 + 1, none⟩ = some (.int .i64 qt) at d1
      have g1 := hus' 1 _ rfl
      change World.cell? _ ⟨b', o' + k * 2 + 1, none⟩ = some (.int .i64 qt) at g1
      have hq := neqWorker qn qt
      clear hxk hus hus' hrep hrep'
      go_wp2
      go_quiet (fail)
      go_wp2
      go_roundw
      case rel => exact ⟨k + 1, _, by go_num, rfl, by omega⟩
      case measure => simp [intOf]; omega
    · obtain rfl : k = ln := by omega
      go_wp2
      go_ret
      exact ⟨rfl, by first | exact ⟨_, rfl⟩ | exact ⟨0, rfl⟩⟩
end Go.Proofs.YtckooioikcenmaaGreat
namespace Go.Proofs.YtckooioikcenmaaGreat
open Go.RowKit
def SPost (w : World) (e : Ending) (w' : World) : Prop := e = .returned (.bool true) ∧ Below w.heap.size w w'
set_option maxRecDepth 20000 in
set_option maxHeartbeats 1000000 in
theorem same17_any (B : Nat) (qq qat : Int) (qhad : Bool) (u v : Value) (xs : List DTurn) (w : World) (hu : LRep mTurn B w u xs) (hv : LRep mTurn B w v xs) (hB : B ≤ w.heap.size) :
    Calls Tryz.prog 87 #[.agg #[.int .i64 qq, u, .int .i64 qat, .bool qhad], .agg #[.int .i64 qq, v, .int .i64 qat, .bool qhad]] w (SPost w) := by
  obtain ⟨A, c, rfl⟩ := hu.form
  obtain ⟨A', c', rfl⟩ := hv.form
  have hm := hu.max
  have hb : Below w.heap.size w ((w.alloc (.cells #[.int .i64 qq, .slice A xs.length c, .int .i64 qat, .bool qhad] 28)).alloc (.cells #[.int .i64 qq, .slice A' xs.length c', .int .i64 qat, .bool qhad] 28)) := ((Below.refl _ _).alloc (Nat.le_refl _) _).alloc (by simp) _
  have HB := Lib.hid hb
  have HU := Lib.hid (hu.keep mTurn_law (hb.mono hB))
  have HV := Lib.hid (hv.keep mTurn_law (hb.mono hB))
  clear hu hv hb
  obtain ⟨ln, hln⟩ : ∃ ln, xs.length = ln := ⟨_, rfl⟩
  have HLN := Lib.hid hln
  rw [hln] at HU HV HB hm ⊢
  clear hln
  go_enter Tryz.func87, Tryz.ntmps87
  go_wp2
  go_loopw [5, 37] (fun _ i wr => ∃ k nq : Nat, i = .int .i64 k ∧ wr = ((w.alloc (.cells #[.int .i64 qq, .slice A ln c, .int .i64 qat, .bool qhad] 28)).alloc (.cells #[.int .i64 qq, .slice A' ln c', .int .i64 qat, .bool qhad] 28)).drewN nq ∧ k ≤ ln) (fun _ i _ => ln - (intOf i).toNat)
  case atStart => exact ⟨0, 0, rfl, rfl, by omega⟩
  case round =>
    obtain ⟨k, nq, rfl, rfl, hk⟩ := hrel
    by_cases hk4 : k < ln
    · obtain ⟨x, hxk⟩ : ∃ x, xs[k]? = some x := ⟨xs[k]'(by rw [HLN.out]; exact hk4), List.getElem?_eq_getElem _⟩
      obtain ⟨b, o, us, rfl, _, hus, hrep⟩ := HU.out.at hxk
      obtain ⟨b', o', us', rfl, _, hus', hrep'⟩ := HV.out.at hxk
      obtain ⟨qs, qn, ql⟩ := x
      have e1 := mTurn_form hrep
      have e2 := mTurn_form hrep'
      subst e1; subst e2
      have d0 := hus 0 _ rfl
      change World.cell? _ ⟨b, o + k * 3, none⟩ = some (.string qs) at d0
      have d1 := hus 1 _ rfl
      change World.cell? _ ⟨b, o + k * 3 + 1, none⟩ = some (.int .i64 qn) at d1
      have d2 := hus 2 _ rfl
      change World.cell? _ ⟨b, o + k * 3 + 2, none⟩ = some (.int .i64 ql) at d2
      have g0 := hus' 0 _ rfl
      change World.cell? _ ⟨b', o' + k * 3, none⟩ = some (.string qs) at g0
      have g1 := hus' 1 _ rfl
      change World.cell? _ ⟨b', o' + k * 3 + 1, none⟩ = some (.int .i64 qn) at g1
      have g2 := hus' 2 _ rfl
      change World.cell? _ ⟨b', o' + k * 3 + 2, none⟩ = some (.int .i64 ql) at g2
      have hq := neqTurn qs qn ql
      clear hxk hus hus' hrep hrep'
      go_wp2
      go_quiet (fail)
      go_wp2
      go_roundw
      case rel => exact ⟨k + 1, _, by go_num, rfl, by omega⟩
      case measure => simp [intOf]; omega
    · obtain rfl : k = ln := by omega
      go_wp2
      go_ret
      exact ⟨rfl, below_drewN HB.out _⟩
end Go.Proofs.YtckooioikcenmaaGreat
namespace Go.Proofs.YtckooioikcenmaaGreat
open Go.RowKit
instance textDec : DecidableEq ByteArray := fun a b => decidable_of_iff (a.toList = b.toList) (str_eq a b)
instance p2Dec : DecidableEq (Int × Int) := inferInstance
instance p3Dec : DecidableEq (Int × Int × Int) := @instDecidableEqProd _ _ _ p2Dec
instance p4Dec : DecidableEq (Int × Int × Int × Int) := @instDecidableEqProd _ _ _ p3Dec
instance p5Dec : DecidableEq (Int × Int × Int × Int × Int) := @instDecidableEqProd _ _ _ p4Dec
instance p6Dec : DecidableEq (ByteArray × Int × Int × Int × Int × Int) := @instDecidableEqProd _ _ _ p5Dec
instance p7Dec : DecidableEq (ByteArray × ByteArray × Int × Int × Int × Int × Int) := @instDecidableEqProd _ _ _ p6Dec
instance p8Dec : DecidableEq (ByteArray × ByteArray × ByteArray × Int × Int × Int × Int × Int) := @instDecidableEqProd _ _ _ p7Dec
instance p9Dec : DecidableEq (ByteArray × ByteArray × ByteArray × ByteArray × Int × Int × Int × Int × Int) := @instDecidableEqProd _ _ _ p8Dec
instance opDec : DecidableEq DOp := @instDecidableEqProd Int _ _ p9Dec
set_option maxRecDepth 20000 in
set_option maxHeartbeats 1000000 in
theorem eqlOp (a : Int) (s1 s2 s3 s4 : ByteArray) (n1 n2 n3 n4 n5 : Int) (a' : Int) (t1 t2 t3 t4 : ByteArray) (m1 m2 m3 m4 m5 : Int) (w : World) : Sem.run Tryz.prog (binOp .eql 24 (.agg #[.int .u8 a, .string s1, .string s2, .string s3, .string s4, .int .i64 n1, .int .i64 n2, .int .i64 n3, .int .i64 n4, .int .i64 n5]) (.agg #[.int .u8 a', .string t1, .string t2, .string t3, .string t4, .int .i64 m1, .int .i64 m2, .int .i64 m3, .int .i64 m4, .int .i64 m5])) w = .ok (.bool (decide ((a, s1, s2, s3, s4, n1, n2, n3, n4, n5) = ((a', t1, t2, t3, t4, m1, m2, m3, m4, m5) : DOp)))) w := by
  have hs : Tryz.prog.underlying 24 = some (.struct (Tryz.prog.fieldsOf 24)) := by kernel_rfl
  have ht : Tryz.prog.stoodInHeld 24 = false := by kernel_rfl
  rw [run_eql_struct, show (10000 : Nat) = 9999 + 1 from rfl, run_equalIn_agg w 9999 24 _ _ hs ht]
  simp only [Program.fieldsOf, Tryz.underlying24]
  have u3 := Tryz.underlying3
  have a3 := Tryz.isAgg3
  have u4 := Tryz.underlying2
  have a4 := Tryz.isAgg2
  have u5 := Tryz.underlying9
  have a5 := Tryz.isAgg9
  have uK := Tryz.underlying22
  have aK := Tryz.isAgg22
  go_simp
  simp only [str_eq]
  by_cases h0 : a = a'
  case neg => simp [h0]
  by_cases h1 : s1 = t1
  case neg => simp [h0, h1]
  by_cases h2 : s2 = t2
  case neg => simp [h0, h1, h2]
  by_cases h3 : s3 = t3
  case neg => simp [h0, h1, h2, h3]
  by_cases h4 : s4 = t4
  case neg => simp [h0, h1, h2, h3, h4]
  by_cases h5 : n1 = m1
  case neg => simp [h0, h1, h2, h3, h4, h5]
  by_cases h6 : n2 = m2
  case neg => simp [h0, h1, h2, h3, h4, h5, h6]
  by_cases h7 : n3 = m3
  case neg => simp [h0, h1, h2, h3, h4, h5, h6, h7]
  by_cases h8 : n4 = m4
  case neg => simp [h0, h1, h2, h3, h4, h5, h6, h7, h8]
  by_cases h9 : n5 = m5
  case neg => simp [h0, h1, h2, h3, h4, h5, h6, h7, h8, h9]
  subst h0 h1 h2 h3 h4 h5 h6 h7 h8 h9
  simp
end Go.Proofs.YtckooioikcenmaaGreat

/- Where the reading of a whole begins and ends. Conditions: none. -/
import Derived.Test.YtckooioikcenmaaGreatCkL5
import Derived.Test.YtckooioikcenmaaGreatCkL8
import Derived.Test.YtckooioikcenmaaGreatCkR11
import Derived.Test.YtckooioikcenmaaGreatCkW3
namespace Go.Proofs.YtckooioikcenmaaGreat
open Go.RowKit
theorem RdB.blk {w : World} {v : Value} {ys : List UInt8} (h : RdB w v ys) : ∀ k, Value.readBlock v = some k → k < w.heap.size := by
  intro k hk
  rcases h with ⟨rfl, _⟩ | ⟨b, o, c, rfl, _, _, h3, _⟩
  · cases hk
  · injection hk with hk
    subst hk; exact h3
theorem top_start {T : TypeId} (w : World) (v : Value) (ys : List UInt8) (Z : Array Value) (hr : RdB w v ys) (hl : ys.length ≤ 100000000000) :
    RSt w.heap.size (w.heap.size + 1) (((w.alloc (.cells Z T)).alloc (.cells #[v, .int .i64 0, .bool false] 94)).alloc (.cells Z T)) v ys ⟨0, false⟩ ∧
    (((w.alloc (.cells Z T)).alloc (.cells #[v, .int .i64 0, .bool false] 94)).alloc (.cells Z T)).heap[w.heap.size]? = some (.cells Z T) ∧
    (((w.alloc (.cells Z T)).alloc (.cells #[v, .int .i64 0, .bool false] 94)).alloc (.cells Z T)).heap[w.heap.size + 1 + 1]? = some (.cells Z T) ∧
    Below w.heap.size w (((w.alloc (.cells Z T)).alloc (.cells #[v, .int .i64 0, .bool false] 94)).alloc (.cells Z T)) := by
  have h1 := alloc_at w (.cells Z T)
  have h2 := alloc_at (w.alloc (.cells Z T)) (.cells #[v, .int .i64 0, .bool false] 94)
  have h3 := alloc_at ((w.alloc (.cells Z T)).alloc (.cells #[v, .int .i64 0, .bool false] 94)) (.cells Z T)
  rw [show (w.alloc (.cells Z T)).heap.size = w.heap.size + 1 by simp] at h2
  rw [show ((w.alloc (.cells Z T)).alloc (.cells #[v, .int .i64 0, .bool false] 94)).heap.size = w.heap.size + 1 + 1 by simp] at h3
  have hb : Below w.heap.size w (((w.alloc (.cells Z T)).alloc (.cells #[v, .int .i64 0, .bool false] 94)).alloc (.cells Z T)) :=
    (((Below.refl _ _).alloc (Nat.le_refl _) _).alloc (by simp) _).alloc (by simp; omega) _
  exact ⟨⟨blk_alloc h2 _, hr.below hb, hr.blk, hl, by simp [PosOk], by omega⟩, blk_alloc (blk_alloc h1 _) _, h3, hb⟩
theorem top_start2 {T : TypeId} (w : World) (v : Value) (ys : List UInt8) (Z : Array Value) (hr : RdB w v ys) (hl : ys.length ≤ 100000000000) (W0 : World)
    (hW : W0 = (((w.alloc (.cells Z T)).alloc (.cells #[v, .int .i64 0, .bool false] 94)).alloc (.cells #[.pointer (some ⟨w.heap.size + 1, 0, none⟩)] 92)).alloc (.cells Z T)) :
    RSt w.heap.size (w.heap.size + 1) W0 v ys ⟨0, false⟩ ∧ W0.heap[w.heap.size]? = some (.cells Z T) ∧ W0.heap[w.heap.size + 1 + 1 + 1]? = some (.cells Z T) ∧
    W0.heap[w.heap.size + 1 + 1]? = some (.cells #[.pointer (some ⟨w.heap.size + 1, 0, none⟩)] 92) ∧ Below w.heap.size w W0 := by
  have h1 := alloc_at w (.cells Z T)
  have h2 := alloc_at (w.alloc (.cells Z T)) (.cells #[v, .int .i64 0, .bool false] 94)
  have h3 := alloc_at ((w.alloc (.cells Z T)).alloc (.cells #[v, .int .i64 0, .bool false] 94)) (.cells #[.pointer (some ⟨w.heap.size + 1, 0, none⟩)] 92)
  rw [show (w.alloc (.cells Z T)).heap.size = w.heap.size + 1 by simp] at h2
  rw [show ((w.alloc (.cells Z T)).alloc (.cells #[v, .int .i64 0, .bool false] 94)).heap.size = w.heap.size + 1 + 1 by simp] at h3
  have h5 := alloc_at (((w.alloc (.cells Z T)).alloc (.cells #[v, .int .i64 0, .bool false] 94)).alloc (.cells #[.pointer (some ⟨w.heap.size + 1, 0, none⟩)] 92)) (.cells Z T)
  rw [show (((w.alloc (.cells Z T)).alloc (.cells #[v, .int .i64 0, .bool false] 94)).alloc (.cells #[.pointer (some ⟨w.heap.size + 1, 0, none⟩)] 92)).heap.size = w.heap.size + 1 + 1 + 1 by simp] at h5
  have hb : Below w.heap.size w W0 := by
    rw [hW]
    exact ((((Below.refl _ _).alloc (Nat.le_refl _) _).alloc (by simp) _).alloc (by simp; omega) _).alloc (by simp; omega) _
  subst hW
  refine ⟨⟨blk_alloc (blk_alloc h2 _) _, hr.below hb, hr.blk, hl, by simp [PosOk], by omega⟩, blk_alloc (blk_alloc (blk_alloc h1 _) _) _, h5, blk_alloc h3 _, hb⟩
theorem heap_cells_ne {b k : Nat} (h : k ≠ b) : ∀ (vs : List Value) (o : Nat) (w : World), (w.setCells b o vs).heap[k]? = w.heap[k]?
  | [], _, _ => rfl
  | v :: r, o, w => (heap_cells_ne h r (o + 1) _).trans (Below.heap_setCell _ _ _ _ (fun e => h e))
theorem stay_cells {ts : List TypeId} {w : World} {b : Nat} {cs : Array Value} {T : TypeId} (h : w.heap[b]? = some (.cells cs T)) (hT : T ∉ ts) (vs : List Value) : Stay ts w (w.setCells b 0 vs) := fun k es V fr hV hh => by
  refine (heap_cells_ne ?_ vs 0 w).trans hh
  rintro rfl
  rw [h] at hh
  injection hh with hh
  injection hh with _ hh
  exact hT (hh ▸ hV)
theorem there_at {w : World} {b n : Nat} {Z : Array Value} {T : TypeId} (h : w.heap[b]? = some (.cells Z T)) (hz : Z.size = n) : w.there b 0 n := fun j hj => by
  rw [Nat.zero_add]
  refine ⟨?_, blk_free h j⟩
  rw [blk_cell h, Array.getElem?_eq_getElem (by omega)]
  rfl
/-- what the reading of a whole makes -/
def DecPost {α : Type} (c : Cd α) (m : Mv α) (Z : Array Value) (ys : List UInt8) (w : World) (e : Ending) (w' : World) : Prop :=
  ((c.all ys = true ∧ ∃ us : List Value, e = .returned (.tuple #[.agg us.toArray, .int .i64 0]) ∧ m.rep w'.heap.size w' us (c.rd ys ⟨0, false⟩).1) ∨ (c.all ys = false ∧ e = .returned (.tuple #[.agg Z, .int .i64 10]))) ∧ Below w.heap.size w w'
end Go.Proofs.YtckooioikcenmaaGreat
namespace Go.Proofs.YtckooioikcenmaaGreat
open Go.RowKit
set_option maxRecDepth 20000 in
set_option maxHeartbeats 4000000 in
theorem rdOp_any (v : Value) (ys : List UInt8) (w : World) (hr : RdB w v ys) (hl : ys.length ≤ 100000000000) :
    Calls Tryz.prog 11 #[v] w (DecPost cOp mOp #[.int .u8 0, .string ⟨#[]⟩, .string ⟨#[]⟩, .string ⟨#[]⟩, .string ⟨#[]⟩, .int .i64 0, .int .i64 0, .int .i64 0, .int .i64 0, .int .i64 0] ys w) := by
  obtain ⟨A, cp, rfl, _, _⟩ := hr.form
  go_enter Tryz.func11, Tryz.ntmps11
  go_wp2_with fail
  generalize hvf : Value.slice A ys.length cp = v at *
  obtain ⟨hs0, hr0, hk0, hbel⟩ := top_start (T := 24) w v ys #[.int .u8 0, .string ⟨#[]⟩, .string ⟨#[]⟩, .string ⟨#[]⟩, .string ⟨#[]⟩, .int .i64 0, .int .i64 0, .int .i64 0, .int .i64 0, .int .i64 0] hr hl
  have hne : w.heap.size + 1 ≠ w.heap.size + 1 + 1 := by omega
  have hb : w.heap.size ≤ w.heap.size + 1 + 1 := by omega
  have hz1 : w.heap.size ≠ w.heap.size + 1 := by omega
  have hz2 : w.heap.size ≠ w.heap.size + 1 + 1 := by omega
  have hzr : w.heap.size ≤ w.heap.size + 1 := by omega
  have hsz : (World.heap (((w.alloc (.cells #[.int .u8 0, .string ⟨#[]⟩, .string ⟨#[]⟩, .string ⟨#[]⟩, .string ⟨#[]⟩, .int .i64 0, .int .i64 0, .int .i64 0, .int .i64 0, .int .i64 0] 24)).alloc (.cells #[v, .int .i64 0, .bool false] 94)).alloc (.cells #[.int .u8 0, .string ⟨#[]⟩, .string ⟨#[]⟩, .string ⟨#[]⟩, .string ⟨#[]⟩, .int .i64 0, .int .i64 0, .int .i64 0, .int .i64 0, .int .i64 0] 24))).size = w.heap.size + 1 + 1 + 1 := by simp
  have hP2 : ∀ b, b = w.heap.size → ∀ e w', ((cOp.all ys = true ∧ ∃ us : List Value, e = .returned (.tuple #[.agg us.toArray, .int .i64 0]) ∧ mOp.rep w'.heap.size w' us (cOp.rd ys ⟨0, false⟩).1) ∨ (cOp.all ys = false ∧ e = .returned (.tuple #[.agg #[.int .u8 0, .string ⟨#[]⟩, .string ⟨#[]⟩, .string ⟨#[]⟩, .string ⟨#[]⟩, .int .i64 0, .int .i64 0, .int .i64 0, .int .i64 0, .int .i64 0], .int .i64 10]))) → Below b w w' → DecPost cOp mOp #[.int .u8 0, .string ⟨#[]⟩, .string ⟨#[]⟩, .string ⟨#[]⟩, .string ⟨#[]⟩, .int .i64 0, .int .i64 0, .int .i64 0, .int .i64 0, .int .i64 0] ys w e w' := by
    rintro b rfl e w' h1 h2
    exact ⟨h1, h2⟩
  generalize hWW : ((w.alloc (.cells #[.int .u8 0, .string ⟨#[]⟩, .string ⟨#[]⟩, .string ⟨#[]⟩, .string ⟨#[]⟩, .int .i64 0, .int .i64 0, .int .i64 0, .int .i64 0, .int .i64 0] 24)).alloc (.cells #[v, .int .i64 0, .bool false] 94)).alloc (.cells #[.int .u8 0, .string ⟨#[]⟩, .string ⟨#[]⟩, .string ⟨#[]⟩, .string ⟨#[]⟩, .int .i64 0, .int .i64 0, .int .i64 0, .int .i64 0, .int .i64 0] 24) = W0 at *
  clear hWW
  obtain ⟨K, hKE⟩ : ∃ K, w.heap.size + 1 + 1 = K := ⟨_, rfl⟩
  simp only [hKE] at *
  obtain ⟨r, hrE⟩ : ∃ K, w.heap.size + 1 = K := ⟨_, rfl⟩
  simp only [hrE] at *
  obtain ⟨base, hbE⟩ : ∃ K, w.heap.size = K := ⟨_, rfl⟩
  simp only [hbE] at *
  have HS0 := Lib.hid hs0
  have HK0 := Lib.hid hk0
  have HZ := Lib.hid hr0
  have HBEL := Lib.hid hbel
  have HC0 : Hid (Chg r K W0 W0) := Chg.refl _ _ _
  have HP := Lib.hid (hP2 base rfl)
  clear hs0 hk0 hr0 hbel hP2 hr hl
  refine (small_any base r v ys ⟨0, false⟩ _ HS0.out).mono ?_
  rintro e y1 ⟨rfl, hst, hg⟩
  have hst2 : RSt base r y1 v ys (cB.rd ys ⟨0, false⟩).2 := hst
  obtain ⟨qdo, e1⟩ : ∃ z, (cB.rd ys ⟨0, false⟩).1 = z := ⟨_, rfl⟩
  obtain ⟨s0, e2⟩ : ∃ z, (cB.rd ys ⟨0, false⟩).2 = z := ⟨_, rfl⟩
  rw [show (rdB ys ⟨0, false⟩).1 = qdo from e1]
  rw [e2] at hst2
  have F0 := Lib.hid e1
  have G0 := Lib.hid e2
  clear e1 e2
  have hk := (Chg.grown (K := K) hg)
  have hk2 : y1.heap[K]? = some (.cells #[.int .u8 0, .string ⟨#[]⟩, .string ⟨#[]⟩, .string ⟨#[]⟩, .string ⟨#[]⟩, .int .i64 0, .int .i64 0, .int .i64 0, .int .i64 0, .int .i64 0] 24) := (hg.block K (blk_lt HK0.out) (fun e => hne (by injection e with e; exact e.symm))).trans HK0.out
  have q := blk_cell hk2 0
  have qf := blk_free hk2 0
  simp at q
  have HS1 : Hid (RSt base r (y1.setCell ⟨K, 0, none⟩ (.int .u8 qdo)) v ys s0) := hst2.set hb hne _ _
  have HK1 : Hid ((World.heap (y1.setCell ⟨K, 0, none⟩ (.int .u8 qdo)))[K]? = some (.cells #[.int .u8 qdo, .string ⟨#[]⟩, .string ⟨#[]⟩, .string ⟨#[]⟩, .string ⟨#[]⟩, .int .i64 0, .int .i64 0, .int .i64 0, .int .i64 0, .int .i64 0] 24)) := blk_set hk2 0 _
  have HCs : Hid (Chg r K W0 (y1.setCell ⟨K, 0, none⟩ (.int .u8 qdo))) := (Chg.grown hg).setK _ _
  have HC1 := Lib.hid (HC0.out.trans HCs.out)
  clear hst hst2 hg hk hk2 HCs HS0 HK0 HC0
  have HSA : Hid (RSt base r (World.alloc (y1.setCell ⟨K, 0, none⟩ (.int .u8 qdo)) (.cells #[.pointer (some ⟨K, 1, none⟩), .pointer (some ⟨K, 2, none⟩), .pointer (some ⟨K, 3, none⟩), .pointer (some ⟨K, 4, none⟩)] 97)) v ys s0) := HS1.out.alloc _
  have HKA : Hid ((World.heap (World.alloc (y1.setCell ⟨K, 0, none⟩ (.int .u8 qdo)) (.cells #[.pointer (some ⟨K, 1, none⟩), .pointer (some ⟨K, 2, none⟩), .pointer (some ⟨K, 3, none⟩), .pointer (some ⟨K, 4, none⟩)] 97)))[K]? = some (.cells #[.int .u8 qdo, .string ⟨#[]⟩, .string ⟨#[]⟩, .string ⟨#[]⟩, .string ⟨#[]⟩, .int .i64 0, .int .i64 0, .int .i64 0, .int .i64 0, .int .i64 0] 24)) := blk_alloc (w := (y1.setCell ⟨K, 0, none⟩ (.int .u8 qdo))) HK1.out _
  have HEL : Hid (ElemsAt (World.alloc (y1.setCell ⟨K, 0, none⟩ (.int .u8 qdo)) (.cells #[.pointer (some ⟨K, 1, none⟩), .pointer (some ⟨K, 2, none⟩), .pointer (some ⟨K, 3, none⟩), .pointer (some ⟨K, 4, none⟩)] 97)) (World.heap y1).size 97 (ptrs K [1, 2, 3, 4])) := by have q := elems_alloc (y1.setCell ⟨K, 0, none⟩ (.int .u8 qdo)) 97 [.pointer (some ⟨K, 1, none⟩), .pointer (some ⟨K, 2, none⟩), .pointer (some ⟨K, 3, none⟩), .pointer (some ⟨K, 4, none⟩)]; rw [show (World.heap (y1.setCell ⟨K, 0, none⟩ (.int .u8 qdo))).size = (World.heap y1).size by simp] at q; exact q
  have HBR : Hid ((World.heap y1).size ≠ r) := by have := HS1.out.lt; rw [show (World.heap (y1.setCell ⟨K, 0, none⟩ (.int .u8 qdo))).size = (World.heap y1).size by simp] at this; show _ ≠ _; omega
  have HBK : Hid ((World.heap y1).size ≠ K) := by have := blk_lt HK1.out; rw [show (World.heap (y1.setCell ⟨K, 0, none⟩ (.int .u8 qdo))).size = (World.heap y1).size by simp] at this; show _ ≠ _; omega
  go_wp2_with fail
  refine (textsR_any base r K _ v ys s0 24 #[.int .u8 qdo, .string ⟨#[]⟩, .string ⟨#[]⟩, .string ⟨#[]⟩, .string ⟨#[]⟩, .int .i64 0, .int .i64 0, .int .i64 0, .int .i64 0, .int .i64 0] [1, 2, 3, 4] 4 rfl _ HSA.out HKA.out hb hne HEL.out HBR.out HBK.out (all4 rfl rfl rfl rfl) (by decide) (by omega)).mono ?_
  rintro e y2 ⟨rfl, hst, hk, hc⟩
  have hst2 : RSt base r y2 v ys ((cS.rd ys ((cS.rd ys ((cS.rd ys ((cS.rd ys (s0)).2)).2)).2)).2) := hst
  have hk2 : y2.heap[K]? = some (.cells #[.int .u8 qdo, .string ((cS.rd ys (s0)).1), .string ((cS.rd ys ((cS.rd ys (s0)).2)).1), .string ((cS.rd ys ((cS.rd ys ((cS.rd ys (s0)).2)).2)).1), .string ((cS.rd ys ((cS.rd ys ((cS.rd ys ((cS.rd ys (s0)).2)).2)).2)).1), .int .i64 0, .int .i64 0, .int .i64 0, .int .i64 0, .int .i64 0] 24) := hk
  obtain ⟨qi, e1⟩ : ∃ z, (cS.rd ys (s0)).1 = z := ⟨_, rfl⟩
  obtain ⟨s1, e2⟩ : ∃ z, (cS.rd ys (s0)).2 = z := ⟨_, rfl⟩
  simp only [e1, e2] at hst2 hk2
  have F1 := Lib.hid e1
  have G1 := Lib.hid e2
  clear e1 e2
  obtain ⟨qq, e1⟩ : ∃ z, (cS.rd ys (s1)).1 = z := ⟨_, rfl⟩
  obtain ⟨s2, e2⟩ : ∃ z, (cS.rd ys (s1)).2 = z := ⟨_, rfl⟩
  simp only [e1, e2] at hst2 hk2
  have F2 := Lib.hid e1
  have G2 := Lib.hid e2
  clear e1 e2
  obtain ⟨qp, e1⟩ : ∃ z, (cS.rd ys (s2)).1 = z := ⟨_, rfl⟩
  obtain ⟨s3, e2⟩ : ∃ z, (cS.rd ys (s2)).2 = z := ⟨_, rfl⟩
  simp only [e1, e2] at hst2 hk2
  have F3 := Lib.hid e1
  have G3 := Lib.hid e2
  clear e1 e2
  obtain ⟨qt, e1⟩ : ∃ z, (cS.rd ys (s3)).1 = z := ⟨_, rfl⟩
  obtain ⟨s4, e2⟩ : ∃ z, (cS.rd ys (s3)).2 = z := ⟨_, rfl⟩
  simp only [e1, e2] at hst2 hk2
  have F4 := Lib.hid e1
  have G4 := Lib.hid e2
  clear e1 e2
  have HS2 := Lib.hid hst2
  have HK2 := Lib.hid hk2
  have HCs : Hid (Chg r K (y1.setCell ⟨K, 0, none⟩ (.int .u8 qdo)) y2) := (((Chg.refl r K (y1.setCell ⟨K, 0, none⟩ (.int .u8 qdo))).alloc _)).trans hc
  have HC2 := Lib.hid (HC1.out.trans HCs.out)
  clear hst hst2 hk hk2 hc HCs HSA HKA HEL HBR HBK HS1 HK1 HC1
  have HSA : Hid (RSt base r (World.alloc y2 (.cells #[.pointer (some ⟨K, 5, none⟩), .pointer (some ⟨K, 6, none⟩)] 99)) v ys s4) := HS2.out.alloc _
  have HKA : Hid ((World.heap (World.alloc y2 (.cells #[.pointer (some ⟨K, 5, none⟩), .pointer (some ⟨K, 6, none⟩)] 99)))[K]? = some (.cells #[.int .u8 qdo, .string qi, .string qq, .string qp, .string qt, .int .i64 0, .int .i64 0, .int .i64 0, .int .i64 0, .int .i64 0] 24)) := blk_alloc (w := y2) HK2.out _
  have HEL : Hid (ElemsAt (World.alloc y2 (.cells #[.pointer (some ⟨K, 5, none⟩), .pointer (some ⟨K, 6, none⟩)] 99)) (World.heap y2).size 99 (ptrs K [5, 6])) := elems_alloc y2 99 [.pointer (some ⟨K, 5, none⟩), .pointer (some ⟨K, 6, none⟩)]
  have HBR : Hid ((World.heap y2).size ≠ r) := by have := HS2.out.lt; show _ ≠ _; omega
  have HBK : Hid ((World.heap y2).size ≠ K) := by have := blk_lt HK2.out; show _ ≠ _; omega
  go_wp2_with fail
  refine (numbersR_any base r K _ v ys s4 24 #[.int .u8 qdo, .string qi, .string qq, .string qp, .string qt, .int .i64 0, .int .i64 0, .int .i64 0, .int .i64 0, .int .i64 0] [5, 6] 2 rfl _ HSA.out HKA.out hb hne HEL.out HBR.out HBK.out (all2 ⟨_, rfl⟩ ⟨_, rfl⟩) (by decide) (by omega)).mono ?_
  rintro e y3 ⟨rfl, hst, hk, hc⟩
  have hst2 : RSt base r y3 v ys ((cI.rd ys ((cI.rd ys (s4)).2)).2) := hst
  have hk2 : y3.heap[K]? = some (.cells #[.int .u8 qdo, .string qi, .string qq, .string qp, .string qt, .int .i64 ((cI.rd ys (s4)).1), .int .i64 ((cI.rd ys ((cI.rd ys (s4)).2)).1), .int .i64 0, .int .i64 0, .int .i64 0] 24) := hk
  obtain ⟨qa, e1⟩ : ∃ z, (cI.rd ys (s4)).1 = z := ⟨_, rfl⟩
  obtain ⟨s5, e2⟩ : ∃ z, (cI.rd ys (s4)).2 = z := ⟨_, rfl⟩
  simp only [e1, e2] at hst2 hk2
  have F5 := Lib.hid e1
  have G5 := Lib.hid e2
  clear e1 e2
  obtain ⟨qj, e1⟩ : ∃ z, (cI.rd ys (s5)).1 = z := ⟨_, rfl⟩
  obtain ⟨s6, e2⟩ : ∃ z, (cI.rd ys (s5)).2 = z := ⟨_, rfl⟩
  simp only [e1, e2] at hst2 hk2
  have F6 := Lib.hid e1
  have G6 := Lib.hid e2
  clear e1 e2
  have HS3 := Lib.hid hst2
  have HK3 := Lib.hid hk2
  have HCs : Hid (Chg r K y2 y3) := (((Chg.refl r K y2).alloc _)).trans hc
  have HC3 := Lib.hid (HC2.out.trans HCs.out)
  clear hst hst2 hk hk2 hc HCs HSA HKA HEL HBR HBK HS2 HK2 HC2
  have HSA : Hid (RSt base r (World.alloc y3 (.cells #[.pointer (some ⟨K, 7, none⟩), .pointer (some ⟨K, 8, none⟩), .pointer (some ⟨K, 9, none⟩)] 101)) v ys s6) := HS3.out.alloc _
  have HKA : Hid ((World.heap (World.alloc y3 (.cells #[.pointer (some ⟨K, 7, none⟩), .pointer (some ⟨K, 8, none⟩), .pointer (some ⟨K, 9, none⟩)] 101)))[K]? = some (.cells #[.int .u8 qdo, .string qi, .string qq, .string qp, .string qt, .int .i64 qa, .int .i64 qj, .int .i64 0, .int .i64 0, .int .i64 0] 24)) := blk_alloc (w := y3) HK3.out _
  have HEL : Hid (ElemsAt (World.alloc y3 (.cells #[.pointer (some ⟨K, 7, none⟩), .pointer (some ⟨K, 8, none⟩), .pointer (some ⟨K, 9, none⟩)] 101)) (World.heap y3).size 101 (ptrs K [7, 8, 9])) := elems_alloc y3 101 [.pointer (some ⟨K, 7, none⟩), .pointer (some ⟨K, 8, none⟩), .pointer (some ⟨K, 9, none⟩)]
  have HBR : Hid ((World.heap y3).size ≠ r) := by have := HS3.out.lt; show _ ≠ _; omega
  have HBK : Hid ((World.heap y3).size ≠ K) := by have := blk_lt HK3.out; show _ ≠ _; omega
  go_wp2_with fail
  refine (intsR_any base r K _ v ys s6 24 #[.int .u8 qdo, .string qi, .string qq, .string qp, .string qt, .int .i64 qa, .int .i64 qj, .int .i64 0, .int .i64 0, .int .i64 0] [7, 8, 9] 3 rfl _ HSA.out HKA.out hb hne HEL.out HBR.out HBK.out (all3 ⟨_, rfl⟩ ⟨_, rfl⟩ ⟨_, rfl⟩) (by decide) (by omega)).mono ?_
  rintro e y4 ⟨rfl, hst, hk, hc⟩
  have hst2 : RSt base r y4 v ys ((cI.rd ys ((cI.rd ys ((cI.rd ys (s6)).2)).2)).2) := hst
  have hk2 : y4.heap[K]? = some (.cells #[.int .u8 qdo, .string qi, .string qq, .string qp, .string qt, .int .i64 qa, .int .i64 qj, .int .i64 ((cI.rd ys (s6)).1), .int .i64 ((cI.rd ys ((cI.rd ys (s6)).2)).1), .int .i64 ((cI.rd ys ((cI.rd ys ((cI.rd ys (s6)).2)).2)).1)] 24) := hk
  obtain ⟨qs, e1⟩ : ∃ z, (cI.rd ys (s6)).1 = z := ⟨_, rfl⟩
  obtain ⟨s7, e2⟩ : ∃ z, (cI.rd ys (s6)).2 = z := ⟨_, rfl⟩
  simp only [e1, e2] at hst2 hk2
  have F7 := Lib.hid e1
  have G7 := Lib.hid e2
  clear e1 e2
  obtain ⟨qw, e1⟩ : ∃ z, (cI.rd ys (s7)).1 = z := ⟨_, rfl⟩
  obtain ⟨s8, e2⟩ : ∃ z, (cI.rd ys (s7)).2 = z := ⟨_, rfl⟩
  simp only [e1, e2] at hst2 hk2
  have F8 := Lib.hid e1
  have G8 := Lib.hid e2
  clear e1 e2
  obtain ⟨qm, e1⟩ : ∃ z, (cI.rd ys (s8)).1 = z := ⟨_, rfl⟩
  obtain ⟨s9, e2⟩ : ∃ z, (cI.rd ys (s8)).2 = z := ⟨_, rfl⟩
  simp only [e1, e2] at hst2 hk2
  have F9 := Lib.hid e1
  have G9 := Lib.hid e2
  clear e1 e2
  have HS4 := Lib.hid hst2
  have HK4 := Lib.hid hk2
  have HCs : Hid (Chg r K y3 y4) := (((Chg.refl r K y3).alloc _)).trans hc
  have HC4 := Lib.hid (HC3.out.trans HCs.out)
  clear hst hst2 hk hk2 hc HCs HSA HKA HEL HBR HBK HS3 HK3 HC3
  have HD : Hid (cOp.rd ys ⟨0, false⟩ = ((qdo, qi, qq, qp, qt, qa, qj, qs, qw, qm), s9)) := by
    show _ = _
    simp only [cOp, cSeq, F0.out, G0.out, F1.out, G1.out, F2.out, G2.out, F3.out, G3.out, F4.out, G4.out, F5.out, G5.out, F6.out, G6.out, F7.out, G7.out, F8.out, G8.out, F9.out, G9.out]
  have HOW : Hid (mOp.own base y4 [.int .u8 qdo, .string qi, .string qq, .string qp, .string qt, .int .i64 qa, .int .i64 qj, .int .i64 qs, .int .i64 qw, .int .i64 qm] (qdo, qi, qq, qp, qt, qa, qj, qs, qw, qm)) := mOp_mk
  have HZN := Lib.hid (HC4.out.blk HZ.out hz1 hz2)
  obtain ⟨pE, bE⟩ := s9
  have e1 := blk_cell HS4.out.rd 1
  have e2 := blk_cell HS4.out.rd 2
  simp at e1 e2
  have HTH : Hid (World.there y4 base 0 10) := there_at HZN.out rfl
  have hB : base ≤ W0.heap.size := by rw [hsz]; omega
  have HBL := Lib.hid (HBEL.out.trans (HC4.out.below hzr hb hB))
  have HALL : Hid (cOp.all ys = (!bE && decide (pE = ys.length))) := by show _ = _; unfold Cd.all; rw [HD.out]
  have HX : Hid ((cOp.rd ys ⟨0, false⟩).1 = (qdo, qi, qq, qp, qt, qa, qj, qs, qw, qm)) := by show _ = _; rw [HD.out]
  obtain ⟨ua, hua⟩ : ∃ ua : Array Value, ua = #[.int .u8 qdo, .string qi, .string qq, .string qp, .string qt, .int .i64 qa, .int .i64 qj, .int .i64 qs, .int .i64 qw, .int .i64 qm] := ⟨_, rfl⟩
  have HOW2 : Hid (mOp.own base y4 ua.toList (cOp.rd ys ⟨0, false⟩).1) := by show mOp.own _ _ _ _; rw [hua, HX.out]; exact HOW.out
  have HKU : Hid (y4.heap[K]? = some (.cells ua 24)) := by show _ = _; rw [hua]; exact HK4.out
  have HRG : Hid (World.rangeAt y4 K 0 ua.toList) := fun j u hj => by rw [blk_cell HKU.out]; simpa using hj
  have hul : ua.size = 10 := by rw [hua]; rfl
  have hone : Hid (ua.all (·.oneCell') = true) := Array.all_eq_true_iff_forall_mem.2 (fun u hu => mOp_law.cell HOW2.out u (by simpa using hu))
  have hi1 : Hid ((Tryz.prog.info? 24).map (·.size) = some ua.toList.length) := by show _ = _; rw [Array.length_toList, hul]; kernel_rfl
  have hi2 : Hid ((Tryz.prog.info? 24).map (·.size) = some ua.size) := by show _ = _; rw [hul]; kernel_rfl
  have HTU : Hid (World.there y4 base 0 ua.size) := by show World.there _ _ _ _; rw [hul]; exact HTH.out
  obtain ⟨za, hza⟩ : ∃ za : Array Value, za = #[.int .u8 0, .string ⟨#[]⟩, .string ⟨#[]⟩, .string ⟨#[]⟩, .string ⟨#[]⟩, .int .i64 0, .int .i64 0, .int .i64 0, .int .i64 0, .int .i64 0] := ⟨_, rfl⟩
  have HZA := Lib.hid hza
  have hzl : za.size = 10 := by rw [hza]; rfl
  have hzo : Hid (za.all (·.oneCell') = true) := by show _ = _; rw [hza]; simp [Value.oneCell']
  have hi3 : Hid ((Tryz.prog.info? 24).map (·.size) = some za.size) := by show _ = _; rw [hzl]; kernel_rfl
  have hi4 : Hid ((Tryz.prog.info? 24).map (·.size) = some za.toList.length) := by show _ = _; rw [Array.length_toList, hzl]; kernel_rfl
  have HTZ : Hid (World.there y4 base 0 za.size) := by show World.there _ _ _ _; rw [hzl]; exact HTH.out
  have hbt : Tryz.prog.built 24 [] = some (#[.int .u8 0, .string ⟨#[]⟩, .string ⟨#[]⟩, .string ⟨#[]⟩, .string ⟨#[]⟩, .int .i64 0, .int .i64 0, .int .i64 0, .int .i64 0, .int .i64 0] : Array Value) := by kernel_rfl
  have HBT : Hid (∀ a : Act, Tryz.prog.built 24 ((#[] : Array (Nat × Operand)).map fun (i, x) => (i, a.eval x)).toList = some za) := by intro a; rw [hza]; simpa using hbt
  clear hza hzl hbt
  clear hua HOW HK4 hul hB HC4 HZ HBEL
  subst hvf
  by_cases hgood : bE = false ∧ pE = ys.length
  · obtain ⟨rfl, rfl⟩ := hgood
    have HLV := Lib.hid (run_loadVar_mid (P := Tryz.prog) (World.setCells y4 base 0 ua.toList) base 0 24 ua.toList _ (World.rangeAt_setCells_same _ _ _ _ (by rw [Array.length_toList]; exact HTU.out)) Tryz.underlying24 rfl hi1.out)
    go_wp2_with (first
      | (with_reducible refine wpList_load_mid rfl 24 (.tmp 5) rfl K 0 rfl ua.toList _ HRG.out Tryz.underlying24 rfl hi1.out ?_)
      | (with_reducible refine wpList_store_mid rfl 24 (.tmp 2) (.tmp 44) rfl base 0 ua rfl rfl HTU.out hi2.out hone.out ?_))
    have hlv := HLV.out
    simp only [Array.toArray_toList] at hlv
    refine bodyPost_ret (v := .tuple #[.agg ua, .int .i64 0]) ?_ rfl ?_
    · simp [results, Tryz.results11, asAddr, hlv]
    refine HP.out _ _ (.inl ⟨by rw [HALL.out]; simp, ua.toList, by simp, ?_⟩) (below_cells (Nat.le_refl _) _ _ _ HBL.out)
    exact mOp_law.toRep (mOp_law.okeep HOW2.out (stay_cells HZN.out (by decide) _))
  · have HF : Hid (cOp.all ys = false) := by show _ = _; rw [HALL.out]; cases bE <;> simp_all
    have HLV := Lib.hid (run_loadVar_mid (P := Tryz.prog) (World.setCells y4 base 0 za.toList) base 0 24 za.toList _ (World.rangeAt_setCells_same _ _ _ _ (by rw [Array.length_toList]; exact HTZ.out)) Tryz.underlying24 rfl hi4.out)
    have HS2 : Hid (bE = true ∨ bE = false ∧ pE ≠ ys.length) := by show _ ∨ _; cases bE <;> simp_all
    clear HALL hgood
    rcases HS2.out with rfl | ⟨rfl, hpne⟩
    · go_wp2_with (first
        | (with_reducible refine wpList_buildTo rfl 24 #[] rfl (some 43) rfl za (HBT.out _) ?_)
        | (with_reducible refine wpList_store_mid rfl 24 (.tmp 2) (.tmp 43) rfl base 0 za rfl rfl HTZ.out hi3.out hzo.out ?_))
      have hlv := HLV.out
      simp only [Array.toArray_toList] at hlv
      refine bodyPost_ret (v := .tuple #[.agg za, .int .i64 10]) ?_ rfl ?_
      · simp [results, Tryz.results11, asAddr, hlv]
      exact HP.out _ _ (.inr ⟨HF.out, by rw [HZA.out]⟩) (below_cells (Nat.le_refl _) _ _ _ HBL.out)
    · go_wp2_with (first
        | (with_reducible refine wpList_buildTo rfl 24 #[] rfl (some 43) rfl za (HBT.out _) ?_)
        | (with_reducible refine wpList_store_mid rfl 24 (.tmp 2) (.tmp 43) rfl base 0 za rfl rfl HTZ.out hi3.out hzo.out ?_))
      have hlv := HLV.out
      simp only [Array.toArray_toList] at hlv
      refine bodyPost_ret (v := .tuple #[.agg za, .int .i64 10]) ?_ rfl ?_
      · simp [results, Tryz.results11, asAddr, hlv]
      exact HP.out _ _ (.inr ⟨HF.out, by rw [HZA.out]⟩) (below_cells (Nat.le_refl _) _ _ _ HBL.out)
end Go.Proofs.YtckooioikcenmaaGreat
namespace Go.Proofs.YtckooioikcenmaaGreat
open Go.RowKit
set_option maxRecDepth 20000 in
set_option maxHeartbeats 4000000 in
theorem rdShop_any (v : Value) (ys : List UInt8) (w : World) (hr : RdB w v ys) (hl : ys.length ≤ 100000000000) :
    Calls Tryz.prog 13 #[v] w (DecPost cShop mShop #[.int .i64 0, .slice none 0 0, .int .i64 0, .slice none 0 0, .int .i64 0, .bool false, .slice none 0 0, .slice none 0 0, .int .i64 0, .slice none 0 0, .bool false] ys w) := by
  obtain ⟨A, cp, rfl, _, _⟩ := hr.form
  go_enter Tryz.func13, Tryz.ntmps13
  go_wp2_with fail
  generalize hvf : Value.slice A ys.length cp = v at *
  obtain ⟨hs0, hr0, hk0, hb0, hbel⟩ := top_start2 (T := 35) w v ys #[.int .i64 0, .slice none 0 0, .int .i64 0, .slice none 0 0, .int .i64 0, .bool false, .slice none 0 0, .slice none 0 0, .int .i64 0, .slice none 0 0, .bool false] hr hl _ rfl
  have hne : w.heap.size + 1 ≠ w.heap.size + 1 + 1 + 1 := by omega
  have hb : w.heap.size ≤ w.heap.size + 1 + 1 + 1 := by omega
  have hrr : w.heap.size + 1 + 1 ≠ w.heap.size + 1 := by omega
  have hrK : w.heap.size + 1 + 1 ≠ w.heap.size + 1 + 1 + 1 := by omega
  have hz1 : w.heap.size ≠ w.heap.size + 1 := by omega
  have hz2 : w.heap.size ≠ w.heap.size + 1 + 1 + 1 := by omega
  have hzr : w.heap.size ≤ w.heap.size + 1 := by omega
  have hsz : (World.heap ((((w.alloc (.cells #[.int .i64 0, .slice none 0 0, .int .i64 0, .slice none 0 0, .int .i64 0, .bool false, .slice none 0 0, .slice none 0 0, .int .i64 0, .slice none 0 0, .bool false] 35)).alloc (.cells #[v, .int .i64 0, .bool false] 94)).alloc (.cells #[.pointer (some ⟨w.heap.size + 1, 0, none⟩)] 92)).alloc (.cells #[.int .i64 0, .slice none 0 0, .int .i64 0, .slice none 0 0, .int .i64 0, .bool false, .slice none 0 0, .slice none 0 0, .int .i64 0, .slice none 0 0, .bool false] 35))).size = w.heap.size + 1 + 1 + 1 + 1 := by simp
  have hP2 : ∀ b, b = w.heap.size → ∀ e w', ((cShop.all ys = true ∧ ∃ us : List Value, e = .returned (.tuple #[.agg us.toArray, .int .i64 0]) ∧ mShop.rep w'.heap.size w' us (cShop.rd ys ⟨0, false⟩).1) ∨ (cShop.all ys = false ∧ e = .returned (.tuple #[.agg #[.int .i64 0, .slice none 0 0, .int .i64 0, .slice none 0 0, .int .i64 0, .bool false, .slice none 0 0, .slice none 0 0, .int .i64 0, .slice none 0 0, .bool false], .int .i64 10]))) → Below b w w' → DecPost cShop mShop #[.int .i64 0, .slice none 0 0, .int .i64 0, .slice none 0 0, .int .i64 0, .bool false, .slice none 0 0, .slice none 0 0, .int .i64 0, .slice none 0 0, .bool false] ys w e w' := by
    rintro b rfl e w' h1 h2
    exact ⟨h1, h2⟩
  generalize hWW : (((w.alloc (.cells #[.int .i64 0, .slice none 0 0, .int .i64 0, .slice none 0 0, .int .i64 0, .bool false, .slice none 0 0, .slice none 0 0, .int .i64 0, .slice none 0 0, .bool false] 35)).alloc (.cells #[v, .int .i64 0, .bool false] 94)).alloc (.cells #[.pointer (some ⟨w.heap.size + 1, 0, none⟩)] 92)).alloc (.cells #[.int .i64 0, .slice none 0 0, .int .i64 0, .slice none 0 0, .int .i64 0, .bool false, .slice none 0 0, .slice none 0 0, .int .i64 0, .slice none 0 0, .bool false] 35) = W0 at *
  clear hWW
  obtain ⟨K, hKE⟩ : ∃ K, w.heap.size + 1 + 1 + 1 = K := ⟨_, rfl⟩
  simp only [hKE] at *
  obtain ⟨rb, hrbE⟩ : ∃ K, w.heap.size + 1 + 1 = K := ⟨_, rfl⟩
  simp only [hrbE] at *
  obtain ⟨r, hrE⟩ : ∃ K, w.heap.size + 1 = K := ⟨_, rfl⟩
  simp only [hrE] at *
  obtain ⟨base, hbE⟩ : ∃ K, w.heap.size = K := ⟨_, rfl⟩
  simp only [hbE] at *
  have HS0 := Lib.hid hs0
  have HK0 := Lib.hid hk0
  have HZ := Lib.hid hr0
  have HBEL := Lib.hid hbel
  have HC0 : Hid (Chg r K W0 W0) := Chg.refl _ _ _
  have HP := Lib.hid (hP2 base rfl)
  have HRB0 := Lib.hid hb0
  clear hs0 hk0 hr0 hbel hP2 hr hl hb0
  have z0 := blk_cell HRB0.out 0
  simp at z0
  have HSA : Hid (RSt base r (World.alloc W0 (.cells #[.pointer (some ⟨K, 0, none⟩)] 99)) v ys ⟨0, false⟩) := HS0.out.alloc _
  have HKA : Hid ((World.heap (World.alloc W0 (.cells #[.pointer (some ⟨K, 0, none⟩)] 99)))[K]? = some (.cells #[.int .i64 0, .slice none 0 0, .int .i64 0, .slice none 0 0, .int .i64 0, .bool false, .slice none 0 0, .slice none 0 0, .int .i64 0, .slice none 0 0, .bool false] 35)) := blk_alloc (w := W0) HK0.out _
  have HEL : Hid (ElemsAt (World.alloc W0 (.cells #[.pointer (some ⟨K, 0, none⟩)] 99)) (World.heap W0).size 99 (ptrs K [0])) := elems_alloc W0 99 [.pointer (some ⟨K, 0, none⟩)]
  have HBR : Hid ((World.heap W0).size ≠ r) := by have := HS0.out.lt; show _ ≠ _; omega
  have HBK : Hid ((World.heap W0).size ≠ K) := by have := blk_lt HK0.out; show _ ≠ _; omega
  rw [hsz] at HEL HBR HBK
  refine (numbersR_any base r K _ v ys ⟨0, false⟩ 35 #[.int .i64 0, .slice none 0 0, .int .i64 0, .slice none 0 0, .int .i64 0, .bool false, .slice none 0 0, .slice none 0 0, .int .i64 0, .slice none 0 0, .bool false] [0] 1 rfl _ HSA.out HKA.out hb hne HEL.out HBR.out HBK.out (all1 ⟨_, rfl⟩) (by decide) (by omega)).mono ?_
  rintro e y1 ⟨rfl, hst, hk, hc⟩
  have HRB1 := Lib.hid (hc.blk (blk_alloc (w := W0) HRB0.out _) hrr hrK)
  clear z0
  have hst2 : RSt base r y1 v ys ((cI.rd ys (⟨0, false⟩)).2) := hst
  have hk2 : y1.heap[K]? = some (.cells #[.int .i64 ((cI.rd ys (⟨0, false⟩)).1), .slice none 0 0, .int .i64 0, .slice none 0 0, .int .i64 0, .bool false, .slice none 0 0, .slice none 0 0, .int .i64 0, .slice none 0 0, .bool false] 35) := hk
  obtain ⟨qnow, e1⟩ : ∃ z, (cI.rd ys (⟨0, false⟩)).1 = z := ⟨_, rfl⟩
  obtain ⟨s0, e2⟩ : ∃ z, (cI.rd ys (⟨0, false⟩)).2 = z := ⟨_, rfl⟩
  simp only [e1, e2] at hst2 hk2
  have F0 := Lib.hid e1
  have G0 := Lib.hid e2
  clear e1 e2
  have HS1 := Lib.hid hst2
  have HK1 := Lib.hid hk2
  have HCs : Hid (Chg r K W0 y1) := (((Chg.refl r K W0).alloc _)).trans hc
  have HC1 := Lib.hid (HC0.out.trans HCs.out)
  clear hst hst2 hk hk2 hc HCs HSA HKA HEL HBR HBK HS0 HK0 HC0 HRB0
  have z0 := blk_cell HRB1.out 0
  simp at z0
  go_wp2_with fail
  refine (rlRec_any base r v ys s0 _ HS1.out).mono ?_
  rintro e y2 ⟨Aqrs, cqrs, rfl, hst2, hown, hg⟩
  obtain ⟨qrs, e1⟩ : ∃ z, ((cL cRec).rd ys s0).1 = z := ⟨_, rfl⟩
  obtain ⟨s1, e2⟩ : ∃ z, ((cL cRec).rd ys s0).2 = z := ⟨_, rfl⟩
  rw [e1] at hown ⊢
  rw [e2] at hst2
  have F1 := Lib.hid e1
  have G1 := Lib.hid e2
  clear e1 e2
  have hk := (Chg.grown (K := K) hg)
  have hk2 : y2.heap[K]? = some (.cells #[.int .i64 qnow, .slice none 0 0, .int .i64 0, .slice none 0 0, .int .i64 0, .bool false, .slice none 0 0, .slice none 0 0, .int .i64 0, .slice none 0 0, .bool false] 35) := (hg.block K (blk_lt HK1.out) (fun e => hne (by injection e with e; exact e.symm))).trans HK1.out
  have q := blk_cell hk2 1
  have qf := blk_free hk2 1
  simp at q
  have HS2 : Hid (RSt base r (y2.setCell ⟨K, 1, none⟩ (.slice Aqrs qrs.length cqrs)) v ys s1) := hst2.set hb hne _ _
  have HK2 : Hid ((World.heap (y2.setCell ⟨K, 1, none⟩ (.slice Aqrs qrs.length cqrs)))[K]? = some (.cells #[.int .i64 qnow, .slice Aqrs qrs.length cqrs, .int .i64 0, .slice none 0 0, .int .i64 0, .bool false, .slice none 0 0, .slice none 0 0, .int .i64 0, .slice none 0 0, .bool false] 35)) := blk_set hk2 1 _
  have HCs : Hid (Chg r K y1 (y2.setCell ⟨K, 1, none⟩ (.slice Aqrs qrs.length cqrs))) := (Chg.grown hg).setK _ _
  have HC2 := Lib.hid (HC1.out.trans HCs.out)
  have HRB2 : Hid ((World.heap (y2.setCell ⟨K, 1, none⟩ (.slice Aqrs qrs.length cqrs)))[rb]? = some (.cells #[.pointer (some ⟨r, 0, none⟩)] 92)) := HCs.out.blk HRB1.out hrr hrK
  have HOqrs := Lib.hid (hown.keep mRec_law (Chg.stay ((Chg.refl r K y2).setK 1 (.slice Aqrs qrs.length cqrs)) hst2.rd hk2 (by decide) (by decide)))
  clear hown
  clear hst2 hg hk hk2 HCs HS1 HK1 HC1 HRB1 z0
  have z0 := blk_cell HRB2.out 0
  simp at z0
  have HKA : Hid ((World.heap (y2.setCell ⟨K, 1, none⟩ (.slice Aqrs qrs.length cqrs)))[K]? = some (.cells #[.int .i64 qnow, .slice Aqrs qrs.length cqrs, .int .i64 0, .slice none 0 0, .int .i64 0, .bool false, .slice none 0 0, .slice none 0 0, .int .i64 0, .slice none 0 0, .bool false] 35)) := HK2.out
  go_wp2_with fail
  refine (rDesk_any base r K v ys s1 (.int .i64 qnow) (.slice Aqrs qrs.length cqrs) (.slice none 0 0) (.int .i64 0) (.slice none 0 0) (.bool false) _ HS2.out HKA.out hb).mono ?_
  rintro e y3 ⟨rfl, hst2, ⟨gqd0, gqd1, gqd2, gqd3, gqd4, hk2, hown⟩, hc⟩
  have HRB3 := Lib.hid (hc.blk HRB2.out hrr hrK)
  clear z0
  obtain ⟨qd, e1⟩ : ∃ z, (cDesk.rd ys s1).1 = z := ⟨_, rfl⟩
  obtain ⟨s2, e2⟩ : ∃ z, (cDesk.rd ys s1).2 = z := ⟨_, rfl⟩
  rw [e1] at hown
  rw [e2] at hst2
  have F2 := Lib.hid e1
  have G2 := Lib.hid e2
  clear e1 e2
  have HS3 := Lib.hid hst2
  have HK3 := Lib.hid hk2
  have HCs : Hid (Chg r K (y2.setCell ⟨K, 1, none⟩ (.slice Aqrs qrs.length cqrs)) y3) := ((Chg.refl r K (y2.setCell ⟨K, 1, none⟩ (.slice Aqrs qrs.length cqrs)))).trans hc
  have HC3 := Lib.hid (HC2.out.trans HCs.out)
  have HOqrs := Lib.hid (HOqrs.out.keep mRec_law (Chg.stay HCs.out HS2.out.rd HK2.out (by decide) (by decide)))
  have HOqd := Lib.hid hown
  clear hst2 hk2 hown hc HCs HKA HS2 HK2 HC2 HRB2
  have z0 := blk_cell HRB3.out 0
  simp at z0
  go_wp2_with fail
  refine (rlJob_any base r (rb) v ys s2 _ HS3.out HRB3.out).mono ?_
  rintro e y4 ⟨Aqjs, cqjs, rfl, hst2, hown, hg⟩
  obtain ⟨qjs, e1⟩ : ∃ z, ((cL cJob).rd ys s2).1 = z := ⟨_, rfl⟩
  obtain ⟨s3, e2⟩ : ∃ z, ((cL cJob).rd ys s2).2 = z := ⟨_, rfl⟩
  rw [e1] at hown ⊢
  rw [e2] at hst2
  have F3 := Lib.hid e1
  have G3 := Lib.hid e2
  clear e1 e2
  have hk := (Chg.grown (K := K) hg)
  have hk2 : y4.heap[K]? = some (.cells #[.int .i64 qnow, .slice Aqrs qrs.length cqrs, gqd0, gqd1, gqd2, gqd3, gqd4, .slice none 0 0, .int .i64 0, .slice none 0 0, .bool false] 35) := (hg.block K (blk_lt HK3.out) (fun e => hne (by injection e with e; exact e.symm))).trans HK3.out
  have q := blk_cell hk2 7
  have qf := blk_free hk2 7
  simp at q
  have HS4 : Hid (RSt base r (y4.setCell ⟨K, 7, none⟩ (.slice Aqjs qjs.length cqjs)) v ys s3) := hst2.set hb hne _ _
  have HK4 : Hid ((World.heap (y4.setCell ⟨K, 7, none⟩ (.slice Aqjs qjs.length cqjs)))[K]? = some (.cells #[.int .i64 qnow, .slice Aqrs qrs.length cqrs, gqd0, gqd1, gqd2, gqd3, gqd4, .slice Aqjs qjs.length cqjs, .int .i64 0, .slice none 0 0, .bool false] 35)) := blk_set hk2 7 _
  have HCs : Hid (Chg r K y3 (y4.setCell ⟨K, 7, none⟩ (.slice Aqjs qjs.length cqjs))) := (Chg.grown hg).setK _ _
  have HC4 := Lib.hid (HC3.out.trans HCs.out)
  have HRB4 : Hid ((World.heap (y4.setCell ⟨K, 7, none⟩ (.slice Aqjs qjs.length cqjs)))[rb]? = some (.cells #[.pointer (some ⟨r, 0, none⟩)] 92)) := HCs.out.blk HRB3.out hrr hrK
  have HOqrs := Lib.hid (HOqrs.out.keep mRec_law (Chg.stay HCs.out HS3.out.rd HK3.out (by decide) (by decide)))
  have HOqd := Lib.hid (mDesk_law.okeep HOqd.out (Chg.stay HCs.out HS3.out.rd HK3.out (by decide) (by decide)))
  have HOqjs := Lib.hid (hown.keep mJob_law (Chg.stay ((Chg.refl r K y4).setK 7 (.slice Aqjs qjs.length cqjs)) hst2.rd hk2 (by decide) (by decide)))
  clear hown
  clear hst2 hg hk hk2 HCs HS3 HK3 HC3 HRB3 z0
  have z0 := blk_cell HRB4.out 0
  simp at z0
  have HSA : Hid (RSt base r (World.alloc (y4.setCell ⟨K, 7, none⟩ (.slice Aqjs qjs.length cqjs)) (.cells #[.pointer (some ⟨K, 8, none⟩)] 101)) v ys s3) := HS4.out.alloc _
  have HKA : Hid ((World.heap (World.alloc (y4.setCell ⟨K, 7, none⟩ (.slice Aqjs qjs.length cqjs)) (.cells #[.pointer (some ⟨K, 8, none⟩)] 101)))[K]? = some (.cells #[.int .i64 qnow, .slice Aqrs qrs.length cqrs, gqd0, gqd1, gqd2, gqd3, gqd4, .slice Aqjs qjs.length cqjs, .int .i64 0, .slice none 0 0, .bool false] 35)) := blk_alloc (w := (y4.setCell ⟨K, 7, none⟩ (.slice Aqjs qjs.length cqjs))) HK4.out _
  have HEL : Hid (ElemsAt (World.alloc (y4.setCell ⟨K, 7, none⟩ (.slice Aqjs qjs.length cqjs)) (.cells #[.pointer (some ⟨K, 8, none⟩)] 101)) (World.heap y4).size 101 (ptrs K [8])) := by have q := elems_alloc (y4.setCell ⟨K, 7, none⟩ (.slice Aqjs qjs.length cqjs)) 101 [.pointer (some ⟨K, 8, none⟩)]; rw [show (World.heap (y4.setCell ⟨K, 7, none⟩ (.slice Aqjs qjs.length cqjs))).size = (World.heap y4).size by simp] at q; exact q
  have HBR : Hid ((World.heap y4).size ≠ r) := by have := HS4.out.lt; rw [show (World.heap (y4.setCell ⟨K, 7, none⟩ (.slice Aqjs qjs.length cqjs))).size = (World.heap y4).size by simp] at this; show _ ≠ _; omega
  have HBK : Hid ((World.heap y4).size ≠ K) := by have := blk_lt HK4.out; rw [show (World.heap (y4.setCell ⟨K, 7, none⟩ (.slice Aqjs qjs.length cqjs))).size = (World.heap y4).size by simp] at this; show _ ≠ _; omega
  go_wp2_with fail
  refine (intsR_any base r K _ v ys s3 35 #[.int .i64 qnow, .slice Aqrs qrs.length cqrs, gqd0, gqd1, gqd2, gqd3, gqd4, .slice Aqjs qjs.length cqjs, .int .i64 0, .slice none 0 0, .bool false] [8] 1 rfl _ HSA.out HKA.out hb hne HEL.out HBR.out HBK.out (all1 ⟨_, rfl⟩) (by decide) (by omega)).mono ?_
  rintro e y5 ⟨rfl, hst, hk, hc⟩
  have HRB5 := Lib.hid (hc.blk (blk_alloc (w := (y4.setCell ⟨K, 7, none⟩ (.slice Aqjs qjs.length cqjs))) HRB4.out _) hrr hrK)
  clear z0
  have hst2 : RSt base r y5 v ys ((cI.rd ys (s3)).2) := hst
  have hk2 : y5.heap[K]? = some (.cells #[.int .i64 qnow, .slice Aqrs qrs.length cqrs, gqd0, gqd1, gqd2, gqd3, gqd4, .slice Aqjs qjs.length cqjs, .int .i64 ((cI.rd ys (s3)).1), .slice none 0 0, .bool false] 35) := hk
  obtain ⟨qla, e1⟩ : ∃ z, (cI.rd ys (s3)).1 = z := ⟨_, rfl⟩
  obtain ⟨s4, e2⟩ : ∃ z, (cI.rd ys (s3)).2 = z := ⟨_, rfl⟩
  simp only [e1, e2] at hst2 hk2
  have F4 := Lib.hid e1
  have G4 := Lib.hid e2
  clear e1 e2
  have HS5 := Lib.hid hst2
  have HK5 := Lib.hid hk2
  have HCs : Hid (Chg r K (y4.setCell ⟨K, 7, none⟩ (.slice Aqjs qjs.length cqjs)) y5) := (((Chg.refl r K (y4.setCell ⟨K, 7, none⟩ (.slice Aqjs qjs.length cqjs))).alloc _)).trans hc
  have HC5 := Lib.hid (HC4.out.trans HCs.out)
  have HOqrs := Lib.hid (HOqrs.out.keep mRec_law (Chg.stay HCs.out HS4.out.rd HK4.out (by decide) (by decide)))
  have HOqd := Lib.hid (mDesk_law.okeep HOqd.out (Chg.stay HCs.out HS4.out.rd HK4.out (by decide) (by decide)))
  have HOqjs := Lib.hid (HOqjs.out.keep mJob_law (Chg.stay HCs.out HS4.out.rd HK4.out (by decide) (by decide)))
  clear hst hst2 hk hk2 hc HCs HSA HKA HEL HBR HBK HS4 HK4 HC4 HRB4
  have z0 := blk_cell HRB5.out 0
  simp at z0
  go_wp2_with fail
  refine (rlWorker_any base r (rb) v ys s4 _ HS5.out HRB5.out).mono ?_
  rintro e y6 ⟨Aqws, cqws, rfl, hst2, hown, hg⟩
  obtain ⟨qws, e1⟩ : ∃ z, ((cL cWorker).rd ys s4).1 = z := ⟨_, rfl⟩
  obtain ⟨s5, e2⟩ : ∃ z, ((cL cWorker).rd ys s4).2 = z := ⟨_, rfl⟩
  rw [e1] at hown ⊢
  rw [e2] at hst2
  have F5 := Lib.hid e1
  have G5 := Lib.hid e2
  clear e1 e2
  have hk := (Chg.grown (K := K) hg)
  have hk2 : y6.heap[K]? = some (.cells #[.int .i64 qnow, .slice Aqrs qrs.length cqrs, gqd0, gqd1, gqd2, gqd3, gqd4, .slice Aqjs qjs.length cqjs, .int .i64 qla, .slice none 0 0, .bool false] 35) := (hg.block K (blk_lt HK5.out) (fun e => hne (by injection e with e; exact e.symm))).trans HK5.out
  have q := blk_cell hk2 9
  have qf := blk_free hk2 9
  simp at q
  have HS6 : Hid (RSt base r (y6.setCell ⟨K, 9, none⟩ (.slice Aqws qws.length cqws)) v ys s5) := hst2.set hb hne _ _
  have HK6 : Hid ((World.heap (y6.setCell ⟨K, 9, none⟩ (.slice Aqws qws.length cqws)))[K]? = some (.cells #[.int .i64 qnow, .slice Aqrs qrs.length cqrs, gqd0, gqd1, gqd2, gqd3, gqd4, .slice Aqjs qjs.length cqjs, .int .i64 qla, .slice Aqws qws.length cqws, .bool false] 35)) := blk_set hk2 9 _
  have HCs : Hid (Chg r K y5 (y6.setCell ⟨K, 9, none⟩ (.slice Aqws qws.length cqws))) := (Chg.grown hg).setK _ _
  have HC6 := Lib.hid (HC5.out.trans HCs.out)
  have HRB6 : Hid ((World.heap (y6.setCell ⟨K, 9, none⟩ (.slice Aqws qws.length cqws)))[rb]? = some (.cells #[.pointer (some ⟨r, 0, none⟩)] 92)) := HCs.out.blk HRB5.out hrr hrK
  have HOqrs := Lib.hid (HOqrs.out.keep mRec_law (Chg.stay HCs.out HS5.out.rd HK5.out (by decide) (by decide)))
  have HOqd := Lib.hid (mDesk_law.okeep HOqd.out (Chg.stay HCs.out HS5.out.rd HK5.out (by decide) (by decide)))
  have HOqjs := Lib.hid (HOqjs.out.keep mJob_law (Chg.stay HCs.out HS5.out.rd HK5.out (by decide) (by decide)))
  have HOqws := Lib.hid (hown.keep mWorker_law (Chg.stay ((Chg.refl r K y6).setK 9 (.slice Aqws qws.length cqws)) hst2.rd hk2 (by decide) (by decide)))
  clear hown
  clear hst2 hg hk hk2 HCs HS5 HK5 HC5 HRB5 z0
  have z0 := blk_cell HRB6.out 0
  simp at z0
  have HSA : Hid (RSt base r (World.alloc (y6.setCell ⟨K, 9, none⟩ (.slice Aqws qws.length cqws)) (.cells #[.pointer (some ⟨K, 10, none⟩)] 113)) v ys s5) := HS6.out.alloc _
  have HKA : Hid ((World.heap (World.alloc (y6.setCell ⟨K, 9, none⟩ (.slice Aqws qws.length cqws)) (.cells #[.pointer (some ⟨K, 10, none⟩)] 113)))[K]? = some (.cells #[.int .i64 qnow, .slice Aqrs qrs.length cqrs, gqd0, gqd1, gqd2, gqd3, gqd4, .slice Aqjs qjs.length cqjs, .int .i64 qla, .slice Aqws qws.length cqws, .bool false] 35)) := blk_alloc (w := (y6.setCell ⟨K, 9, none⟩ (.slice Aqws qws.length cqws))) HK6.out _
  have HEL : Hid (ElemsAt (World.alloc (y6.setCell ⟨K, 9, none⟩ (.slice Aqws qws.length cqws)) (.cells #[.pointer (some ⟨K, 10, none⟩)] 113)) (World.heap y6).size 113 (ptrs K [10])) := by have q := elems_alloc (y6.setCell ⟨K, 9, none⟩ (.slice Aqws qws.length cqws)) 113 [.pointer (some ⟨K, 10, none⟩)]; rw [show (World.heap (y6.setCell ⟨K, 9, none⟩ (.slice Aqws qws.length cqws))).size = (World.heap y6).size by simp] at q; exact q
  have HBR : Hid ((World.heap y6).size ≠ r) := by have := HS6.out.lt; rw [show (World.heap (y6.setCell ⟨K, 9, none⟩ (.slice Aqws qws.length cqws))).size = (World.heap y6).size by simp] at this; show _ ≠ _; omega
  have HBK : Hid ((World.heap y6).size ≠ K) := by have := blk_lt HK6.out; rw [show (World.heap (y6.setCell ⟨K, 9, none⟩ (.slice Aqws qws.length cqws))).size = (World.heap y6).size by simp] at this; show _ ≠ _; omega
  go_wp2_with fail
  refine (flagsR_any base r K _ v ys s5 35 #[.int .i64 qnow, .slice Aqrs qrs.length cqrs, gqd0, gqd1, gqd2, gqd3, gqd4, .slice Aqjs qjs.length cqjs, .int .i64 qla, .slice Aqws qws.length cqws, .bool false] [10] 1 rfl _ HSA.out HKA.out hb hne HEL.out HBR.out HBK.out (all1 ⟨_, rfl⟩) (by decide) (by omega)).mono ?_
  rintro e y7 ⟨rfl, hst, hk, hc⟩
  have HRB7 := Lib.hid (hc.blk (blk_alloc (w := (y6.setCell ⟨K, 9, none⟩ (.slice Aqws qws.length cqws))) HRB6.out _) hrr hrK)
  clear z0
  have hst2 : RSt base r y7 v ys ((cF.rd ys (s5)).2) := hst
  have hk2 : y7.heap[K]? = some (.cells #[.int .i64 qnow, .slice Aqrs qrs.length cqrs, gqd0, gqd1, gqd2, gqd3, gqd4, .slice Aqjs qjs.length cqjs, .int .i64 qla, .slice Aqws qws.length cqws, .bool ((cF.rd ys (s5)).1)] 35) := hk
  obtain ⟨qdr, e1⟩ : ∃ z, (cF.rd ys (s5)).1 = z := ⟨_, rfl⟩
  obtain ⟨s6, e2⟩ : ∃ z, (cF.rd ys (s5)).2 = z := ⟨_, rfl⟩
  simp only [e1, e2] at hst2 hk2
  have F6 := Lib.hid e1
  have G6 := Lib.hid e2
  clear e1 e2
  have HS7 := Lib.hid hst2
  have HK7 := Lib.hid hk2
  have HCs : Hid (Chg r K (y6.setCell ⟨K, 9, none⟩ (.slice Aqws qws.length cqws)) y7) := (((Chg.refl r K (y6.setCell ⟨K, 9, none⟩ (.slice Aqws qws.length cqws))).alloc _)).trans hc
  have HC7 := Lib.hid (HC6.out.trans HCs.out)
  have HOqrs := Lib.hid (HOqrs.out.keep mRec_law (Chg.stay HCs.out HS6.out.rd HK6.out (by decide) (by decide)))
  have HOqd := Lib.hid (mDesk_law.okeep HOqd.out (Chg.stay HCs.out HS6.out.rd HK6.out (by decide) (by decide)))
  have HOqjs := Lib.hid (HOqjs.out.keep mJob_law (Chg.stay HCs.out HS6.out.rd HK6.out (by decide) (by decide)))
  have HOqws := Lib.hid (HOqws.out.keep mWorker_law (Chg.stay HCs.out HS6.out.rd HK6.out (by decide) (by decide)))
  clear hst hst2 hk hk2 hc HCs HSA HKA HEL HBR HBK HS6 HK6 HC6 HRB6
  have HD : Hid (cShop.rd ys ⟨0, false⟩ = ((qnow, qrs, qd, qjs, qla, qws, qdr), s6)) := by
    show _ = _
    simp only [cShop, cSeq, F0.out, G0.out, F1.out, G1.out, F2.out, G2.out, F3.out, G3.out, F4.out, G4.out, F5.out, G5.out, F6.out, G6.out]
  have HOW : Hid (mShop.own base y7 [.int .i64 qnow, .slice Aqrs qrs.length cqrs, gqd0, gqd1, gqd2, gqd3, gqd4, .slice Aqjs qjs.length cqjs, .int .i64 qla, .slice Aqws qws.length cqws, .bool qdr] (qnow, qrs, qd, qjs, qla, qws, qdr)) := mShop_mk HOqrs.out HOqd.out HOqjs.out HOqws.out
  have HZN := Lib.hid (HC7.out.blk HZ.out hz1 hz2)
  obtain ⟨pE, bE⟩ := s6
  have e1 := blk_cell HS7.out.rd 1
  have e2 := blk_cell HS7.out.rd 2
  simp at e1 e2
  have z0 := blk_cell HRB7.out 0
  simp at z0
  have HTH : Hid (World.there y7 base 0 11) := there_at HZN.out rfl
  have hB : base ≤ W0.heap.size := by rw [hsz]; omega
  have HBL := Lib.hid (HBEL.out.trans (HC7.out.below hzr hb hB))
  have HALL : Hid (cShop.all ys = (!bE && decide (pE = ys.length))) := by show _ = _; unfold Cd.all; rw [HD.out]
  have HX : Hid ((cShop.rd ys ⟨0, false⟩).1 = (qnow, qrs, qd, qjs, qla, qws, qdr)) := by show _ = _; rw [HD.out]
  obtain ⟨ua, hua⟩ : ∃ ua : Array Value, ua = #[.int .i64 qnow, .slice Aqrs qrs.length cqrs, gqd0, gqd1, gqd2, gqd3, gqd4, .slice Aqjs qjs.length cqjs, .int .i64 qla, .slice Aqws qws.length cqws, .bool qdr] := ⟨_, rfl⟩
  have HOW2 : Hid (mShop.own base y7 ua.toList (cShop.rd ys ⟨0, false⟩).1) := by show mShop.own _ _ _ _; rw [hua, HX.out]; exact HOW.out
  have HKU : Hid (y7.heap[K]? = some (.cells ua 35)) := by show _ = _; rw [hua]; exact HK7.out
  have HRG : Hid (World.rangeAt y7 K 0 ua.toList) := fun j u hj => by rw [blk_cell HKU.out]; simpa using hj
  have hul : ua.size = 11 := by rw [hua]; rfl
  have hone : Hid (ua.all (·.oneCell') = true) := Array.all_eq_true_iff_forall_mem.2 (fun u hu => mShop_law.cell HOW2.out u (by simpa using hu))
  have hi1 : Hid ((Tryz.prog.info? 35).map (·.size) = some ua.toList.length) := by show _ = _; rw [Array.length_toList, hul]; kernel_rfl
  have hi2 : Hid ((Tryz.prog.info? 35).map (·.size) = some ua.size) := by show _ = _; rw [hul]; kernel_rfl
  have HTU : Hid (World.there y7 base 0 ua.size) := by show World.there _ _ _ _; rw [hul]; exact HTH.out
  obtain ⟨za, hza⟩ : ∃ za : Array Value, za = #[.int .i64 0, .slice none 0 0, .int .i64 0, .slice none 0 0, .int .i64 0, .bool false, .slice none 0 0, .slice none 0 0, .int .i64 0, .slice none 0 0, .bool false] := ⟨_, rfl⟩
  have HZA := Lib.hid hza
  have hzl : za.size = 11 := by rw [hza]; rfl
  have hzo : Hid (za.all (·.oneCell') = true) := by show _ = _; rw [hza]; simp [Value.oneCell']
  have hi3 : Hid ((Tryz.prog.info? 35).map (·.size) = some za.size) := by show _ = _; rw [hzl]; kernel_rfl
  have hi4 : Hid ((Tryz.prog.info? 35).map (·.size) = some za.toList.length) := by show _ = _; rw [Array.length_toList, hzl]; kernel_rfl
  have HTZ : Hid (World.there y7 base 0 za.size) := by show World.there _ _ _ _; rw [hzl]; exact HTH.out
  have hbt : Tryz.prog.built 35 [] = some (#[.int .i64 0, .slice none 0 0, .int .i64 0, .slice none 0 0, .int .i64 0, .bool false, .slice none 0 0, .slice none 0 0, .int .i64 0, .slice none 0 0, .bool false] : Array Value) := by kernel_rfl
  have HBT : Hid (∀ a : Act, Tryz.prog.built 35 ((#[] : Array (Nat × Operand)).map fun (i, x) => (i, a.eval x)).toList = some za) := by intro a; rw [hza]; simpa using hbt
  clear hza hzl hbt
  clear hua HOW HK7 hul hB HC7 HZ HBEL
  subst hvf
  by_cases hgood : bE = false ∧ pE = ys.length
  · obtain ⟨rfl, rfl⟩ := hgood
    have HLV := Lib.hid (run_loadVar_mid (P := Tryz.prog) (World.setCells y7 base 0 ua.toList) base 0 35 ua.toList _ (World.rangeAt_setCells_same _ _ _ _ (by rw [Array.length_toList]; exact HTU.out)) Tryz.underlying35 rfl hi1.out)
    go_wp2_with (first
      | (with_reducible refine wpList_load_mid rfl 35 (.tmp 5) rfl K 0 rfl ua.toList _ HRG.out Tryz.underlying35 rfl hi1.out ?_)
      | (with_reducible refine wpList_store_mid rfl 35 (.tmp 2) (.tmp 51) rfl base 0 ua rfl rfl HTU.out hi2.out hone.out ?_))
    have hlv := HLV.out
    simp only [Array.toArray_toList] at hlv
    refine bodyPost_ret (v := .tuple #[.agg ua, .int .i64 0]) ?_ rfl ?_
    · simp [results, Tryz.results13, asAddr, hlv]
    refine HP.out _ _ (.inl ⟨by rw [HALL.out]; simp, ua.toList, by simp, ?_⟩) (below_cells (Nat.le_refl _) _ _ _ HBL.out)
    exact mShop_law.toRep (mShop_law.okeep HOW2.out (stay_cells HZN.out (by decide) _))
  · have HF : Hid (cShop.all ys = false) := by show _ = _; rw [HALL.out]; cases bE <;> simp_all
    have HLV := Lib.hid (run_loadVar_mid (P := Tryz.prog) (World.setCells y7 base 0 za.toList) base 0 35 za.toList _ (World.rangeAt_setCells_same _ _ _ _ (by rw [Array.length_toList]; exact HTZ.out)) Tryz.underlying35 rfl hi4.out)
    have HS2 : Hid (bE = true ∨ bE = false ∧ pE ≠ ys.length) := by show _ ∨ _; cases bE <;> simp_all
    clear HALL hgood
    rcases HS2.out with rfl | ⟨rfl, hpne⟩
    · go_wp2_with (first
        | (with_reducible refine wpList_buildTo rfl 35 #[] rfl (some 50) rfl za (HBT.out _) ?_)
        | (with_reducible refine wpList_store_mid rfl 35 (.tmp 2) (.tmp 50) rfl base 0 za rfl rfl HTZ.out hi3.out hzo.out ?_))
      have hlv := HLV.out
      simp only [Array.toArray_toList] at hlv
      refine bodyPost_ret (v := .tuple #[.agg za, .int .i64 10]) ?_ rfl ?_
      · simp [results, Tryz.results13, asAddr, hlv]
      exact HP.out _ _ (.inr ⟨HF.out, by rw [HZA.out]⟩) (below_cells (Nat.le_refl _) _ _ _ HBL.out)
    · go_wp2_with (first
        | (with_reducible refine wpList_buildTo rfl 35 #[] rfl (some 50) rfl za (HBT.out _) ?_)
        | (with_reducible refine wpList_store_mid rfl 35 (.tmp 2) (.tmp 50) rfl base 0 za rfl rfl HTZ.out hi3.out hzo.out ?_))
      have hlv := HLV.out
      simp only [Array.toArray_toList] at hlv
      refine bodyPost_ret (v := .tuple #[.agg za, .int .i64 10]) ?_ rfl ?_
      · simp [results, Tryz.results13, asAddr, hlv]
      exact HP.out _ _ (.inr ⟨HF.out, by rw [HZA.out]⟩) (below_cells (Nat.le_refl _) _ _ _ HBL.out)
end Go.Proofs.YtckooioikcenmaaGreat

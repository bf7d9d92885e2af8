/- What the readers of small kinds of data make: the others. Conditions: sizes a machine can have. -/
import Derived.Test.YtckooioikcenmaaGreatCkM3
import Derived.Great.BuildSlice
namespace Go.Proofs.YtckooioikcenmaaGreat
open Go.RowKit
set_option maxRecDepth 20000 in
set_option maxHeartbeats 2000000 in
theorem rKnown_any (base r rb K : Nat) (v : Value) (ys : List UInt8) (s : Rd) (w : World) (hs : RSt base r w v ys s) (hrb : w.heap[rb]? = some (.cells #[.pointer (some ⟨r, 0, none⟩)] 92)) (hK : w.heap[K]? = some (.cells #[.int .i64 0, .int .i64 0, .int .i64 0] 202)) (hb : base ≤ K) :
    Calls Tryz.prog 112 #[.pointer (some ⟨K, 0, none⟩), .pointer (some ⟨rb, 0, none⟩)] w (EachPost base r K v ys cKnown mKnown 202 s w) := by
  have hne : r ≠ K := ne_type hs.rd hK (by decide)
  have hrr : rb ≠ r := ne_type hrb hs.rd (by decide)
  have hrK : rb ≠ K := ne_type hrb hK (by decide)
  have HRB0 := Lib.hid hrb
  clear hrb
  have HS0 := Lib.hid hs
  have HK0 := Lib.hid hK
  have HC0 : Hid (Chg r K w w) := Chg.refl _ _ _
  clear hs hK
  go_enter Tryz.func112, Tryz.ntmps112
  have z0 := blk_cell HRB0.out 0
  simp at z0
  have HSA : Hid (RSt base r (World.drew (World.alloc w (.cells #[.pointer (some ⟨K, 0, none⟩), .pointer (some ⟨K, 1, none⟩)] 101))) v ys s) := RSt.drew (HS0.out.alloc _)
  have HKA : Hid ((World.heap (World.drew (World.alloc w (.cells #[.pointer (some ⟨K, 0, none⟩), .pointer (some ⟨K, 1, none⟩)] 101))))[K]? = some (.cells #[.int .i64 0, .int .i64 0, .int .i64 0] 202)) := blk_alloc (w := w) HK0.out _
  have HEL : Hid (ElemsAt (World.drew (World.alloc w (.cells #[.pointer (some ⟨K, 0, none⟩), .pointer (some ⟨K, 1, none⟩)] 101))) (World.heap w).size 101 (ptrs K [0, 1])) := elems_alloc w 101 [.pointer (some ⟨K, 0, none⟩), .pointer (some ⟨K, 1, none⟩)]
  have HBR : Hid ((World.heap w).size ≠ r) := by have := HS0.out.lt; show _ ≠ _; omega
  have HBK : Hid ((World.heap w).size ≠ K) := by have := blk_lt HK0.out; show _ ≠ _; omega
  go_wp2
  go_region_held3 (fun w' => w'.cell? ⟨rb, 0, none⟩ = some (.pointer (some ⟨r, 0, none⟩))) (go_keep) ((go_at_call 35; refine (intsR_any base r K _ v ys s 202 #[.int .i64 0, .int .i64 0, .int .i64 0] [0, 1] 2 rfl _ HSA.out HKA.out hb hne HEL.out HBR.out HBK.out (all2 ⟨_, rfl⟩ ⟨_, rfl⟩) (by decide) (by omega)).mono ?_; rintro e y1 ⟨rfl, hst, hk, hc⟩; have HRB1 := Lib.hid (hc.blk (blk_alloc (w := w) HRB0.out _) hrr hrK); have z1 := blk_cell HRB1.out 0; simp at z1))
  clear z0 z1
  have hst2 : RSt base r y1 v ys ((cI.rd ys ((cI.rd ys (s)).2)).2) := hst
  have hk2 : y1.heap[K]? = some (.cells #[.int .i64 ((cI.rd ys (s)).1), .int .i64 ((cI.rd ys ((cI.rd ys (s)).2)).1), .int .i64 0] 202) := hk
  obtain ⟨qn, e1⟩ : ∃ z, (cI.rd ys (s)).1 = z := ⟨_, rfl⟩
  obtain ⟨s0, e2⟩ : ∃ z, (cI.rd ys (s)).2 = z := ⟨_, rfl⟩
  simp only [e1, e2] at hst2 hk2
  have F0 := Lib.hid e1
  have G0 := Lib.hid e2
  clear e1 e2
  obtain ⟨qt, e1⟩ : ∃ z, (cI.rd ys (s0)).1 = z := ⟨_, rfl⟩
  obtain ⟨s1, e2⟩ : ∃ z, (cI.rd ys (s0)).2 = z := ⟨_, rfl⟩
  simp only [e1, e2] at hst2 hk2
  have F1 := Lib.hid e1
  have G1 := Lib.hid e2
  clear e1 e2
  have HS1 := Lib.hid hst2
  have HK1 := Lib.hid hk2
  have HCs : Hid (Chg r K w y1) := (((Chg.refl r K w).alloc _).drew).trans hc
  have HC1 := Lib.hid (HC0.out.trans HCs.out)
  clear hst hst2 hk hk2 hc HCs HSA HKA HEL HBR HBK HS0 HK0 HC0 HRB0
  have z0 := blk_cell HRB1.out 0
  simp at z0
  have HSA : Hid (RSt base r (World.drew (World.alloc y1 (.cells #[.pointer (some ⟨K, 2, none⟩)] 99))) v ys s1) := RSt.drew (HS1.out.alloc _)
  have HKA : Hid ((World.heap (World.drew (World.alloc y1 (.cells #[.pointer (some ⟨K, 2, none⟩)] 99))))[K]? = some (.cells #[.int .i64 qn, .int .i64 qt, .int .i64 0] 202)) := blk_alloc (w := y1) HK1.out _
  have HEL : Hid (ElemsAt (World.drew (World.alloc y1 (.cells #[.pointer (some ⟨K, 2, none⟩)] 99))) (World.heap y1).size 99 (ptrs K [2])) := elems_alloc y1 99 [.pointer (some ⟨K, 2, none⟩)]
  have HBR : Hid ((World.heap y1).size ≠ r) := by have := HS1.out.lt; show _ ≠ _; omega
  have HBK : Hid ((World.heap y1).size ≠ K) := by have := blk_lt HK1.out; show _ ≠ _; omega
  go_wp2
  go_region_held3 (fun w' => w'.cell? ⟨rb, 0, none⟩ = some (.pointer (some ⟨r, 0, none⟩))) (go_keep) ((go_at_call 34; refine (numbersR_any base r K _ v ys s1 202 #[.int .i64 qn, .int .i64 qt, .int .i64 0] [2] 1 rfl _ HSA.out HKA.out hb hne HEL.out HBR.out HBK.out (all1 ⟨_, rfl⟩) (by decide) (by omega)).mono ?_; rintro e y2 ⟨rfl, hst, hk, hc⟩; have HRB2 := Lib.hid (hc.blk (blk_alloc (w := y1) HRB1.out _) hrr hrK); have z1 := blk_cell HRB2.out 0; simp at z1))
  clear z0 z1
  have hst2 : RSt base r y2 v ys ((cI.rd ys (s1)).2) := hst
  have hk2 : y2.heap[K]? = some (.cells #[.int .i64 qn, .int .i64 qt, .int .i64 ((cI.rd ys (s1)).1)] 202) := hk
  obtain ⟨qv, e1⟩ : ∃ z, (cI.rd ys (s1)).1 = z := ⟨_, rfl⟩
  obtain ⟨s2, e2⟩ : ∃ z, (cI.rd ys (s1)).2 = z := ⟨_, rfl⟩
  simp only [e1, e2] at hst2 hk2
  have F2 := Lib.hid e1
  have G2 := Lib.hid e2
  clear e1 e2
  have HS2 := Lib.hid hst2
  have HK2 := Lib.hid hk2
  have HCs : Hid (Chg r K y1 y2) := (((Chg.refl r K y1).alloc _).drew).trans hc
  have HC2 := Lib.hid (HC1.out.trans HCs.out)
  clear hst hst2 hk hk2 hc HCs HSA HKA HEL HBR HBK HS1 HK1 HC1 HRB1
  have HD : Hid (cKnown.rd ys s = ((qn, qt, qv), s2)) := by
    show _ = _
    simp only [cKnown, cSeq, F0.out, G0.out, F1.out, G1.out, F2.out, G2.out]
  go_wp2
  exact bodyPost_ret (v := .tuple #[]) (by simp [results]) rfl ⟨rfl, by rw [HD.out]; exact HS2.out, ⟨[.int .i64 qn, .int .i64 qt, .int .i64 qv], HK2.out, by rw [HD.out]; exact mKnown_mk⟩, HC2.out⟩
set_option maxRecDepth 20000 in
set_option maxHeartbeats 2000000 in
theorem rSleep_any (base r rb K : Nat) (v : Value) (ys : List UInt8) (s : Rd) (w : World) (hs : RSt base r w v ys s) (hrb : w.heap[rb]? = some (.cells #[.pointer (some ⟨r, 0, none⟩)] 92)) (hK : w.heap[K]? = some (.cells #[.int .i64 0, .int .i64 0] 143)) (hb : base ≤ K) :
    Calls Tryz.prog 80 #[.pointer (some ⟨K, 0, none⟩), .pointer (some ⟨rb, 0, none⟩)] w (EachPost base r K v ys cSleep mSleep 143 s w) := by
  have hne : r ≠ K := ne_type hs.rd hK (by decide)
  have hrr : rb ≠ r := ne_type hrb hs.rd (by decide)
  have hrK : rb ≠ K := ne_type hrb hK (by decide)
  have HRB0 := Lib.hid hrb
  clear hrb
  have HS0 := Lib.hid hs
  have HK0 := Lib.hid hK
  have HC0 : Hid (Chg r K w w) := Chg.refl _ _ _
  clear hs hK
  go_enter Tryz.func80, Tryz.ntmps80
  have z0 := blk_cell HRB0.out 0
  simp at z0
  have HSA : Hid (RSt base r (World.drew (World.alloc w (.cells #[.pointer (some ⟨K, 0, none⟩)] 101))) v ys s) := RSt.drew (HS0.out.alloc _)
  have HKA : Hid ((World.heap (World.drew (World.alloc w (.cells #[.pointer (some ⟨K, 0, none⟩)] 101))))[K]? = some (.cells #[.int .i64 0, .int .i64 0] 143)) := blk_alloc (w := w) HK0.out _
  have HEL : Hid (ElemsAt (World.drew (World.alloc w (.cells #[.pointer (some ⟨K, 0, none⟩)] 101))) (World.heap w).size 101 (ptrs K [0])) := elems_alloc w 101 [.pointer (some ⟨K, 0, none⟩)]
  have HBR : Hid ((World.heap w).size ≠ r) := by have := HS0.out.lt; show _ ≠ _; omega
  have HBK : Hid ((World.heap w).size ≠ K) := by have := blk_lt HK0.out; show _ ≠ _; omega
  go_wp2
  go_region_held3 (fun w' => w'.cell? ⟨rb, 0, none⟩ = some (.pointer (some ⟨r, 0, none⟩))) (go_keep) ((go_at_call 35; refine (intsR_any base r K _ v ys s 143 #[.int .i64 0, .int .i64 0] [0] 1 rfl _ HSA.out HKA.out hb hne HEL.out HBR.out HBK.out (all1 ⟨_, rfl⟩) (by decide) (by omega)).mono ?_; rintro e y1 ⟨rfl, hst, hk, hc⟩; have HRB1 := Lib.hid (hc.blk (blk_alloc (w := w) HRB0.out _) hrr hrK); have z1 := blk_cell HRB1.out 0; simp at z1))
  clear z0 z1
  have hst2 : RSt base r y1 v ys ((cI.rd ys (s)).2) := hst
  have hk2 : y1.heap[K]? = some (.cells #[.int .i64 ((cI.rd ys (s)).1), .int .i64 0] 143) := hk
  obtain ⟨qn, e1⟩ : ∃ z, (cI.rd ys (s)).1 = z := ⟨_, rfl⟩
  obtain ⟨s0, e2⟩ : ∃ z, (cI.rd ys (s)).2 = z := ⟨_, rfl⟩
  simp only [e1, e2] at hst2 hk2
  have F0 := Lib.hid e1
  have G0 := Lib.hid e2
  clear e1 e2
  have HS1 := Lib.hid hst2
  have HK1 := Lib.hid hk2
  have HCs : Hid (Chg r K w y1) := (((Chg.refl r K w).alloc _).drew).trans hc
  have HC1 := Lib.hid (HC0.out.trans HCs.out)
  clear hst hst2 hk hk2 hc HCs HSA HKA HEL HBR HBK HS0 HK0 HC0 HRB0
  have z0 := blk_cell HRB1.out 0
  simp at z0
  have HSA : Hid (RSt base r (World.drew (World.alloc y1 (.cells #[.pointer (some ⟨K, 1, none⟩)] 99))) v ys s0) := RSt.drew (HS1.out.alloc _)
  have HKA : Hid ((World.heap (World.drew (World.alloc y1 (.cells #[.pointer (some ⟨K, 1, none⟩)] 99))))[K]? = some (.cells #[.int .i64 qn, .int .i64 0] 143)) := blk_alloc (w := y1) HK1.out _
  have HEL : Hid (ElemsAt (World.drew (World.alloc y1 (.cells #[.pointer (some ⟨K, 1, none⟩)] 99))) (World.heap y1).size 99 (ptrs K [1])) := elems_alloc y1 99 [.pointer (some ⟨K, 1, none⟩)]
  have HBR : Hid ((World.heap y1).size ≠ r) := by have := HS1.out.lt; show _ ≠ _; omega
  have HBK : Hid ((World.heap y1).size ≠ K) := by have := blk_lt HK1.out; show _ ≠ _; omega
  go_wp2
  go_region_held3 (fun w' => w'.cell? ⟨rb, 0, none⟩ = some (.pointer (some ⟨r, 0, none⟩))) (go_keep) ((go_at_call 34; refine (numbersR_any base r K _ v ys s0 143 #[.int .i64 qn, .int .i64 0] [1] 1 rfl _ HSA.out HKA.out hb hne HEL.out HBR.out HBK.out (all1 ⟨_, rfl⟩) (by decide) (by omega)).mono ?_; rintro e y2 ⟨rfl, hst, hk, hc⟩; have HRB2 := Lib.hid (hc.blk (blk_alloc (w := y1) HRB1.out _) hrr hrK); have z1 := blk_cell HRB2.out 0; simp at z1))
  clear z0 z1
  have hst2 : RSt base r y2 v ys ((cI.rd ys (s0)).2) := hst
  have hk2 : y2.heap[K]? = some (.cells #[.int .i64 qn, .int .i64 ((cI.rd ys (s0)).1)] 143) := hk
  obtain ⟨qd, e1⟩ : ∃ z, (cI.rd ys (s0)).1 = z := ⟨_, rfl⟩
  obtain ⟨s1, e2⟩ : ∃ z, (cI.rd ys (s0)).2 = z := ⟨_, rfl⟩
  simp only [e1, e2] at hst2 hk2
  have F1 := Lib.hid e1
  have G1 := Lib.hid e2
  clear e1 e2
  have HS2 := Lib.hid hst2
  have HK2 := Lib.hid hk2
  have HCs : Hid (Chg r K y1 y2) := (((Chg.refl r K y1).alloc _).drew).trans hc
  have HC2 := Lib.hid (HC1.out.trans HCs.out)
  clear hst hst2 hk hk2 hc HCs HSA HKA HEL HBR HBK HS1 HK1 HC1 HRB1
  have HD : Hid (cSleep.rd ys s = ((qn, qd), s1)) := by
    show _ = _
    simp only [cSleep, cSeq, F0.out, G0.out, F1.out, G1.out]
  go_wp2
  exact bodyPost_ret (v := .tuple #[]) (by simp [results]) rfl ⟨rfl, by rw [HD.out]; exact HS2.out, ⟨[.int .i64 qn, .int .i64 qd], HK2.out, by rw [HD.out]; exact mSleep_mk⟩, HC2.out⟩
set_option maxRecDepth 20000 in
set_option maxHeartbeats 2000000 in
theorem rTurn_any (base r rb K : Nat) (v : Value) (ys : List UInt8) (s : Rd) (w : World) (hs : RSt base r w v ys s) (hrb : w.heap[rb]? = some (.cells #[.pointer (some ⟨r, 0, none⟩)] 92)) (hK : w.heap[K]? = some (.cells #[.string ⟨#[]⟩, .int .i64 0, .int .i64 0] 147)) (hb : base ≤ K) :
    Calls Tryz.prog 82 #[.pointer (some ⟨K, 0, none⟩), .pointer (some ⟨rb, 0, none⟩)] w (EachPost base r K v ys cTurn mTurn 147 s w) := by
  have hne : r ≠ K := ne_type hs.rd hK (by decide)
  have hrr : rb ≠ r := ne_type hrb hs.rd (by decide)
  have hrK : rb ≠ K := ne_type hrb hK (by decide)
  have HRB0 := Lib.hid hrb
  clear hrb
  have HS0 := Lib.hid hs
  have HK0 := Lib.hid hK
  have HC0 : Hid (Chg r K w w) := Chg.refl _ _ _
  clear hs hK
  go_enter Tryz.func82, Tryz.ntmps82
  have z0 := blk_cell HRB0.out 0
  simp at z0
  have HSA : Hid (RSt base r (World.drew (World.alloc w (.cells #[.pointer (some ⟨K, 0, none⟩)] 97))) v ys s) := RSt.drew (HS0.out.alloc _)
  have HKA : Hid ((World.heap (World.drew (World.alloc w (.cells #[.pointer (some ⟨K, 0, none⟩)] 97))))[K]? = some (.cells #[.string ⟨#[]⟩, .int .i64 0, .int .i64 0] 147)) := blk_alloc (w := w) HK0.out _
  have HEL : Hid (ElemsAt (World.drew (World.alloc w (.cells #[.pointer (some ⟨K, 0, none⟩)] 97))) (World.heap w).size 97 (ptrs K [0])) := elems_alloc w 97 [.pointer (some ⟨K, 0, none⟩)]
  have HBR : Hid ((World.heap w).size ≠ r) := by have := HS0.out.lt; show _ ≠ _; omega
  have HBK : Hid ((World.heap w).size ≠ K) := by have := blk_lt HK0.out; show _ ≠ _; omega
  go_wp2
  go_region_held3 (fun w' => w'.cell? ⟨rb, 0, none⟩ = some (.pointer (some ⟨r, 0, none⟩))) (go_keep) ((go_at_call 33; refine (textsR_any base r K _ v ys s 147 #[.string ⟨#[]⟩, .int .i64 0, .int .i64 0] [0] 1 rfl _ HSA.out HKA.out hb hne HEL.out HBR.out HBK.out (all1 rfl) (by decide) (by omega)).mono ?_; rintro e y1 ⟨rfl, hst, hk, hc⟩; have HRB1 := Lib.hid (hc.blk (blk_alloc (w := w) HRB0.out _) hrr hrK); have z1 := blk_cell HRB1.out 0; simp at z1))
  clear z0 z1
  have hst2 : RSt base r y1 v ys ((cS.rd ys (s)).2) := hst
  have hk2 : y1.heap[K]? = some (.cells #[.string ((cS.rd ys (s)).1), .int .i64 0, .int .i64 0] 147) := hk
  obtain ⟨qs, e1⟩ : ∃ z, (cS.rd ys (s)).1 = z := ⟨_, rfl⟩
  obtain ⟨s0, e2⟩ : ∃ z, (cS.rd ys (s)).2 = z := ⟨_, rfl⟩
  simp only [e1, e2] at hst2 hk2
  have F0 := Lib.hid e1
  have G0 := Lib.hid e2
  clear e1 e2
  have HS1 := Lib.hid hst2
  have HK1 := Lib.hid hk2
  have HCs : Hid (Chg r K w y1) := (((Chg.refl r K w).alloc _).drew).trans hc
  have HC1 := Lib.hid (HC0.out.trans HCs.out)
  clear hst hst2 hk hk2 hc HCs HSA HKA HEL HBR HBK HS0 HK0 HC0 HRB0
  have z0 := blk_cell HRB1.out 0
  simp at z0
  have HSA : Hid (RSt base r (World.drew (World.alloc y1 (.cells #[.pointer (some ⟨K, 1, none⟩)] 101))) v ys s0) := RSt.drew (HS1.out.alloc _)
  have HKA : Hid ((World.heap (World.drew (World.alloc y1 (.cells #[.pointer (some ⟨K, 1, none⟩)] 101))))[K]? = some (.cells #[.string qs, .int .i64 0, .int .i64 0] 147)) := blk_alloc (w := y1) HK1.out _
  have HEL : Hid (ElemsAt (World.drew (World.alloc y1 (.cells #[.pointer (some ⟨K, 1, none⟩)] 101))) (World.heap y1).size 101 (ptrs K [1])) := elems_alloc y1 101 [.pointer (some ⟨K, 1, none⟩)]
  have HBR : Hid ((World.heap y1).size ≠ r) := by have := HS1.out.lt; show _ ≠ _; omega
  have HBK : Hid ((World.heap y1).size ≠ K) := by have := blk_lt HK1.out; show _ ≠ _; omega
  go_wp2
  go_region_held3 (fun w' => w'.cell? ⟨rb, 0, none⟩ = some (.pointer (some ⟨r, 0, none⟩))) (go_keep) ((go_at_call 35; refine (intsR_any base r K _ v ys s0 147 #[.string qs, .int .i64 0, .int .i64 0] [1] 1 rfl _ HSA.out HKA.out hb hne HEL.out HBR.out HBK.out (all1 ⟨_, rfl⟩) (by decide) (by omega)).mono ?_; rintro e y2 ⟨rfl, hst, hk, hc⟩; have HRB2 := Lib.hid (hc.blk (blk_alloc (w := y1) HRB1.out _) hrr hrK); have z1 := blk_cell HRB2.out 0; simp at z1))
  clear z0 z1
  have hst2 : RSt base r y2 v ys ((cI.rd ys (s0)).2) := hst
  have hk2 : y2.heap[K]? = some (.cells #[.string qs, .int .i64 ((cI.rd ys (s0)).1), .int .i64 0] 147) := hk
  obtain ⟨qn, e1⟩ : ∃ z, (cI.rd ys (s0)).1 = z := ⟨_, rfl⟩
  obtain ⟨s1, e2⟩ : ∃ z, (cI.rd ys (s0)).2 = z := ⟨_, rfl⟩
  simp only [e1, e2] at hst2 hk2
  have F1 := Lib.hid e1
  have G1 := Lib.hid e2
  clear e1 e2
  have HS2 := Lib.hid hst2
  have HK2 := Lib.hid hk2
  have HCs : Hid (Chg r K y1 y2) := (((Chg.refl r K y1).alloc _).drew).trans hc
  have HC2 := Lib.hid (HC1.out.trans HCs.out)
  clear hst hst2 hk hk2 hc HCs HSA HKA HEL HBR HBK HS1 HK1 HC1 HRB1
  have z0 := blk_cell HRB2.out 0
  simp at z0
  have HSA : Hid (RSt base r (World.drew (World.alloc y2 (.cells #[.pointer (some ⟨K, 2, none⟩)] 99))) v ys s1) := RSt.drew (HS2.out.alloc _)
  have HKA : Hid ((World.heap (World.drew (World.alloc y2 (.cells #[.pointer (some ⟨K, 2, none⟩)] 99))))[K]? = some (.cells #[.string qs, .int .i64 qn, .int .i64 0] 147)) := blk_alloc (w := y2) HK2.out _
  have HEL : Hid (ElemsAt (World.drew (World.alloc y2 (.cells #[.pointer (some ⟨K, 2, none⟩)] 99))) (World.heap y2).size 99 (ptrs K [2])) := elems_alloc y2 99 [.pointer (some ⟨K, 2, none⟩)]
  have HBR : Hid ((World.heap y2).size ≠ r) := by have := HS2.out.lt; show _ ≠ _; omega
  have HBK : Hid ((World.heap y2).size ≠ K) := by have := blk_lt HK2.out; show _ ≠ _; omega
  go_wp2
  go_region_held3 (fun w' => w'.cell? ⟨rb, 0, none⟩ = some (.pointer (some ⟨r, 0, none⟩))) (go_keep) ((go_at_call 34; refine (numbersR_any base r K _ v ys s1 147 #[.string qs, .int .i64 qn, .int .i64 0] [2] 1 rfl _ HSA.out HKA.out hb hne HEL.out HBR.out HBK.out (all1 ⟨_, rfl⟩) (by decide) (by omega)).mono ?_; rintro e y3 ⟨rfl, hst, hk, hc⟩; have HRB3 := Lib.hid (hc.blk (blk_alloc (w := y2) HRB2.out _) hrr hrK); have z1 := blk_cell HRB3.out 0; simp at z1))
  clear z0 z1
  have hst2 : RSt base r y3 v ys ((cI.rd ys (s1)).2) := hst
  have hk2 : y3.heap[K]? = some (.cells #[.string qs, .int .i64 qn, .int .i64 ((cI.rd ys (s1)).1)] 147) := hk
  obtain ⟨ql, e1⟩ : ∃ z, (cI.rd ys (s1)).1 = z := ⟨_, rfl⟩
  obtain ⟨s2, e2⟩ : ∃ z, (cI.rd ys (s1)).2 = z := ⟨_, rfl⟩
  simp only [e1, e2] at hst2 hk2
  have F2 := Lib.hid e1
  have G2 := Lib.hid e2
  clear e1 e2
  have HS3 := Lib.hid hst2
  have HK3 := Lib.hid hk2
  have HCs : Hid (Chg r K y2 y3) := (((Chg.refl r K y2).alloc _).drew).trans hc
  have HC3 := Lib.hid (HC2.out.trans HCs.out)
  clear hst hst2 hk hk2 hc HCs HSA HKA HEL HBR HBK HS2 HK2 HC2 HRB2
  have HD : Hid (cTurn.rd ys s = ((qs, qn, ql), s2)) := by
    show _ = _
    simp only [cTurn, cSeq, F0.out, G0.out, F1.out, G1.out, F2.out, G2.out]
  go_wp2
  exact bodyPost_ret (v := .tuple #[]) (by simp [results]) rfl ⟨rfl, by rw [HD.out]; exact HS3.out, ⟨[.string qs, .int .i64 qn, .int .i64 ql], HK3.out, by rw [HD.out]; exact mTurn_mk⟩, HC3.out⟩
set_option maxRecDepth 20000 in
set_option maxHeartbeats 2000000 in
theorem rItem_any (base r rb K : Nat) (v : Value) (ys : List UInt8) (s : Rd) (w : World) (hs : RSt base r w v ys s) (hrb : w.heap[rb]? = some (.cells #[.pointer (some ⟨r, 0, none⟩)] 92)) (hK : w.heap[K]? = some (.cells #[.int .i64 0, .int .i64 0] 152)) (hb : base ≤ K) :
    Calls Tryz.prog 86 #[.pointer (some ⟨K, 0, none⟩), .pointer (some ⟨rb, 0, none⟩)] w (EachPost base r K v ys cItem mItem 152 s w) := by
  have hne : r ≠ K := ne_type hs.rd hK (by decide)
  have hrr : rb ≠ r := ne_type hrb hs.rd (by decide)
  have hrK : rb ≠ K := ne_type hrb hK (by decide)
  have HRB0 := Lib.hid hrb
  clear hrb
  have HS0 := Lib.hid hs
  have HK0 := Lib.hid hK
  have HC0 : Hid (Chg r K w w) := Chg.refl _ _ _
  clear hs hK
  go_enter Tryz.func86, Tryz.ntmps86
  have z0 := blk_cell HRB0.out 0
  simp at z0
  have HSA : Hid (RSt base r (World.drew (World.alloc w (.cells #[.pointer (some ⟨K, 0, none⟩), .pointer (some ⟨K, 1, none⟩)] 101))) v ys s) := RSt.drew (HS0.out.alloc _)
  have HKA : Hid ((World.heap (World.drew (World.alloc w (.cells #[.pointer (some ⟨K, 0, none⟩), .pointer (some ⟨K, 1, none⟩)] 101))))[K]? = some (.cells #[.int .i64 0, .int .i64 0] 152)) := blk_alloc (w := w) HK0.out _
  have HEL : Hid (ElemsAt (World.drew (World.alloc w (.cells #[.pointer (some ⟨K, 0, none⟩), .pointer (some ⟨K, 1, none⟩)] 101))) (World.heap w).size 101 (ptrs K [0, 1])) := elems_alloc w 101 [.pointer (some ⟨K, 0, none⟩), .pointer (some ⟨K, 1, none⟩)]
  have HBR : Hid ((World.heap w).size ≠ r) := by have := HS0.out.lt; show _ ≠ _; omega
  have HBK : Hid ((World.heap w).size ≠ K) := by have := blk_lt HK0.out; show _ ≠ _; omega
  go_wp2
  go_region_held3 (fun w' => w'.cell? ⟨rb, 0, none⟩ = some (.pointer (some ⟨r, 0, none⟩))) (go_keep) ((go_at_call 35; refine (intsR_any base r K _ v ys s 152 #[.int .i64 0, .int .i64 0] [0, 1] 2 rfl _ HSA.out HKA.out hb hne HEL.out HBR.out HBK.out (all2 ⟨_, rfl⟩ ⟨_, rfl⟩) (by decide) (by omega)).mono ?_; rintro e y1 ⟨rfl, hst, hk, hc⟩; have HRB1 := Lib.hid (hc.blk (blk_alloc (w := w) HRB0.out _) hrr hrK); have z1 := blk_cell HRB1.out 0; simp at z1))
  clear z0 z1
  have hst2 : RSt base r y1 v ys ((cI.rd ys ((cI.rd ys (s)).2)).2) := hst
  have hk2 : y1.heap[K]? = some (.cells #[.int .i64 ((cI.rd ys (s)).1), .int .i64 ((cI.rd ys ((cI.rd ys (s)).2)).1)] 152) := hk
  obtain ⟨qn, e1⟩ : ∃ z, (cI.rd ys (s)).1 = z := ⟨_, rfl⟩
  obtain ⟨s0, e2⟩ : ∃ z, (cI.rd ys (s)).2 = z := ⟨_, rfl⟩
  simp only [e1, e2] at hst2 hk2
  have F0 := Lib.hid e1
  have G0 := Lib.hid e2
  clear e1 e2
  obtain ⟨qc, e1⟩ : ∃ z, (cI.rd ys (s0)).1 = z := ⟨_, rfl⟩
  obtain ⟨s1, e2⟩ : ∃ z, (cI.rd ys (s0)).2 = z := ⟨_, rfl⟩
  simp only [e1, e2] at hst2 hk2
  have F1 := Lib.hid e1
  have G1 := Lib.hid e2
  clear e1 e2
  have HS1 := Lib.hid hst2
  have HK1 := Lib.hid hk2
  have HCs : Hid (Chg r K w y1) := (((Chg.refl r K w).alloc _).drew).trans hc
  have HC1 := Lib.hid (HC0.out.trans HCs.out)
  clear hst hst2 hk hk2 hc HCs HSA HKA HEL HBR HBK HS0 HK0 HC0 HRB0
  have HD : Hid (cItem.rd ys s = ((qn, qc), s1)) := by
    show _ = _
    simp only [cItem, cSeq, F0.out, G0.out, F1.out, G1.out]
  go_wp2
  exact bodyPost_ret (v := .tuple #[]) (by simp [results]) rfl ⟨rfl, by rw [HD.out]; exact HS1.out, ⟨[.int .i64 qn, .int .i64 qc], HK1.out, by rw [HD.out]; exact mItem_mk⟩, HC1.out⟩
set_option maxRecDepth 20000 in
set_option maxHeartbeats 2000000 in
theorem rJob_any (base r rb K : Nat) (v : Value) (ys : List UInt8) (s : Rd) (w : World) (hs : RSt base r w v ys s) (hrb : w.heap[rb]? = some (.cells #[.pointer (some ⟨r, 0, none⟩)] 92)) (hK : w.heap[K]? = some (.cells #[.int .i64 0, .string ⟨#[]⟩, .int .i64 0] 67)) (hb : base ≤ K) :
    Calls Tryz.prog 40 #[.pointer (some ⟨K, 0, none⟩), .pointer (some ⟨rb, 0, none⟩)] w (EachPost base r K v ys cJob mJob 67 s w) := by
  have hne : r ≠ K := ne_type hs.rd hK (by decide)
  have hrr : rb ≠ r := ne_type hrb hs.rd (by decide)
  have hrK : rb ≠ K := ne_type hrb hK (by decide)
  have HRB0 := Lib.hid hrb
  clear hrb
  have HS0 := Lib.hid hs
  have HK0 := Lib.hid hK
  have HC0 : Hid (Chg r K w w) := Chg.refl _ _ _
  clear hs hK
  go_enter Tryz.func40, Tryz.ntmps40
  have z0 := blk_cell HRB0.out 0
  simp at z0
  have HSA : Hid (RSt base r (World.drew (World.alloc w (.cells #[.pointer (some ⟨K, 0, none⟩)] 101))) v ys s) := RSt.drew (HS0.out.alloc _)
  have HKA : Hid ((World.heap (World.drew (World.alloc w (.cells #[.pointer (some ⟨K, 0, none⟩)] 101))))[K]? = some (.cells #[.int .i64 0, .string ⟨#[]⟩, .int .i64 0] 67)) := blk_alloc (w := w) HK0.out _
  have HEL : Hid (ElemsAt (World.drew (World.alloc w (.cells #[.pointer (some ⟨K, 0, none⟩)] 101))) (World.heap w).size 101 (ptrs K [0])) := elems_alloc w 101 [.pointer (some ⟨K, 0, none⟩)]
  have HBR : Hid ((World.heap w).size ≠ r) := by have := HS0.out.lt; show _ ≠ _; omega
  have HBK : Hid ((World.heap w).size ≠ K) := by have := blk_lt HK0.out; show _ ≠ _; omega
  go_wp2
  go_region_held3 (fun w' => w'.cell? ⟨rb, 0, none⟩ = some (.pointer (some ⟨r, 0, none⟩))) (go_keep) ((go_at_call 35; refine (intsR_any base r K _ v ys s 67 #[.int .i64 0, .string ⟨#[]⟩, .int .i64 0] [0] 1 rfl _ HSA.out HKA.out hb hne HEL.out HBR.out HBK.out (all1 ⟨_, rfl⟩) (by decide) (by omega)).mono ?_; rintro e y1 ⟨rfl, hst, hk, hc⟩; have HRB1 := Lib.hid (hc.blk (blk_alloc (w := w) HRB0.out _) hrr hrK); have z1 := blk_cell HRB1.out 0; simp at z1))
  clear z0 z1
  have hst2 : RSt base r y1 v ys ((cI.rd ys (s)).2) := hst
  have hk2 : y1.heap[K]? = some (.cells #[.int .i64 ((cI.rd ys (s)).1), .string ⟨#[]⟩, .int .i64 0] 67) := hk
  obtain ⟨qn, e1⟩ : ∃ z, (cI.rd ys (s)).1 = z := ⟨_, rfl⟩
  obtain ⟨s0, e2⟩ : ∃ z, (cI.rd ys (s)).2 = z := ⟨_, rfl⟩
  simp only [e1, e2] at hst2 hk2
  have F0 := Lib.hid e1
  have G0 := Lib.hid e2
  clear e1 e2
  have HS1 := Lib.hid hst2
  have HK1 := Lib.hid hk2
  have HCs : Hid (Chg r K w y1) := (((Chg.refl r K w).alloc _).drew).trans hc
  have HC1 := Lib.hid (HC0.out.trans HCs.out)
  clear hst hst2 hk hk2 hc HCs HSA HKA HEL HBR HBK HS0 HK0 HC0 HRB0
  have z0 := blk_cell HRB1.out 0
  simp at z0
  have HSA : Hid (RSt base r (World.drew (World.alloc y1 (.cells #[.pointer (some ⟨K, 1, none⟩)] 97))) v ys s0) := RSt.drew (HS1.out.alloc _)
  have HKA : Hid ((World.heap (World.drew (World.alloc y1 (.cells #[.pointer (some ⟨K, 1, none⟩)] 97))))[K]? = some (.cells #[.int .i64 qn, .string ⟨#[]⟩, .int .i64 0] 67)) := blk_alloc (w := y1) HK1.out _
  have HEL : Hid (ElemsAt (World.drew (World.alloc y1 (.cells #[.pointer (some ⟨K, 1, none⟩)] 97))) (World.heap y1).size 97 (ptrs K [1])) := elems_alloc y1 97 [.pointer (some ⟨K, 1, none⟩)]
  have HBR : Hid ((World.heap y1).size ≠ r) := by have := HS1.out.lt; show _ ≠ _; omega
  have HBK : Hid ((World.heap y1).size ≠ K) := by have := blk_lt HK1.out; show _ ≠ _; omega
  go_wp2
  go_region_held3 (fun w' => w'.cell? ⟨rb, 0, none⟩ = some (.pointer (some ⟨r, 0, none⟩))) (go_keep) ((go_at_call 33; refine (textsR_any base r K _ v ys s0 67 #[.int .i64 qn, .string ⟨#[]⟩, .int .i64 0] [1] 1 rfl _ HSA.out HKA.out hb hne HEL.out HBR.out HBK.out (all1 rfl) (by decide) (by omega)).mono ?_; rintro e y2 ⟨rfl, hst, hk, hc⟩; have HRB2 := Lib.hid (hc.blk (blk_alloc (w := y1) HRB1.out _) hrr hrK); have z1 := blk_cell HRB2.out 0; simp at z1))
  clear z0 z1
  have hst2 : RSt base r y2 v ys ((cS.rd ys (s0)).2) := hst
  have hk2 : y2.heap[K]? = some (.cells #[.int .i64 qn, .string ((cS.rd ys (s0)).1), .int .i64 0] 67) := hk
  obtain ⟨qs, e1⟩ : ∃ z, (cS.rd ys (s0)).1 = z := ⟨_, rfl⟩
  obtain ⟨s1, e2⟩ : ∃ z, (cS.rd ys (s0)).2 = z := ⟨_, rfl⟩
  simp only [e1, e2] at hst2 hk2
  have F1 := Lib.hid e1
  have G1 := Lib.hid e2
  clear e1 e2
  have HS2 := Lib.hid hst2
  have HK2 := Lib.hid hk2
  have HCs : Hid (Chg r K y1 y2) := (((Chg.refl r K y1).alloc _).drew).trans hc
  have HC2 := Lib.hid (HC1.out.trans HCs.out)
  clear hst hst2 hk hk2 hc HCs HSA HKA HEL HBR HBK HS1 HK1 HC1 HRB1
  have z0 := blk_cell HRB2.out 0
  simp at z0
  have HSA : Hid (RSt base r (World.drew (World.alloc y2 (.cells #[.pointer (some ⟨K, 2, none⟩)] 101))) v ys s1) := RSt.drew (HS2.out.alloc _)
  have HKA : Hid ((World.heap (World.drew (World.alloc y2 (.cells #[.pointer (some ⟨K, 2, none⟩)] 101))))[K]? = some (.cells #[.int .i64 qn, .string qs, .int .i64 0] 67)) := blk_alloc (w := y2) HK2.out _
  have HEL : Hid (ElemsAt (World.drew (World.alloc y2 (.cells #[.pointer (some ⟨K, 2, none⟩)] 101))) (World.heap y2).size 101 (ptrs K [2])) := elems_alloc y2 101 [.pointer (some ⟨K, 2, none⟩)]
  have HBR : Hid ((World.heap y2).size ≠ r) := by have := HS2.out.lt; show _ ≠ _; omega
  have HBK : Hid ((World.heap y2).size ≠ K) := by have := blk_lt HK2.out; show _ ≠ _; omega
  go_wp2
  go_region_held3 (fun w' => w'.cell? ⟨rb, 0, none⟩ = some (.pointer (some ⟨r, 0, none⟩))) (go_keep) ((go_at_call 35; refine (intsR_any base r K _ v ys s1 67 #[.int .i64 qn, .string qs, .int .i64 0] [2] 1 rfl _ HSA.out HKA.out hb hne HEL.out HBR.out HBK.out (all1 ⟨_, rfl⟩) (by decide) (by omega)).mono ?_; rintro e y3 ⟨rfl, hst, hk, hc⟩; have HRB3 := Lib.hid (hc.blk (blk_alloc (w := y2) HRB2.out _) hrr hrK); have z1 := blk_cell HRB3.out 0; simp at z1))
  clear z0 z1
  have hst2 : RSt base r y3 v ys ((cI.rd ys (s1)).2) := hst
  have hk2 : y3.heap[K]? = some (.cells #[.int .i64 qn, .string qs, .int .i64 ((cI.rd ys (s1)).1)] 67) := hk
  obtain ⟨qk, e1⟩ : ∃ z, (cI.rd ys (s1)).1 = z := ⟨_, rfl⟩
  obtain ⟨s2, e2⟩ : ∃ z, (cI.rd ys (s1)).2 = z := ⟨_, rfl⟩
  simp only [e1, e2] at hst2 hk2
  have F2 := Lib.hid e1
  have G2 := Lib.hid e2
  clear e1 e2
  have HS3 := Lib.hid hst2
  have HK3 := Lib.hid hk2
  have HCs : Hid (Chg r K y2 y3) := (((Chg.refl r K y2).alloc _).drew).trans hc
  have HC3 := Lib.hid (HC2.out.trans HCs.out)
  clear hst hst2 hk hk2 hc HCs HSA HKA HEL HBR HBK HS2 HK2 HC2 HRB2
  have HD : Hid (cJob.rd ys s = ((qn, qs, qk), s2)) := by
    show _ = _
    simp only [cJob, cSeq, F0.out, G0.out, F1.out, G1.out, F2.out, G2.out]
  go_wp2
  exact bodyPost_ret (v := .tuple #[]) (by simp [results]) rfl ⟨rfl, by rw [HD.out]; exact HS3.out, ⟨[.int .i64 qn, .string qs, .int .i64 qk], HK3.out, by rw [HD.out]; exact mJob_mk⟩, HC3.out⟩
set_option maxRecDepth 20000 in
set_option maxHeartbeats 2000000 in
theorem rWorker_any (base r rb K : Nat) (v : Value) (ys : List UInt8) (s : Rd) (w : World) (hs : RSt base r w v ys s) (hrb : w.heap[rb]? = some (.cells #[.pointer (some ⟨r, 0, none⟩)] 92)) (hK : w.heap[K]? = some (.cells #[.int .i64 0, .int .i64 0] 87)) (hb : base ≤ K) :
    Calls Tryz.prog 42 #[.pointer (some ⟨K, 0, none⟩), .pointer (some ⟨rb, 0, none⟩)] w (EachPost base r K v ys cWorker mWorker 87 s w) := by
  have hne : r ≠ K := ne_type hs.rd hK (by decide)
  have hrr : rb ≠ r := ne_type hrb hs.rd (by decide)
  have hrK : rb ≠ K := ne_type hrb hK (by decide)
  have HRB0 := Lib.hid hrb
  clear hrb
  have HS0 := Lib.hid hs
  have HK0 := Lib.hid hK
  have HC0 : Hid (Chg r K w w) := Chg.refl _ _ _
  clear hs hK
  go_enter Tryz.func42, Tryz.ntmps42
  have z0 := blk_cell HRB0.out 0
  simp at z0
  have HSA : Hid (RSt base r (World.drew (World.alloc w (.cells #[.pointer (some ⟨K, 0, none⟩)] 101))) v ys s) := RSt.drew (HS0.out.alloc _)
  have HKA : Hid ((World.heap (World.drew (World.alloc w (.cells #[.pointer (some ⟨K, 0, none⟩)] 101))))[K]? = some (.cells #[.int .i64 0, .int .i64 0] 87)) := blk_alloc (w := w) HK0.out _
  have HEL : Hid (ElemsAt (World.drew (World.alloc w (.cells #[.pointer (some ⟨K, 0, none⟩)] 101))) (World.heap w).size 101 (ptrs K [0])) := elems_alloc w 101 [.pointer (some ⟨K, 0, none⟩)]
  have HBR : Hid ((World.heap w).size ≠ r) := by have := HS0.out.lt; show _ ≠ _; omega
  have HBK : Hid ((World.heap w).size ≠ K) := by have := blk_lt HK0.out; show _ ≠ _; omega
  go_wp2
  go_region_held3 (fun w' => w'.cell? ⟨rb, 0, none⟩ = some (.pointer (some ⟨r, 0, none⟩))) (go_keep) ((go_at_call 35; refine (intsR_any base r K _ v ys s 87 #[.int .i64 0, .int .i64 0] [0] 1 rfl _ HSA.out HKA.out hb hne HEL.out HBR.out HBK.out (all1 ⟨_, rfl⟩) (by decide) (by omega)).mono ?_; rintro e y1 ⟨rfl, hst, hk, hc⟩; have HRB1 := Lib.hid (hc.blk (blk_alloc (w := w) HRB0.out _) hrr hrK); have z1 := blk_cell HRB1.out 0; simp at z1))
  clear z0 z1
  have hst2 : RSt base r y1 v ys ((cI.rd ys (s)).2) := hst
  have hk2 : y1.heap[K]? = some (.cells #[.int .i64 ((cI.rd ys (s)).1), .int .i64 0] 87) := hk
  obtain ⟨qn, e1⟩ : ∃ z, (cI.rd ys (s)).1 = z := ⟨_, rfl⟩
  obtain ⟨s0, e2⟩ : ∃ z, (cI.rd ys (s)).2 = z := ⟨_, rfl⟩
  simp only [e1, e2] at hst2 hk2
  have F0 := Lib.hid e1
  have G0 := Lib.hid e2
  clear e1 e2
  have HS1 := Lib.hid hst2
  have HK1 := Lib.hid hk2
  have HCs : Hid (Chg r K w y1) := (((Chg.refl r K w).alloc _).drew).trans hc
  have HC1 := Lib.hid (HC0.out.trans HCs.out)
  clear hst hst2 hk hk2 hc HCs HSA HKA HEL HBR HBK HS0 HK0 HC0 HRB0
  have z0 := blk_cell HRB1.out 0
  simp at z0
  have HSA : Hid (RSt base r (World.drew (World.alloc y1 (.cells #[.pointer (some ⟨K, 1, none⟩)] 99))) v ys s0) := RSt.drew (HS1.out.alloc _)
  have HKA : Hid ((World.heap (World.drew (World.alloc y1 (.cells #[.pointer (some ⟨K, 1, none⟩)] 99))))[K]? = some (.cells #[.int .i64 qn, .int .i64 0] 87)) := blk_alloc (w := y1) HK1.out _
  have HEL : Hid (ElemsAt (World.drew (World.alloc y1 (.cells #[.pointer (some ⟨K, 1, none⟩)] 99))) (World.heap y1).size 99 (ptrs K [1])) := elems_alloc y1 99 [.pointer (some ⟨K, 1, none⟩)]
  have HBR : Hid ((World.heap y1).size ≠ r) := by have := HS1.out.lt; show _ ≠ _; omega
  have HBK : Hid ((World.heap y1).size ≠ K) := by have := blk_lt HK1.out; show _ ≠ _; omega
  go_wp2
  go_region_held3 (fun w' => w'.cell? ⟨rb, 0, none⟩ = some (.pointer (some ⟨r, 0, none⟩))) (go_keep) ((go_at_call 34; refine (numbersR_any base r K _ v ys s0 87 #[.int .i64 qn, .int .i64 0] [1] 1 rfl _ HSA.out HKA.out hb hne HEL.out HBR.out HBK.out (all1 ⟨_, rfl⟩) (by decide) (by omega)).mono ?_; rintro e y2 ⟨rfl, hst, hk, hc⟩; have HRB2 := Lib.hid (hc.blk (blk_alloc (w := y1) HRB1.out _) hrr hrK); have z1 := blk_cell HRB2.out 0; simp at z1))
  clear z0 z1
  have hst2 : RSt base r y2 v ys ((cI.rd ys (s0)).2) := hst
  have hk2 : y2.heap[K]? = some (.cells #[.int .i64 qn, .int .i64 ((cI.rd ys (s0)).1)] 87) := hk
  obtain ⟨qt, e1⟩ : ∃ z, (cI.rd ys (s0)).1 = z := ⟨_, rfl⟩
  obtain ⟨s1, e2⟩ : ∃ z, (cI.rd ys (s0)).2 = z := ⟨_, rfl⟩
  simp only [e1, e2] at hst2 hk2
  have F1 := Lib.hid e1
  have G1 := Lib.hid e2
  clear e1 e2
  have HS2 := Lib.hid hst2
  have HK2 := Lib.hid hk2
  have HCs : Hid (Chg r K y1 y2) := (((Chg.refl r K y1).alloc _).drew).trans hc
  have HC2 := Lib.hid (HC1.out.trans HCs.out)
  clear hst hst2 hk hk2 hc HCs HSA HKA HEL HBR HBK HS1 HK1 HC1 HRB1
  have HD : Hid (cWorker.rd ys s = ((qn, qt), s1)) := by
    show _ = _
    simp only [cWorker, cSeq, F0.out, G0.out, F1.out, G1.out]
  go_wp2
  exact bodyPost_ret (v := .tuple #[]) (by simp [results]) rfl ⟨rfl, by rw [HD.out]; exact HS2.out, ⟨[.int .i64 qn, .int .i64 qt], HK2.out, by rw [HD.out]; exact mWorker_mk⟩, HC2.out⟩
end Go.Proofs.YtckooioikcenmaaGreat
namespace Go.Proofs.YtckooioikcenmaaGreat
open Go.RowKit
set_option maxRecDepth 20000 in
set_option maxHeartbeats 2000000 in
theorem rTask_any (base r K : Nat) (v : Value) (ys : List UInt8) (s : Rd) (u0 : Value) (w : World) (hs : RSt base r w v ys s) (hK : w.heap[K]? = some (.cells #[u0, .int .i64 0, .int .i64 0, .int .u8 0, .int .i64 0, .int .i64 0, .int .i64 0, .int .i64 0, .int .i64 0, .int .i64 0, .int .i64 0] 138)) (hb : base ≤ K) :
    Calls Tryz.prog 78 #[.pointer (some ⟨r, 0, none⟩), .pointer (some ⟨K, 1, none⟩)] w fun e w' => e = .returned (.tuple #[]) ∧ RSt base r w' v ys (cTask.rd ys s).2 ∧ (∃ g0 g1 g2 g3 g4 g5 g6 g7 g8 g9 : Value, w'.heap[K]? = some (.cells #[u0, g0, g1, g2, g3, g4, g5, g6, g7, g8, g9] 138) ∧ mTask.own base w' [g0, g1, g2, g3, g4, g5, g6, g7, g8, g9] (cTask.rd ys s).1) ∧ Chg r K w w' := by
  have hne : r ≠ K := ne_type hs.rd hK (by decide)
  have HS0 := Lib.hid hs
  have HK0 := Lib.hid hK
  have HC0 : Hid (Chg r K w w) := Chg.refl _ _ _
  clear hs hK
  go_enter Tryz.func78, Tryz.ntmps78
  have HSA : Hid (RSt base r (World.alloc w (.cells #[.pointer (some ⟨K, 1, none⟩)] 99)) v ys s) := HS0.out.alloc _
  have HKA : Hid ((World.heap (World.alloc w (.cells #[.pointer (some ⟨K, 1, none⟩)] 99)))[K]? = some (.cells #[u0, .int .i64 0, .int .i64 0, .int .u8 0, .int .i64 0, .int .i64 0, .int .i64 0, .int .i64 0, .int .i64 0, .int .i64 0, .int .i64 0] 138)) := blk_alloc (w := w) HK0.out _
  have HEL : Hid (ElemsAt (World.alloc w (.cells #[.pointer (some ⟨K, 1, none⟩)] 99)) (World.heap w).size 99 (ptrs K [1])) := elems_alloc w 99 [.pointer (some ⟨K, 1, none⟩)]
  have HBR : Hid ((World.heap w).size ≠ r) := by have := HS0.out.lt; show _ ≠ _; omega
  have HBK : Hid ((World.heap w).size ≠ K) := by have := blk_lt HK0.out; show _ ≠ _; omega
  go_wp2_with fail
  refine (numbersR_any base r K _ v ys s 138 #[u0, .int .i64 0, .int .i64 0, .int .u8 0, .int .i64 0, .int .i64 0, .int .i64 0, .int .i64 0, .int .i64 0, .int .i64 0, .int .i64 0] [1] 1 rfl _ HSA.out HKA.out hb hne HEL.out HBR.out HBK.out (all1 ⟨_, rfl⟩) (by decide) (by omega)).mono ?_
  rintro e y1 ⟨rfl, hst, hk, hc⟩
  have hst2 : RSt base r y1 v ys ((cI.rd ys (s)).2) := hst
  have hk2 : y1.heap[K]? = some (.cells #[u0, .int .i64 ((cI.rd ys (s)).1), .int .i64 0, .int .u8 0, .int .i64 0, .int .i64 0, .int .i64 0, .int .i64 0, .int .i64 0, .int .i64 0, .int .i64 0] 138) := hk
  obtain ⟨qa, e1⟩ : ∃ z, (cI.rd ys (s)).1 = z := ⟨_, rfl⟩
  obtain ⟨s0, e2⟩ : ∃ z, (cI.rd ys (s)).2 = z := ⟨_, rfl⟩
  simp only [e1, e2] at hst2 hk2
  have F0 := Lib.hid e1
  have G0 := Lib.hid e2
  clear e1 e2
  have HS1 := Lib.hid hst2
  have HK1 := Lib.hid hk2
  have HCs : Hid (Chg r K w y1) := (((Chg.refl r K w).alloc _)).trans hc
  have HC1 := Lib.hid (HC0.out.trans HCs.out)
  clear hst hst2 hk hk2 hc HCs HSA HKA HEL HBR HBK HS0 HK0 HC0
  have HSA : Hid (RSt base r (World.alloc y1 (.cells #[.pointer (some ⟨K, 2, none⟩)] 101)) v ys s0) := HS1.out.alloc _
  have HKA : Hid ((World.heap (World.alloc y1 (.cells #[.pointer (some ⟨K, 2, none⟩)] 101)))[K]? = some (.cells #[u0, .int .i64 qa, .int .i64 0, .int .u8 0, .int .i64 0, .int .i64 0, .int .i64 0, .int .i64 0, .int .i64 0, .int .i64 0, .int .i64 0] 138)) := blk_alloc (w := y1) HK1.out _
  have HEL : Hid (ElemsAt (World.alloc y1 (.cells #[.pointer (some ⟨K, 2, none⟩)] 101)) (World.heap y1).size 101 (ptrs K [2])) := elems_alloc y1 101 [.pointer (some ⟨K, 2, none⟩)]
  have HBR : Hid ((World.heap y1).size ≠ r) := by have := HS1.out.lt; show _ ≠ _; omega
  have HBK : Hid ((World.heap y1).size ≠ K) := by have := blk_lt HK1.out; show _ ≠ _; omega
  go_wp2_with fail
  refine (intsR_any base r K _ v ys s0 138 #[u0, .int .i64 qa, .int .i64 0, .int .u8 0, .int .i64 0, .int .i64 0, .int .i64 0, .int .i64 0, .int .i64 0, .int .i64 0, .int .i64 0] [2] 1 rfl _ HSA.out HKA.out hb hne HEL.out HBR.out HBK.out (all1 ⟨_, rfl⟩) (by decide) (by omega)).mono ?_
  rintro e y2 ⟨rfl, hst, hk, hc⟩
  have hst2 : RSt base r y2 v ys ((cI.rd ys (s0)).2) := hst
  have hk2 : y2.heap[K]? = some (.cells #[u0, .int .i64 qa, .int .i64 ((cI.rd ys (s0)).1), .int .u8 0, .int .i64 0, .int .i64 0, .int .i64 0, .int .i64 0, .int .i64 0, .int .i64 0, .int .i64 0] 138) := hk
  obtain ⟨qb, e1⟩ : ∃ z, (cI.rd ys (s0)).1 = z := ⟨_, rfl⟩
  obtain ⟨s1, e2⟩ : ∃ z, (cI.rd ys (s0)).2 = z := ⟨_, rfl⟩
  simp only [e1, e2] at hst2 hk2
  have F1 := Lib.hid e1
  have G1 := Lib.hid e2
  clear e1 e2
  have HS2 := Lib.hid hst2
  have HK2 := Lib.hid hk2
  have HCs : Hid (Chg r K y1 y2) := (((Chg.refl r K y1).alloc _)).trans hc
  have HC2 := Lib.hid (HC1.out.trans HCs.out)
  clear hst hst2 hk hk2 hc HCs HSA HKA HEL HBR HBK HS1 HK1 HC1
  go_wp2_with fail
  refine (small_any base r v ys s1 _ HS2.out).mono ?_
  rintro e y3 ⟨rfl, hst, hg⟩
  have hst2 : RSt base r y3 v ys (cB.rd ys s1).2 := hst
  obtain ⟨qc, e1⟩ : ∃ z, (cB.rd ys s1).1 = z := ⟨_, rfl⟩
  obtain ⟨s2, e2⟩ : ∃ z, (cB.rd ys s1).2 = z := ⟨_, rfl⟩
  rw [show (rdB ys s1).1 = qc from e1]
  rw [e2] at hst2
  have F2 := Lib.hid e1
  have G2 := Lib.hid e2
  clear e1 e2
  have hk := (Chg.grown (K := K) hg)
  have hk2 : y3.heap[K]? = some (.cells #[u0, .int .i64 qa, .int .i64 qb, .int .u8 0, .int .i64 0, .int .i64 0, .int .i64 0, .int .i64 0, .int .i64 0, .int .i64 0, .int .i64 0] 138) := (hg.block K (blk_lt HK2.out) (fun e => hne (by injection e with e; exact e.symm))).trans HK2.out
  have q := blk_cell hk2 3
  have qf := blk_free hk2 3
  simp at q
  have HS3 : Hid (RSt base r (y3.setCell ⟨K, 3, none⟩ (.int .u8 qc)) v ys s2) := hst2.set hb hne _ _
  have HK3 : Hid ((World.heap (y3.setCell ⟨K, 3, none⟩ (.int .u8 qc)))[K]? = some (.cells #[u0, .int .i64 qa, .int .i64 qb, .int .u8 qc, .int .i64 0, .int .i64 0, .int .i64 0, .int .i64 0, .int .i64 0, .int .i64 0, .int .i64 0] 138)) := blk_set hk2 3 _
  have HCs : Hid (Chg r K y2 (y3.setCell ⟨K, 3, none⟩ (.int .u8 qc))) := (Chg.grown hg).setK _ _
  have HC3 := Lib.hid (HC2.out.trans HCs.out)
  clear hst hst2 hg hk hk2 HCs HS2 HK2 HC2
  have HSA : Hid (RSt base r (World.drew (World.alloc (y3.setCell ⟨K, 3, none⟩ (.int .u8 qc)) (.cells #[.pointer (some ⟨K, 4, none⟩), .pointer (some ⟨K, 5, none⟩)] 99))) v ys s2) := RSt.drew (HS3.out.alloc _)
  have HKA : Hid ((World.heap (World.drew (World.alloc (y3.setCell ⟨K, 3, none⟩ (.int .u8 qc)) (.cells #[.pointer (some ⟨K, 4, none⟩), .pointer (some ⟨K, 5, none⟩)] 99))))[K]? = some (.cells #[u0, .int .i64 qa, .int .i64 qb, .int .u8 qc, .int .i64 0, .int .i64 0, .int .i64 0, .int .i64 0, .int .i64 0, .int .i64 0, .int .i64 0] 138)) := blk_alloc (w := (y3.setCell ⟨K, 3, none⟩ (.int .u8 qc))) HK3.out _
  have HEL : Hid (ElemsAt (World.drew (World.alloc (y3.setCell ⟨K, 3, none⟩ (.int .u8 qc)) (.cells #[.pointer (some ⟨K, 4, none⟩), .pointer (some ⟨K, 5, none⟩)] 99))) (World.heap y3).size 99 (ptrs K [4, 5])) := by have q := elems_alloc (y3.setCell ⟨K, 3, none⟩ (.int .u8 qc)) 99 [.pointer (some ⟨K, 4, none⟩), .pointer (some ⟨K, 5, none⟩)]; rw [show (World.heap (y3.setCell ⟨K, 3, none⟩ (.int .u8 qc))).size = (World.heap y3).size by simp] at q; exact q
  have HBR : Hid ((World.heap y3).size ≠ r) := by have := HS3.out.lt; rw [show (World.heap (y3.setCell ⟨K, 3, none⟩ (.int .u8 qc))).size = (World.heap y3).size by simp] at this; show _ ≠ _; omega
  have HBK : Hid ((World.heap y3).size ≠ K) := by have := blk_lt HK3.out; rw [show (World.heap (y3.setCell ⟨K, 3, none⟩ (.int .u8 qc))).size = (World.heap y3).size by simp] at this; show _ ≠ _; omega
  have z0 := blk_cell HS3.out.rd 1
  simp at z0
  go_wp2
  go_region_held3 (fun _ => True) (trivial) ((go_at_call 34; refine (numbersR_any base r K _ v ys s2 138 #[u0, .int .i64 qa, .int .i64 qb, .int .u8 qc, .int .i64 0, .int .i64 0, .int .i64 0, .int .i64 0, .int .i64 0, .int .i64 0, .int .i64 0] [4, 5] 2 rfl _ HSA.out HKA.out hb hne HEL.out HBR.out HBK.out (all2 ⟨_, rfl⟩ ⟨_, rfl⟩) (by decide) (by omega)).mono ?_; rintro e y4 ⟨rfl, hst, hk, hc⟩))
  clear z0
  have hst2 : RSt base r y4 v ys ((cI.rd ys ((cI.rd ys (s2)).2)).2) := hst
  have hk2 : y4.heap[K]? = some (.cells #[u0, .int .i64 qa, .int .i64 qb, .int .u8 qc, .int .i64 ((cI.rd ys (s2)).1), .int .i64 ((cI.rd ys ((cI.rd ys (s2)).2)).1), .int .i64 0, .int .i64 0, .int .i64 0, .int .i64 0, .int .i64 0] 138) := hk
  obtain ⟨qd, e1⟩ : ∃ z, (cI.rd ys (s2)).1 = z := ⟨_, rfl⟩
  obtain ⟨s3, e2⟩ : ∃ z, (cI.rd ys (s2)).2 = z := ⟨_, rfl⟩
  simp only [e1, e2] at hst2 hk2
  have F3 := Lib.hid e1
  have G3 := Lib.hid e2
  clear e1 e2
  obtain ⟨qe, e1⟩ : ∃ z, (cI.rd ys (s3)).1 = z := ⟨_, rfl⟩
  obtain ⟨s4, e2⟩ : ∃ z, (cI.rd ys (s3)).2 = z := ⟨_, rfl⟩
  simp only [e1, e2] at hst2 hk2
  have F4 := Lib.hid e1
  have G4 := Lib.hid e2
  clear e1 e2
  have HS4 := Lib.hid hst2
  have HK4 := Lib.hid hk2
  have HCs : Hid (Chg r K (y3.setCell ⟨K, 3, none⟩ (.int .u8 qc)) y4) := (((Chg.refl r K (y3.setCell ⟨K, 3, none⟩ (.int .u8 qc))).alloc _).drew).trans hc
  have HC4 := Lib.hid (HC3.out.trans HCs.out)
  clear hst hst2 hk hk2 hc HCs HSA HKA HEL HBR HBK HS3 HK3 HC3
  have HSA : Hid (RSt base r (World.alloc y4 (.cells #[.pointer (some ⟨K, 6, none⟩)] 101)) v ys s4) := HS4.out.alloc _
  have HKA : Hid ((World.heap (World.alloc y4 (.cells #[.pointer (some ⟨K, 6, none⟩)] 101)))[K]? = some (.cells #[u0, .int .i64 qa, .int .i64 qb, .int .u8 qc, .int .i64 qd, .int .i64 qe, .int .i64 0, .int .i64 0, .int .i64 0, .int .i64 0, .int .i64 0] 138)) := blk_alloc (w := y4) HK4.out _
  have HEL : Hid (ElemsAt (World.alloc y4 (.cells #[.pointer (some ⟨K, 6, none⟩)] 101)) (World.heap y4).size 101 (ptrs K [6])) := elems_alloc y4 101 [.pointer (some ⟨K, 6, none⟩)]
  have HBR : Hid ((World.heap y4).size ≠ r) := by have := HS4.out.lt; show _ ≠ _; omega
  have HBK : Hid ((World.heap y4).size ≠ K) := by have := blk_lt HK4.out; show _ ≠ _; omega
  go_wp2_with fail
  refine (intsR_any base r K _ v ys s4 138 #[u0, .int .i64 qa, .int .i64 qb, .int .u8 qc, .int .i64 qd, .int .i64 qe, .int .i64 0, .int .i64 0, .int .i64 0, .int .i64 0, .int .i64 0] [6] 1 rfl _ HSA.out HKA.out hb hne HEL.out HBR.out HBK.out (all1 ⟨_, rfl⟩) (by decide) (by omega)).mono ?_
  rintro e y5 ⟨rfl, hst, hk, hc⟩
  have hst2 : RSt base r y5 v ys ((cI.rd ys (s4)).2) := hst
  have hk2 : y5.heap[K]? = some (.cells #[u0, .int .i64 qa, .int .i64 qb, .int .u8 qc, .int .i64 qd, .int .i64 qe, .int .i64 ((cI.rd ys (s4)).1), .int .i64 0, .int .i64 0, .int .i64 0, .int .i64 0] 138) := hk
  obtain ⟨qf, e1⟩ : ∃ z, (cI.rd ys (s4)).1 = z := ⟨_, rfl⟩
  obtain ⟨s5, e2⟩ : ∃ z, (cI.rd ys (s4)).2 = z := ⟨_, rfl⟩
  simp only [e1, e2] at hst2 hk2
  have F5 := Lib.hid e1
  have G5 := Lib.hid e2
  clear e1 e2
  have HS5 := Lib.hid hst2
  have HK5 := Lib.hid hk2
  have HCs : Hid (Chg r K y4 y5) := (((Chg.refl r K y4).alloc _)).trans hc
  have HC5 := Lib.hid (HC4.out.trans HCs.out)
  clear hst hst2 hk hk2 hc HCs HSA HKA HEL HBR HBK HS4 HK4 HC4
  have HSA : Hid (RSt base r (World.drew (World.alloc y5 (.cells #[.pointer (some ⟨K, 7, none⟩), .pointer (some ⟨K, 8, none⟩)] 99))) v ys s5) := RSt.drew (HS5.out.alloc _)
  have HKA : Hid ((World.heap (World.drew (World.alloc y5 (.cells #[.pointer (some ⟨K, 7, none⟩), .pointer (some ⟨K, 8, none⟩)] 99))))[K]? = some (.cells #[u0, .int .i64 qa, .int .i64 qb, .int .u8 qc, .int .i64 qd, .int .i64 qe, .int .i64 qf, .int .i64 0, .int .i64 0, .int .i64 0, .int .i64 0] 138)) := blk_alloc (w := y5) HK5.out _
  have HEL : Hid (ElemsAt (World.drew (World.alloc y5 (.cells #[.pointer (some ⟨K, 7, none⟩), .pointer (some ⟨K, 8, none⟩)] 99))) (World.heap y5).size 99 (ptrs K [7, 8])) := elems_alloc y5 99 [.pointer (some ⟨K, 7, none⟩), .pointer (some ⟨K, 8, none⟩)]
  have HBR : Hid ((World.heap y5).size ≠ r) := by have := HS5.out.lt; show _ ≠ _; omega
  have HBK : Hid ((World.heap y5).size ≠ K) := by have := blk_lt HK5.out; show _ ≠ _; omega
  have z0 := blk_cell HS5.out.rd 1
  simp at z0
  go_wp2
  go_region_held3 (fun _ => True) (trivial) ((go_at_call 34; refine (numbersR_any base r K _ v ys s5 138 #[u0, .int .i64 qa, .int .i64 qb, .int .u8 qc, .int .i64 qd, .int .i64 qe, .int .i64 qf, .int .i64 0, .int .i64 0, .int .i64 0, .int .i64 0] [7, 8] 2 rfl _ HSA.out HKA.out hb hne HEL.out HBR.out HBK.out (all2 ⟨_, rfl⟩ ⟨_, rfl⟩) (by decide) (by omega)).mono ?_; rintro e y6 ⟨rfl, hst, hk, hc⟩))
  clear z0
  have hst2 : RSt base r y6 v ys ((cI.rd ys ((cI.rd ys (s5)).2)).2) := hst
  have hk2 : y6.heap[K]? = some (.cells #[u0, .int .i64 qa, .int .i64 qb, .int .u8 qc, .int .i64 qd, .int .i64 qe, .int .i64 qf, .int .i64 ((cI.rd ys (s5)).1), .int .i64 ((cI.rd ys ((cI.rd ys (s5)).2)).1), .int .i64 0, .int .i64 0] 138) := hk
  obtain ⟨qg, e1⟩ : ∃ z, (cI.rd ys (s5)).1 = z := ⟨_, rfl⟩
  obtain ⟨s6, e2⟩ : ∃ z, (cI.rd ys (s5)).2 = z := ⟨_, rfl⟩
  simp only [e1, e2] at hst2 hk2
  have F6 := Lib.hid e1
  have G6 := Lib.hid e2
  clear e1 e2
  obtain ⟨qh, e1⟩ : ∃ z, (cI.rd ys (s6)).1 = z := ⟨_, rfl⟩
  obtain ⟨s7, e2⟩ : ∃ z, (cI.rd ys (s6)).2 = z := ⟨_, rfl⟩
  simp only [e1, e2] at hst2 hk2
  have F7 := Lib.hid e1
  have G7 := Lib.hid e2
  clear e1 e2
  have HS6 := Lib.hid hst2
  have HK6 := Lib.hid hk2
  have HCs : Hid (Chg r K y5 y6) := (((Chg.refl r K y5).alloc _).drew).trans hc
  have HC6 := Lib.hid (HC5.out.trans HCs.out)
  clear hst hst2 hk hk2 hc HCs HSA HKA HEL HBR HBK HS5 HK5 HC5
  have HSA : Hid (RSt base r (World.alloc y6 (.cells #[.pointer (some ⟨K, 9, none⟩)] 101)) v ys s7) := HS6.out.alloc _
  have HKA : Hid ((World.heap (World.alloc y6 (.cells #[.pointer (some ⟨K, 9, none⟩)] 101)))[K]? = some (.cells #[u0, .int .i64 qa, .int .i64 qb, .int .u8 qc, .int .i64 qd, .int .i64 qe, .int .i64 qf, .int .i64 qg, .int .i64 qh, .int .i64 0, .int .i64 0] 138)) := blk_alloc (w := y6) HK6.out _
  have HEL : Hid (ElemsAt (World.alloc y6 (.cells #[.pointer (some ⟨K, 9, none⟩)] 101)) (World.heap y6).size 101 (ptrs K [9])) := elems_alloc y6 101 [.pointer (some ⟨K, 9, none⟩)]
  have HBR : Hid ((World.heap y6).size ≠ r) := by have := HS6.out.lt; show _ ≠ _; omega
  have HBK : Hid ((World.heap y6).size ≠ K) := by have := blk_lt HK6.out; show _ ≠ _; omega
  go_wp2_with fail
  refine (intsR_any base r K _ v ys s7 138 #[u0, .int .i64 qa, .int .i64 qb, .int .u8 qc, .int .i64 qd, .int .i64 qe, .int .i64 qf, .int .i64 qg, .int .i64 qh, .int .i64 0, .int .i64 0] [9] 1 rfl _ HSA.out HKA.out hb hne HEL.out HBR.out HBK.out (all1 ⟨_, rfl⟩) (by decide) (by omega)).mono ?_
  rintro e y7 ⟨rfl, hst, hk, hc⟩
  have hst2 : RSt base r y7 v ys ((cI.rd ys (s7)).2) := hst
  have hk2 : y7.heap[K]? = some (.cells #[u0, .int .i64 qa, .int .i64 qb, .int .u8 qc, .int .i64 qd, .int .i64 qe, .int .i64 qf, .int .i64 qg, .int .i64 qh, .int .i64 ((cI.rd ys (s7)).1), .int .i64 0] 138) := hk
  obtain ⟨qi, e1⟩ : ∃ z, (cI.rd ys (s7)).1 = z := ⟨_, rfl⟩
  obtain ⟨s8, e2⟩ : ∃ z, (cI.rd ys (s7)).2 = z := ⟨_, rfl⟩
  simp only [e1, e2] at hst2 hk2
  have F8 := Lib.hid e1
  have G8 := Lib.hid e2
  clear e1 e2
  have HS7 := Lib.hid hst2
  have HK7 := Lib.hid hk2
  have HCs : Hid (Chg r K y6 y7) := (((Chg.refl r K y6).alloc _)).trans hc
  have HC7 := Lib.hid (HC6.out.trans HCs.out)
  clear hst hst2 hk hk2 hc HCs HSA HKA HEL HBR HBK HS6 HK6 HC6
  have HSA : Hid (RSt base r (World.alloc y7 (.cells #[.pointer (some ⟨K, 10, none⟩)] 99)) v ys s8) := HS7.out.alloc _
  have HKA : Hid ((World.heap (World.alloc y7 (.cells #[.pointer (some ⟨K, 10, none⟩)] 99)))[K]? = some (.cells #[u0, .int .i64 qa, .int .i64 qb, .int .u8 qc, .int .i64 qd, .int .i64 qe, .int .i64 qf, .int .i64 qg, .int .i64 qh, .int .i64 qi, .int .i64 0] 138)) := blk_alloc (w := y7) HK7.out _
  have HEL : Hid (ElemsAt (World.alloc y7 (.cells #[.pointer (some ⟨K, 10, none⟩)] 99)) (World.heap y7).size 99 (ptrs K [10])) := elems_alloc y7 99 [.pointer (some ⟨K, 10, none⟩)]
  have HBR : Hid ((World.heap y7).size ≠ r) := by have := HS7.out.lt; show _ ≠ _; omega
  have HBK : Hid ((World.heap y7).size ≠ K) := by have := blk_lt HK7.out; show _ ≠ _; omega
  go_wp2_with fail
  refine (numbersR_any base r K _ v ys s8 138 #[u0, .int .i64 qa, .int .i64 qb, .int .u8 qc, .int .i64 qd, .int .i64 qe, .int .i64 qf, .int .i64 qg, .int .i64 qh, .int .i64 qi, .int .i64 0] [10] 1 rfl _ HSA.out HKA.out hb hne HEL.out HBR.out HBK.out (all1 ⟨_, rfl⟩) (by decide) (by omega)).mono ?_
  rintro e y8 ⟨rfl, hst, hk, hc⟩
  have hst2 : RSt base r y8 v ys ((cI.rd ys (s8)).2) := hst
  have hk2 : y8.heap[K]? = some (.cells #[u0, .int .i64 qa, .int .i64 qb, .int .u8 qc, .int .i64 qd, .int .i64 qe, .int .i64 qf, .int .i64 qg, .int .i64 qh, .int .i64 qi, .int .i64 ((cI.rd ys (s8)).1)] 138) := hk
  obtain ⟨qj, e1⟩ : ∃ z, (cI.rd ys (s8)).1 = z := ⟨_, rfl⟩
  obtain ⟨s9, e2⟩ : ∃ z, (cI.rd ys (s8)).2 = z := ⟨_, rfl⟩
  simp only [e1, e2] at hst2 hk2
  have F9 := Lib.hid e1
  have G9 := Lib.hid e2
  clear e1 e2
  have HS8 := Lib.hid hst2
  have HK8 := Lib.hid hk2
  have HCs : Hid (Chg r K y7 y8) := (((Chg.refl r K y7).alloc _)).trans hc
  have HC8 := Lib.hid (HC7.out.trans HCs.out)
  clear hst hst2 hk hk2 hc HCs HSA HKA HEL HBR HBK HS7 HK7 HC7
  have HD : Hid (cTask.rd ys s = ((qa, qb, qc, qd, qe, qf, qg, qh, qi, qj), s9)) := by
    show _ = _
    simp only [cTask, cSeq, F0.out, G0.out, F1.out, G1.out, F2.out, G2.out, F3.out, G3.out, F4.out, G4.out, F5.out, G5.out, F6.out, G6.out, F7.out, G7.out, F8.out, G8.out, F9.out, G9.out]
  go_wp2
  refine bodyPost_end (v := .tuple #[]) (by simp [results]) rfl ?_
  show _ ∧ _ ∧ _ ∧ _
  rw [HD.out]
  exact ⟨rfl, HS8.out, ⟨_, _, _, _, _, _, _, _, _, _, HK8.out, mTask_mk⟩, HC8.out⟩
end Go.Proofs.YtckooioikcenmaaGreat
namespace Go.Proofs.YtckooioikcenmaaGreat
open Go.RowKit
set_option maxRecDepth 20000 in
set_option maxHeartbeats 2000000 in
theorem rAct_any (base r rb K : Nat) (v : Value) (ys : List UInt8) (s : Rd) (w : World) (hs : RSt base r w v ys s) (hrb : w.heap[rb]? = some (.cells #[.pointer (some ⟨r, 0, none⟩)] 92)) (hK : w.heap[K]? = some (.cells #[.int .i64 0, .int .i64 0, .int .i64 0, .int .u8 0, .int .i64 0, .int .i64 0, .int .i64 0, .int .i64 0, .int .i64 0, .int .i64 0, .int .i64 0] 138)) (hb : base ≤ K) :
    Calls Tryz.prog 77 #[.pointer (some ⟨K, 0, none⟩), .pointer (some ⟨rb, 0, none⟩)] w (EachPost base r K v ys cAct mAct 138 s w) := by
  have hne : r ≠ K := ne_type hs.rd hK (by decide)
  have hrr : rb ≠ r := ne_type hrb hs.rd (by decide)
  have hrK : rb ≠ K := ne_type hrb hK (by decide)
  have HRB0 := Lib.hid hrb
  clear hrb
  have HS0 := Lib.hid hs
  have HK0 := Lib.hid hK
  have HC0 : Hid (Chg r K w w) := Chg.refl _ _ _
  clear hs hK
  go_enter Tryz.func77, Tryz.ntmps77
  have z0 := blk_cell HRB0.out 0
  simp at z0
  have HSA : Hid (RSt base r (World.drew (World.alloc w (.cells #[.pointer (some ⟨K, 0, none⟩)] 101))) v ys s) := RSt.drew (HS0.out.alloc _)
  have HKA : Hid ((World.heap (World.drew (World.alloc w (.cells #[.pointer (some ⟨K, 0, none⟩)] 101))))[K]? = some (.cells #[.int .i64 0, .int .i64 0, .int .i64 0, .int .u8 0, .int .i64 0, .int .i64 0, .int .i64 0, .int .i64 0, .int .i64 0, .int .i64 0, .int .i64 0] 138)) := blk_alloc (w := w) HK0.out _
  have HEL : Hid (ElemsAt (World.drew (World.alloc w (.cells #[.pointer (some ⟨K, 0, none⟩)] 101))) (World.heap w).size 101 (ptrs K [0])) := elems_alloc w 101 [.pointer (some ⟨K, 0, none⟩)]
  have HBR : Hid ((World.heap w).size ≠ r) := by have := HS0.out.lt; show _ ≠ _; omega
  have HBK : Hid ((World.heap w).size ≠ K) := by have := blk_lt HK0.out; show _ ≠ _; omega
  go_wp2
  go_region_held3 (fun w' => w'.cell? ⟨rb, 0, none⟩ = some (.pointer (some ⟨r, 0, none⟩))) (go_keep) ((go_at_call 35; refine (intsR_any base r K _ v ys s 138 #[.int .i64 0, .int .i64 0, .int .i64 0, .int .u8 0, .int .i64 0, .int .i64 0, .int .i64 0, .int .i64 0, .int .i64 0, .int .i64 0, .int .i64 0] [0] 1 rfl _ HSA.out HKA.out hb hne HEL.out HBR.out HBK.out (all1 ⟨_, rfl⟩) (by decide) (by omega)).mono ?_; rintro e y1 ⟨rfl, hst, hk, hc⟩; have HRB1 := Lib.hid (hc.blk (blk_alloc (w := w) HRB0.out _) hrr hrK); have z1 := blk_cell HRB1.out 0; simp at z1))
  clear z0 z1
  have hst2 : RSt base r y1 v ys ((cI.rd ys (s)).2) := hst
  have hk2 : y1.heap[K]? = some (.cells #[.int .i64 ((cI.rd ys (s)).1), .int .i64 0, .int .i64 0, .int .u8 0, .int .i64 0, .int .i64 0, .int .i64 0, .int .i64 0, .int .i64 0, .int .i64 0, .int .i64 0] 138) := hk
  obtain ⟨qn, e1⟩ : ∃ z, (cI.rd ys (s)).1 = z := ⟨_, rfl⟩
  obtain ⟨s0, e2⟩ : ∃ z, (cI.rd ys (s)).2 = z := ⟨_, rfl⟩
  simp only [e1, e2] at hst2 hk2
  have F0 := Lib.hid e1
  have G0 := Lib.hid e2
  clear e1 e2
  have HS1 := Lib.hid hst2
  have HK1 := Lib.hid hk2
  have HCs : Hid (Chg r K w y1) := (((Chg.refl r K w).alloc _).drew).trans hc
  have HC1 := Lib.hid (HC0.out.trans HCs.out)
  clear hst hst2 hk hk2 hc HCs HSA HKA HEL HBR HBK HS0 HK0 HC0 HRB0
  have z0 := blk_cell HRB1.out 0
  simp at z0
  have HKA : Hid ((World.heap (World.drew y1))[K]? = some (.cells #[.int .i64 qn, .int .i64 0, .int .i64 0, .int .u8 0, .int .i64 0, .int .i64 0, .int .i64 0, .int .i64 0, .int .i64 0, .int .i64 0, .int .i64 0] 138)) := HK1.out
  go_wp2
  go_region_held3 (fun w' => w'.cell? ⟨rb, 0, none⟩ = some (.pointer (some ⟨r, 0, none⟩))) (go_keep) ((go_at_call 78; refine (rTask_any base r K v ys s0 (.int .i64 qn) _ (RSt.drew HS1.out) HKA.out hb).mono ?_; rintro e y2 ⟨rfl, hst2, ⟨gqt0, gqt1, gqt2, gqt3, gqt4, gqt5, gqt6, gqt7, gqt8, gqt9, hk2, hown⟩, hc⟩; have HRB2 := Lib.hid (hc.blk HRB1.out hrr hrK); have z1 := blk_cell HRB2.out 0; simp at z1))
  clear z0 z1
  obtain ⟨qt, e1⟩ : ∃ z, (cTask.rd ys s0).1 = z := ⟨_, rfl⟩
  obtain ⟨s1, e2⟩ : ∃ z, (cTask.rd ys s0).2 = z := ⟨_, rfl⟩
  rw [e1] at hown
  rw [e2] at hst2
  have F1 := Lib.hid e1
  have G1 := Lib.hid e2
  clear e1 e2
  have HS2 := Lib.hid hst2
  have HK2 := Lib.hid hk2
  have HCs : Hid (Chg r K y1 y2) := ((Chg.refl r K y1).drew).trans hc
  have HC2 := Lib.hid (HC1.out.trans HCs.out)
  have HOqt := Lib.hid hown
  clear hst2 hk2 hown hc HCs HKA HS1 HK1 HC1 HRB1
  have HD : Hid (cAct.rd ys s = ((qn, qt), s1)) := by
    show _ = _
    simp only [cAct, cSeq, F0.out, G0.out, F1.out, G1.out]
  go_wp2
  exact bodyPost_ret (v := .tuple #[]) (by simp [results]) rfl ⟨rfl, by rw [HD.out]; exact HS2.out, ⟨[.int .i64 qn, gqt0, gqt1, gqt2, gqt3, gqt4, gqt5, gqt6, gqt7, gqt8, gqt9], HK2.out, by rw [HD.out]; exact mAct_mk HOqt.out⟩, HC2.out⟩
end Go.Proofs.YtckooioikcenmaaGreat
namespace Go.Proofs.YtckooioikcenmaaGreat
open Go.RowKit
/-- what an append asks of the type of the elements -/
structure Elem (T t : TypeId) (n bytes : Nat) (z : Value) : Prop where
  ut : Tryz.prog.underlying t = some (.slice T)
  info : (Tryz.prog.info? T).map (fun i => (i.zero, i.size, i.bytes)) = some (some z, n, bytes)
  zs : z.cells.size = n
theorem Chg.stayF {r : Nat} {w w' : World} {ts : List TypeId} {cs : Array Value} {T : TypeId} (h : Chg r w.heap.size w w') (hr : w.heap[r]? = some (.cells cs T)) (hT : T ∉ ts) : Stay ts w w' := fun k es V fr hV hh => by
  refine (h.block k (blk_lt hh) ?_ (by have := blk_lt hh; omega)).trans hh
  rintro rfl
  rw [hr] at hh
  injection hh with hh
  injection hh with _ hh
  exact hT (hh ▸ hV)
theorem LOwn.row {α : Type} {T : TypeId} {m : Mv α} {base : Nat} {w : World} {v : Value} {xs : List α} (h : LOwn T m base w v xs) : ∀ k, v.ownBlock = some k → base ≤ k ∧ k < w.heap.size ∧ ∃ cs, w.heap[k]? = some (.cells cs T) := by
  obtain ⟨cells, ho, _⟩ := h
  intro k hk
  rcases ho.2 with ⟨rfl, h2⟩ | ⟨g, cap, cur, rfl, hb, hh, h3⟩
  · simp [Value.ownBlock] at hk
  · simp [Value.ownBlock] at hk
    subst hk
    exact ⟨hb, blk_lt hh, _, hh⟩
/-- 'append(s, x)' of one element that lies in a block of its own -/
theorem wpList_push {α : Type} {T t : TypeId} {m : Mv α} {ops : Array Oper} {rest : List Oper} {o : Oper} {a : Act} {w : World} {Q : Exit → Act → World → Prop} (hgd : o.guard = none) (s x : Operand)
    (ho : o.op = .call { callee := .builtin .append, args := #[s, x], argTypes := #[t, t] }) {bytes : Nat} {z : Value} (hE : Elem T t m.n bytes z) (hm : m.Lawful) (hT : T ∉ m.ts)
    (base : Nat) (v : Value) (xs : List α) (y : α) (us : List Value) (b : Nat) (hs : a.eval s = v) (hown : LOwn T m base w v xs) (hx : a.eval x = .slice (some ⟨b, 0, none⟩) 1 1) {U : TypeId} (hc : w.heap[b]? = some (.cells us.toArray U)) (hy : m.own base w us y)
    (hl : xs.length + 1 ≤ 100000000000) (hby : bytes ≤ 1000) (hb : base ≤ w.heap.size)
    (h : ∀ v' w', LOwn T m base w' v' (xs ++ [y]) → w.grownBy w' v.ownBlock → (v'.ownBlock = v.ownBlock ∨ v'.ownBlock = some w.heap.size) → wpList Tryz.prog ops Q rest (a.put o.dst v') w') : wpList Tryz.prog ops Q (o :: rest) a w := by
  obtain ⟨i0, hi, hz0, hz1, hz2⟩ := info_parts hE.info
  obtain ⟨cells, ho1, he⟩ := hown
  have hul := hm.olen hy
  refine wpList_append_own_at _ hgd s x t ho base T i0 z m.n bytes hE.ut hi hz0 hz1 hz2 hE.zs hm.pos v xs.length _ hs ho1 ⟨b, 0, none⟩ 1 1 us hx (by omega) ?_ (hm.cell hy) ?_ ?_ hb ?_
  · intro j u hj
    rw [addr_add, blk_cell hc]
    simpa using hj
  · simp only [maxLen]; omega
  · have : (xs.length + 1) * bytes ≤ 100000000000 * 1000 := Nat.mul_le_mul hl hby
    omega
  · intro v' w' h1 h2 _ h3
    exact h v' w' (LOwn.push hm hT ho1 he hy h1 h2) h2 h3
/-- a slice of one element, of any number of cells -/
theorem wpList_buildOne {T t : TypeId} {n bytes : Nat} {z : Value} {ops : Array Oper} {rest : List Oper} {o : Oper} {a : Act} {w : World} {Q : Exit → Act → World → Prop} (hgd : o.guard = none) (x : Operand)
    (ho : o.op = .buildSlice t 1 #[(0, x)]) (u : Value) (ua : Array Value) (hE : Elem T t n bytes z) (hx : a.eval x = u) (hu : u.cells = ua) (hn : ua.size = n) (hp : 0 < n) (hs : n ≤ 1000)
    (h : wpList Tryz.prog ops Q rest (a.put o.dst (.slice (some ⟨w.heap.size, 0, none⟩) 1 1)) (w.alloc (.cells ua T))) : wpList Tryz.prog ops Q (o :: rest) a w := by
  obtain ⟨i0, hi, hz0, hz1, hz2⟩ := info_parts hE.info
  refine wpList_buildSlice hgd t T 1 _ ho ua i0 z hE.ut hi hz0 (by rw [hz1]; omega) (by rw [hz1]; omega) ?_ h
  have := Great.fill_whole (s := i0.size) (by rw [hz1]; exact hp) [u] ((Array.range (1 * i0.size)).map (z.cells[· % z.cells.size]!)) (by intro v hv; simp at hv; subst hv; rw [hu, hn, hz1]) (by simp)
  simpa [hx, hu] using this
/-- the state of a list's reading: k elements are left, R is what comes of all -/
def LSt {α : Type} (base r : Nat) (T : TypeId) (c : Cd α) (m : Mv α) (v : Value) (ys : List UInt8) (R : List α × Rd) (w wr : World) (out : Value) (k : Nat) : Prop :=
  ∃ (s1 : Rd) (acc : List α), k + acc.length ≤ ys.length ∧ RSt base r wr v ys s1 ∧ LOwn T m base wr out acc ∧ w.grownBy wr (some r) ∧ (∀ g, out.ownBlock = some g → w.heap.size ≤ g) ∧ rdIter (c.rd ys) k s1 acc = R
def LPost {α : Type} (base r : Nat) (v : Value) (ys : List UInt8) (c : Cd α) (m : Mv α) (T : TypeId) (s : Rd) (w : World) (e : Ending) (w' : World) : Prop :=
  ∃ A k, e = .returned (.slice A ((cL c).rd ys s).1.length k) ∧ RSt base r w' v ys ((cL c).rd ys s).2 ∧ LOwn T m base w' (.slice A ((cL c).rd ys s).1.length k) ((cL c).rd ys s).1 ∧ w.grownBy w' (some r)
theorem LPost.end {α : Type} {base r : Nat} {v : Value} {ys : List UInt8} {c : Cd α} {m : Mv α} {T : TypeId} {s s1 : Rd} {w w' : World} {out : Value} {acc : List α} (hR : (cL c).rd ys s = (acc, s1)) (hs : RSt base r w' v ys s1) (ho : LOwn T m base w' out acc) (hg : w.grownBy w' (some r)) :
    LPost base r v ys c m T s w (.returned out) w' := by
  obtain ⟨A, k, rfl⟩ := ho.form
  unfold LPost
  rw [hR]
  exact ⟨A, k, rfl, hs, ho, hg⟩
theorem rdL_bad {α : Type} (c : Cd α) (ys : List UInt8) (p : Int) : (cL c).rd ys ⟨p, true⟩ = ([], ⟨p, true⟩) := by show rdL c.rd ys ⟨p, true⟩ = _; simp [rdL]
theorem rdL_fail {α : Type} (c : Cd α) (ys : List UInt8) (p : Int) (h : (getU ys p).2.2 ≠ 0 ∨ ys.length < (getU ys p).1) : (cL c).rd ys ⟨p, false⟩ = ([], ⟨p, true⟩) := by
  show rdL c.rd ys ⟨p, false⟩ = _
  unfold rdL
  rw [if_neg (by simp), if_pos h]
theorem rdL_go {α : Type} (c : Cd α) (ys : List UInt8) (p : Int) (h : ¬ ((getU ys p).2.2 ≠ 0 ∨ ys.length < (getU ys p).1)) : (cL c).rd ys ⟨p, false⟩ = rdIter (c.rd ys) (getU ys p).1 ⟨(getU ys p).2.1, false⟩ [] := by
  show rdL c.rd ys ⟨p, false⟩ = _
  unfold rdL
  rw [if_neg (by simp), if_neg h]
theorem RSt.own {base r : Nat} {w w' : World} {v : Value} {ys : List UInt8} {s : Rd} (h : RSt base r w v ys s) {row : Option Nat} (hg : w.grownBy w' row) (hne : ∀ k, row = some k → base ≤ k ∧ k ≠ r) : RSt base r w' v ys s := by
  cases row with
  | none => exact h.below ⟨hg.os, hg.tape, hg.output, hg.size, fun k hk => hg.block k hk (by simp)⟩
  | some K =>
    obtain ⟨h1, h2⟩ := hne K rfl
    exact h.step (K := K) (Chg.grownK hg) h1 ((hg.block r h.lt (fun e => h2 (by injection e with e; exact e.symm))).trans h.rd) h.pos
/-- behind a round -/
theorem LSt.next {base r : Nat} {w wr y w3 : World} {v v' out : Value} {ys : List UInt8} {s2 : Rd} {o : Obj} (hg : w.grownBy wr (some r)) (hrw : r < w.heap.size) (hc : Chg r wr.heap.size wr y) (hs : RSt base r y v ys s2) (hlow : ∀ g, out.ownBlock = some g → w.heap.size ≤ g)
    (h3 : (y.alloc o).grownBy w3 out.ownBlock) (hat : v'.ownBlock = out.ownBlock ∨ v'.ownBlock = some (y.alloc o).heap.size) : w.grownBy w3 (some r) ∧ RSt base r w3 v ys s2 ∧ (∀ g, v'.ownBlock = some g → w.heap.size ≤ g) := by
  have z1 := hg.size
  have z2 := hc.size
  have z3 : (y.alloc o).heap.size = y.heap.size + 1 := by simp
  have z4 := h3.size
  have hrb := hs.hr
  refine ⟨⟨?_, ?_, ?_, by omega, ?_⟩, (hs.alloc o).own h3 (fun k hk => ?_), fun g hk => ?_⟩
  · exact h3.os.trans (hc.os.trans hg.os)
  · exact h3.tape.trans (hc.tape.trans hg.tape)
  · exact h3.output.trans (hc.output.trans hg.output)
  · intro k hk hne
    have hkr : k ≠ r := fun e => hne (by rw [e])
    have e1 := hg.block k hk hne
    have e2 := hc.block k (by omega) hkr (by omega)
    have e3 : (y.alloc o).heap[k]? = y.heap[k]? := by
      obtain ⟨ob, hob⟩ : ∃ ob, y.heap[k]? = some ob := ⟨_, Array.getElem?_eq_getElem (by omega)⟩
      rw [hob]; exact blk_alloc hob o
    have e4 := h3.block k (by omega) (fun e => by have := hlow k e.symm; omega)
    exact e4.trans (e3.trans (e2.trans e1))
  · have := hlow k hk
    omega
  · rcases hat with e | e
    · exact hlow g (e ▸ hk)
    · rw [e] at hk
      injection hk with hk
      omega
end Go.Proofs.YtckooioikcenmaaGreat

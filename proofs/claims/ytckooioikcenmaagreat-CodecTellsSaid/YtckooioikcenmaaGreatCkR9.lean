/- What the reader of a line makes. Conditions: sizes a machine can have. -/
import Derived.Test.YtckooioikcenmaaGreatCkL4
namespace Go.Proofs.YtckooioikcenmaaGreat
open Go.RowKit
set_option maxRecDepth 20000 in
set_option maxHeartbeats 2000000 in
theorem rLine_any (base r rb K : Nat) (v : Value) (ys : List UInt8) (s : Rd) (w : World) (hs : RSt base r w v ys s) (hrb : w.heap[rb]? = some (.cells #[.pointer (some ⟨r, 0, none⟩)] 92)) (hK : w.heap[K]? = some (.cells #[.string ⟨#[]⟩, .int .i64 0, .slice none 0 0] 120)) (hb : base ≤ K) :
    Calls Tryz.prog 84 #[.pointer (some ⟨K, 0, none⟩), .pointer (some ⟨rb, 0, none⟩)] w (EachPost base r K v ys cLine mLine 120 s w) := by
  have hne : r ≠ K := ne_type hs.rd hK (by decide)
  have hrr : rb ≠ r := ne_type hrb hs.rd (by decide)
  have hrK : rb ≠ K := ne_type hrb hK (by decide)
  have HRB0 := Lib.hid hrb
  clear hrb
  have HS0 := Lib.hid hs
  have HK0 := Lib.hid hK
  have HC0 : Hid (Chg r K w w) := Chg.refl _ _ _
  clear hs hK
  go_enter Tryz.func84, Tryz.ntmps84
  have z0 := blk_cell HRB0.out 0
  simp at z0
  have HSA : Hid (RSt base r (World.drew (World.alloc w (.cells #[.pointer (some ⟨K, 0, none⟩)] 97))) v ys s) := RSt.drew (HS0.out.alloc _)
  have HKA : Hid ((World.heap (World.drew (World.alloc w (.cells #[.pointer (some ⟨K, 0, none⟩)] 97))))[K]? = some (.cells #[.string ⟨#[]⟩, .int .i64 0, .slice none 0 0] 120)) := blk_alloc (w := w) HK0.out _
  have HEL : Hid (ElemsAt (World.drew (World.alloc w (.cells #[.pointer (some ⟨K, 0, none⟩)] 97))) (World.heap w).size 97 (ptrs K [0])) := elems_alloc w 97 [.pointer (some ⟨K, 0, none⟩)]
  have HBR : Hid ((World.heap w).size ≠ r) := by have := HS0.out.lt; show _ ≠ _; omega
  have HBK : Hid ((World.heap w).size ≠ K) := by have := blk_lt HK0.out; show _ ≠ _; omega
  go_wp2
  go_region_held3 (fun w' => w'.cell? ⟨rb, 0, none⟩ = some (.pointer (some ⟨r, 0, none⟩))) (go_keep) ((go_at_call 33; refine (textsR_any base r K _ v ys s 120 #[.string ⟨#[]⟩, .int .i64 0, .slice none 0 0] [0] 1 rfl _ HSA.out HKA.out hb hne HEL.out HBR.out HBK.out (all1 rfl) (by decide) (by omega)).mono ?_; rintro e y1 ⟨rfl, hst, hk, hc⟩; have HRB1 := Lib.hid (hc.blk (blk_alloc (w := w) HRB0.out _) hrr hrK); have z1 := blk_cell HRB1.out 0; simp at z1))
  clear z0 z1
  have hst2 : RSt base r y1 v ys ((cS.rd ys (s)).2) := hst
  have hk2 : y1.heap[K]? = some (.cells #[.string ((cS.rd ys (s)).1), .int .i64 0, .slice none 0 0] 120) := hk
  obtain ⟨qs, e1⟩ : ∃ z, (cS.rd ys (s)).1 = z := ⟨_, rfl⟩
  obtain ⟨s0, e2⟩ : ∃ z, (cS.rd ys (s)).2 = z := ⟨_, rfl⟩
  simp only [e1, e2] at hst2 hk2
  have F0 := Lib.hid e1
  have G0 := Lib.hid e2
  clear e1 e2
  have HS1 := Lib.hid hst2
  have HK1 := Lib.hid hk2
  have HCs : Hid (Chg r K w y1) := (((Chg.refl r K w).alloc _).drew).trans hc
  have HC1 := Lib.hid (HC0.out.trans HCs.out)
  clear hst hst2 hk hk2 hc HCs HSA HKA HEL HBR HBK HS0 HK0 HC0 HRB0
  have z0 := blk_cell HRB1.out 0
  simp at z0
  have HSA : Hid (RSt base r (World.drew (World.alloc y1 (.cells #[.pointer (some ⟨K, 1, none⟩)] 101))) v ys s0) := RSt.drew (HS1.out.alloc _)
  have HKA : Hid ((World.heap (World.drew (World.alloc y1 (.cells #[.pointer (some ⟨K, 1, none⟩)] 101))))[K]? = some (.cells #[.string qs, .int .i64 0, .slice none 0 0] 120)) := blk_alloc (w := y1) HK1.out _
  have HEL : Hid (ElemsAt (World.drew (World.alloc y1 (.cells #[.pointer (some ⟨K, 1, none⟩)] 101))) (World.heap y1).size 101 (ptrs K [1])) := elems_alloc y1 101 [.pointer (some ⟨K, 1, none⟩)]
  have HBR : Hid ((World.heap y1).size ≠ r) := by have := HS1.out.lt; show _ ≠ _; omega
  have HBK : Hid ((World.heap y1).size ≠ K) := by have := blk_lt HK1.out; show _ ≠ _; omega
  go_wp2
  go_region_held3 (fun w' => w'.cell? ⟨rb, 0, none⟩ = some (.pointer (some ⟨r, 0, none⟩))) (go_keep) ((go_at_call 35; refine (intsR_any base r K _ v ys s0 120 #[.string qs, .int .i64 0, .slice none 0 0] [1] 1 rfl _ HSA.out HKA.out hb hne HEL.out HBR.out HBK.out (all1 ⟨_, rfl⟩) (by decide) (by omega)).mono ?_; rintro e y2 ⟨rfl, hst, hk, hc⟩; have HRB2 := Lib.hid (hc.blk (blk_alloc (w := y1) HRB1.out _) hrr hrK); have z1 := blk_cell HRB2.out 0; simp at z1))
  clear z0 z1
  have hst2 : RSt base r y2 v ys ((cI.rd ys (s0)).2) := hst
  have hk2 : y2.heap[K]? = some (.cells #[.string qs, .int .i64 ((cI.rd ys (s0)).1), .slice none 0 0] 120) := hk
  obtain ⟨qn, e1⟩ : ∃ z, (cI.rd ys (s0)).1 = z := ⟨_, rfl⟩
  obtain ⟨s1, e2⟩ : ∃ z, (cI.rd ys (s0)).2 = z := ⟨_, rfl⟩
  simp only [e1, e2] at hst2 hk2
  have F1 := Lib.hid e1
  have G1 := Lib.hid e2
  clear e1 e2
  have HS2 := Lib.hid hst2
  have HK2 := Lib.hid hk2
  have HCs : Hid (Chg r K y1 y2) := (((Chg.refl r K y1).alloc _).drew).trans hc
  have HC2 := Lib.hid (HC1.out.trans HCs.out)
  clear hst hst2 hk hk2 hc HCs HSA HKA HEL HBR HBK HS1 HK1 HC1 HRB1
  have z0 := blk_cell HRB2.out 0
  simp at z0
  go_wp2_with fail
  refine (rlItem_any base r (rb) v ys s1 _ HS2.out HRB2.out).mono ?_
  rintro e y3 ⟨Aql, cql, rfl, hst2, hown, hg⟩
  obtain ⟨ql, e1⟩ : ∃ z, ((cL cItem).rd ys s1).1 = z := ⟨_, rfl⟩
  obtain ⟨s2, e2⟩ : ∃ z, ((cL cItem).rd ys s1).2 = z := ⟨_, rfl⟩
  rw [e1] at hown ⊢
  rw [e2] at hst2
  have F2 := Lib.hid e1
  have G2 := Lib.hid e2
  clear e1 e2
  have hk := (Chg.grown (K := K) hg)
  have hk2 : y3.heap[K]? = some (.cells #[.string qs, .int .i64 qn, .slice none 0 0] 120) := (hg.block K (blk_lt HK2.out) (fun e => hne (by injection e with e; exact e.symm))).trans HK2.out
  have q := blk_cell hk2 2
  have qf := blk_free hk2 2
  simp at q
  have HS3 : Hid (RSt base r (y3.setCell ⟨K, 2, none⟩ (.slice Aql ql.length cql)) v ys s2) := hst2.set hb hne _ _
  have HK3 : Hid ((World.heap (y3.setCell ⟨K, 2, none⟩ (.slice Aql ql.length cql)))[K]? = some (.cells #[.string qs, .int .i64 qn, .slice Aql ql.length cql] 120)) := blk_set hk2 2 _
  have HCs : Hid (Chg r K y2 (y3.setCell ⟨K, 2, none⟩ (.slice Aql ql.length cql))) := (Chg.grown hg).setK _ _
  have HC3 := Lib.hid (HC2.out.trans HCs.out)
  have HRB3 : Hid ((World.heap (y3.setCell ⟨K, 2, none⟩ (.slice Aql ql.length cql)))[rb]? = some (.cells #[.pointer (some ⟨r, 0, none⟩)] 92)) := HCs.out.blk HRB2.out hrr hrK
  have HOql := Lib.hid (hown.keep mItem_law (Chg.stay ((Chg.refl r K y3).setK 2 (.slice Aql ql.length cql)) hst2.rd hk2 (by decide) (by decide)))
  clear hown
  clear hst2 hg hk hk2 HCs HS2 HK2 HC2 HRB2 z0
  have HD : Hid (cLine.rd ys s = ((qs, qn, ql), s2)) := by
    show _ = _
    simp only [cLine, cSeq, F0.out, G0.out, F1.out, G1.out, F2.out, G2.out]
  go_wp2
  exact bodyPost_ret (v := .tuple #[]) (by simp [results]) rfl ⟨rfl, by rw [HD.out]; exact HS3.out, ⟨[.string qs, .int .i64 qn, .slice Aql ql.length cql], HK3.out, by rw [HD.out]; exact mLine_mk HOql.out⟩, HC3.out⟩
end Go.Proofs.YtckooioikcenmaaGreat

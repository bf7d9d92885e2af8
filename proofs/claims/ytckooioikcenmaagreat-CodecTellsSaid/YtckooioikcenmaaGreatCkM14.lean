/- The document's codec as a whole: Op, Shop. Conditions: sizes a machine can have. -/
import Derived.Test.YtckooioikcenmaaGreatCkRfQ4
import Derived.Test.YtckooioikcenmaaGreatCkW7
import Derived.Test.YtckooioikcenmaaGreatCkM11
import Derived.Test.YtckooioikcenmaaGreatCkRfR7
import Derived.Test.YtckooioikcenmaaGreatCkM5
import Derived.Test.YtckooioikcenmaaGreatCkA0
import Derived.Deep.DeepCutAuto
import Derived.Test.YtckooioikcenmaaGreatCkM8
namespace Go.Proofs.YtckooioikcenmaaGreat
open Go.RowKit
/-- what the document's writing of a whole makes -/
def RefEnc {α : Type} (c : Cd α) (x : α) (w : World) (e : Ending) (w' : World) : Prop :=
  Below w.heap.size w w' ∧ (if c.okt x = true then ∃ v, e = .returned (.tuple #[v, .int .i64 0]) ∧ RdB w' v (c.enc x) else e = .returned (.tuple #[.slice none 0 0, .int .i64 2]))
theorem pC_fresh {α : Type} (c : Cd α) (x : α) : (pC c ⟨[], 0, false, false, false⟩ x).2 = ⟨c.enc x, 0, false, false, !c.okt x⟩ := by
  rw [pC_write rfl]
  simp
theorem pen_start {T : TypeId} (w : World) (cs : Array Value) : PSt w.heap.size (w.heap.size + 1) ((w.alloc (.cells cs T)).alloc (.cells #[.slice none 0 0, .int .i64 0, .bool false, .bool false, .bool false] 77)) (.slice none 0 0) ⟨[], 0, false, false, false⟩ ∧
    ((w.alloc (.cells cs T)).alloc (.cells #[.slice none 0 0, .int .i64 0, .bool false, .bool false, .bool false] 77)).heap[w.heap.size]? = some (.cells cs T) ∧
    Below w.heap.size w ((w.alloc (.cells cs T)).alloc (.cells #[.slice none 0 0, .int .i64 0, .bool false, .bool false, .bool false] 77)) := by
  have h1 := alloc_at w (.cells cs T)
  have h2 := alloc_at (w.alloc (.cells cs T)) (.cells #[.slice none 0 0, .int .i64 0, .bool false, .bool false, .bool false] 77)
  rw [show (w.alloc (.cells cs T)).heap.size = w.heap.size + 1 by simp] at h2
  refine ⟨⟨h2, .inl ⟨rfl, rfl⟩, (fun k hk => by cases hk), by simp, by simp [PnOk], by omega⟩, blk_alloc h1 _, ((Below.refl _ _).alloc (Nat.le_refl _) _).alloc (by simp) _⟩
set_option maxRecDepth 20000 in
set_option maxHeartbeats 1000000 in
theorem rfOp_any (x : DOp) (ho : cOp.okr x) (hm : cOp.sm x) (hlen : (cOp.enc x).length ≤ 100000000000) (w : World) (us : List Value) (hu : mOp.rep w.heap.size w us x) :
    Calls Tryz.prog 7 #[.agg us.toArray] w (RefEnc cOp x w) := by
  obtain ⟨x0, x1, x2, x3, x4, x5, x6, x7, x8, x9⟩ := x
  obtain rfl := mOp_form hu
  have hfit : Fits cOp ⟨[], 0, false, false, false⟩ (x0, x1, x2, x3, x4, x5, x6, x7, x8, x9) := by unfold Fits; show 0 + _ ≤ _; omega
  obtain ⟨hp0, hd0, hb0⟩ := pen_start (T := 24) w #[.int .u8 x0, .string x1, .string x2, .string x3, .string x4, .int .i64 x5, .int .i64 x6, .int .i64 x7, .int .i64 x8, .int .i64 x9]
  obtain ⟨a0, a1, a2, a3, a4, a5, a6, a7, a8, a9⟩ := ho
  obtain ⟨_, b1, b2, b3, b4, _⟩ := hm
  have hc0 := penOp_any _ _ _ _ _ x0 x1 x2 x3 x4 x5 x6 x7 x8 x9 _ hp0 hd0 a0 b1 b2 b3 b4 a5 a6 a7 a8 a9 (fun h => by cases h) hfit (by omega) (Nat.le_refl _) (fun k hk => by cases hk)
  rw [pC_fresh] at hc0
  have HC := Lib.hid hc0
  have HB := Lib.hid hb0
  clear hc0 hb0 hp0 hd0 hu hlen hfit
  generalize hX : ((x0, x1, x2, x3, x4, x5, x6, x7, x8, x9) : DOp) = xx at *
  clear hX
  have HS : Hid (cOp.okt xx = true ∨ cOp.okt xx = false) := by show _ ∨ _; cases cOp.okt xx <;> simp
  go_enter Tryz.func7, Tryz.ntmps7
  go_wp2_with fail
  refine HC.out.mono ?_
  rintro e w2 ⟨rfl, v2, hst⟩
  have hch := hst.chg
  have hps := hst.pst
  have HF : Hid (Below w.heap.size w w2) := HB.out.trans (hch.below (by omega) (by omega) (by simp; omega))
  have HR := Lib.hid hps.ok
  have HP := Lib.hid hps.pn
  obtain ⟨A9, c9, e9, _, _⟩ := hps.ok.form
  have e9 : v2 = .slice A9 (cOp.enc xx).length c9 := e9
  clear hst hch hps HC HB
  subst e9
  have t0 := blk_cell HP.out 0
  have t4 := blk_cell HP.out 4
  simp at t0 t4
  rcases HS.out with hk | hk
  · have HK := Lib.hid hk
    rw [hk] at t4
    clear hk HS
    go_wp2
    refine bodyPost_ret (v := .tuple #[.slice A9 (cOp.enc xx).length c9, .int .i64 0]) (by simp [results, Tryz.results7, go_sem]) rfl ⟨HF.out, ?_⟩
    rw [if_pos HK.out]
    exact ⟨_, rfl, HR.out⟩
  · have HK := Lib.hid hk
    rw [hk] at t4
    clear hk HS
    go_wp2
    refine bodyPost_ret (v := .tuple #[.slice none 0 0, .int .i64 2]) (by simp [results, Tryz.results7, go_sem]) rfl ⟨HF.out, ?_⟩
    rw [if_neg (by rw [HK.out]; simp)]
set_option maxRecDepth 20000 in
set_option maxHeartbeats 1000000 in
theorem rfShop_any (x : DShop) (ho : cShop.okr x) (hm : cShop.sm x) (hlen : (cShop.enc x).length ≤ 100000000000) (w : World) (us : List Value) (hu : mShop.rep w.heap.size w us x) :
    Calls Tryz.prog 9 #[.agg us.toArray] w (RefEnc cShop x w) := by
  obtain ⟨x0, x1, ⟨y0, y1, y2, y3, y4⟩, x3, x4, x5, x6⟩ := x
  obtain ⟨v1, w1, w4, v3, v5, rfl, l1, l2, l3, l4, l5, _⟩ := mShop_form hu
  obtain ⟨A1, c1, e1⟩ := l1.form
  obtain ⟨A2, c2, e2⟩ := l2.form
  obtain ⟨A3, c3, e3⟩ := l3.form
  obtain ⟨A4, c4, e4⟩ := l4.form
  obtain ⟨A5, c5, e5⟩ := l5.form
  subst e1 e2 e3 e4 e5
  have hfit : Fits cShop ⟨[], 0, false, false, false⟩ (x0, x1, (y0, y1, y2, y3, y4), x3, x4, x5, x6) := by unfold Fits; show 0 + _ ≤ _; omega
  obtain ⟨hp0, hd0, hb0⟩ := pen_start (T := 35) w #[.int .i64 x0, .slice A1 x1.length c1, .int .i64 y0, .slice A2 y1.length c2, .int .i64 y2, .bool y3, .slice A3 y4.length c3, .slice A4 x3.length c4, .int .i64 x4, .slice A5 x5.length c5, .bool x6]
  have kl1 := l1.keep mRec_law hb0
  have kl2 := l2.keep mTurn_law hb0
  have kl3 := l3.keep mLine_law hb0
  have kl4 := l4.keep mJob_law hb0
  have kl5 := l5.keep mWorker_law hb0
  have hc0 := penShop_wr (hs := ⟨hp0, Chg.refl _ _ _, NewV.refl _ _⟩) rfl rfl hd0 kl1 kl2 kl3 kl4 kl5 ho hm hfit (by omega) (Nat.le_refl _) (fun k hk => by cases hk)
  rw [pC_fresh] at hc0
  have HC := Lib.hid hc0
  have HB := Lib.hid hb0
  clear hc0 hb0 hp0 hd0 hu hlen hfit
  generalize hX : ((x0, x1, (y0, y1, y2, y3, y4), x3, x4, x5, x6) : DShop) = xx at *
  clear hX
  have HS : Hid (cShop.okt xx = true ∨ cShop.okt xx = false) := by show _ ∨ _; cases cShop.okt xx <;> simp
  go_enter Tryz.func9, Tryz.ntmps9
  go_wp2_with fail
  refine HC.out.mono ?_
  rintro e w2 ⟨rfl, v2, hst⟩
  have hch := hst.chg
  have hps := hst.pst
  have HF : Hid (Below w.heap.size w w2) := HB.out.trans (hch.below (by omega) (by omega) (by simp; omega))
  have HR := Lib.hid hps.ok
  have HP := Lib.hid hps.pn
  obtain ⟨A9, c9, e9, _, _⟩ := hps.ok.form
  have e9 : v2 = .slice A9 (cShop.enc xx).length c9 := e9
  clear hst hch hps HC HB
  subst e9
  have t0 := blk_cell HP.out 0
  have t4 := blk_cell HP.out 4
  simp at t0 t4
  rcases HS.out with hk | hk
  · have HK := Lib.hid hk
    rw [hk] at t4
    clear hk HS
    go_wp2
    refine bodyPost_ret (v := .tuple #[.slice A9 (cShop.enc xx).length c9, .int .i64 0]) (by simp [results, Tryz.results9, go_sem]) rfl ⟨HF.out, ?_⟩
    rw [if_pos HK.out]
    exact ⟨_, rfl, HR.out⟩
  · have HK := Lib.hid hk
    rw [hk] at t4
    clear hk HS
    go_wp2
    refine bodyPost_ret (v := .tuple #[.slice none 0 0, .int .i64 2]) (by simp [results, Tryz.results9, go_sem]) rfl ⟨HF.out, ?_⟩
    rw [if_neg (by rw [HK.out]; simp)]
end Go.Proofs.YtckooioikcenmaaGreat
namespace Go.Proofs.YtckooioikcenmaaGreat
open Go.RowKit
theorem pen_read {T : TypeId} (w : World) (v : Value) (ys : List UInt8) (Z : Array Value) (hr : RdB w v ys) (hl : ys.length ≤ 1000000000) :
    PR w.heap.size (w.heap.size + 1) (((w.alloc (.cells Z T)).alloc (.cells #[v, .int .i64 0, .bool true, .bool false, .bool false] 77)).alloc (.cells Z T)) ⟨ys, 0, true, false, false⟩ ∧
    (((w.alloc (.cells Z T)).alloc (.cells #[v, .int .i64 0, .bool true, .bool false, .bool false] 77)).alloc (.cells Z T)).heap[w.heap.size]? = some (.cells Z T) ∧
    (((w.alloc (.cells Z T)).alloc (.cells #[v, .int .i64 0, .bool true, .bool false, .bool false] 77)).alloc (.cells Z T)).heap[w.heap.size + 1 + 1]? = some (.cells Z T) ∧
    Below w.heap.size w (((w.alloc (.cells Z T)).alloc (.cells #[v, .int .i64 0, .bool true, .bool false, .bool false] 77)).alloc (.cells Z T)) := by
  have h1 := alloc_at w (.cells Z T)
  have h2 := alloc_at (w.alloc (.cells Z T)) (.cells #[v, .int .i64 0, .bool true, .bool false, .bool false] 77)
  have h3 := alloc_at ((w.alloc (.cells Z T)).alloc (.cells #[v, .int .i64 0, .bool true, .bool false, .bool false] 77)) (.cells Z T)
  rw [show (w.alloc (.cells Z T)).heap.size = w.heap.size + 1 by simp] at h2
  rw [show ((w.alloc (.cells Z T)).alloc (.cells #[v, .int .i64 0, .bool true, .bool false, .bool false] 77)).heap.size = w.heap.size + 1 + 1 by simp] at h3
  have hb : Below w.heap.size w (((w.alloc (.cells Z T)).alloc (.cells #[v, .int .i64 0, .bool true, .bool false, .bool false] 77)).alloc (.cells Z T)) :=
    (((Below.refl _ _).alloc (Nat.le_refl _) _).alloc (by simp) _).alloc (by simp; omega) _
  exact ⟨⟨⟨v, blk_alloc h2 _, hr.below hb, fun k hk => by have := hr.blk k hk; exact ⟨by omega, fun _ => this⟩, by show ys.length ≤ _; omega, by simp [PnOk], by omega⟩, rfl, hl⟩, blk_alloc (blk_alloc h1 _) _, h3, hb⟩
set_option maxRecDepth 20000 in
set_option maxHeartbeats 2000000 in
theorem rfReadOp_any (v : Value) (ys : List UInt8) (w : World) (hr : RdB w v ys) (hl : ys.length ≤ 1000000000) :
    Calls Tryz.prog 12 #[v] w (DecPost cOp mOp #[.int .u8 0, .string ⟨#[]⟩, .string ⟨#[]⟩, .string ⟨#[]⟩, .string ⟨#[]⟩, .int .i64 0, .int .i64 0, .int .i64 0, .int .i64 0, .int .i64 0] ys w) := by
  obtain ⟨hp0, hz0, hd0, hb0⟩ := pen_read (T := 24) w v ys #[.int .u8 0, .string ⟨#[]⟩, .string ⟨#[]⟩, .string ⟨#[]⟩, .string ⟨#[]⟩, .int .i64 0, .int .i64 0, .int .i64 0, .int .i64 0, .int .i64 0] hr hl
  have hsz : w.heap.size < (((w.alloc (.cells #[.int .u8 0, .string ⟨#[]⟩, .string ⟨#[]⟩, .string ⟨#[]⟩, .string ⟨#[]⟩, .int .i64 0, .int .i64 0, .int .i64 0, .int .i64 0, .int .i64 0] 24)).alloc (.cells #[v, .int .i64 0, .bool true, .bool false, .bool false] 77)).alloc (.cells #[.int .u8 0, .string ⟨#[]⟩, .string ⟨#[]⟩, .string ⟨#[]⟩, .string ⟨#[]⟩, .int .i64 0, .int .i64 0, .int .i64 0, .int .i64 0, .int .i64 0] 24)).heap.size := by simp; omega
  obtain ⟨u0, hpst⟩ := hp0.pst
  have hvd : ∀ k, Value.readBlock u0 = some k → k ≠ w.heap.size + 1 + 1 := fun k hk => by have := (hpst.np k hk).2 rfl; omega
  have i0 : I64 0 := ⟨by decide, by decide⟩
  have hf : Fits cOp ⟨ys, 0, true, false, false⟩ (0, ⟨#[]⟩, ⟨#[]⟩, ⟨#[]⟩, ⟨#[]⟩, 0, 0, 0, 0, 0) := by
    have h2 : (cOp.enc (0, ⟨#[]⟩, ⟨#[]⟩, ⟨#[]⟩, ⟨#[]⟩, 0, 0, 0, 0, 0)).length ≤ 100 := by decide +kernel
    unfold Fits
    show ys.length + _ ≤ _
    omega
  have hc0 := penOp_any _ _ (w.heap.size + 1 + 1) _ _ 0 ⟨#[]⟩ ⟨#[]⟩ ⟨#[]⟩ ⟨#[]⟩ 0 0 0 0 0 _ hpst hd0 (by decide) (by decide) (by decide) (by decide) (by decide) i0 i0 i0 i0 i0 (fun _ => ⟨rfl, rfl, rfl, rfl, rfl, rfl, rfl, rfl, rfl, rfl⟩) hf (by omega) (by omega) hvd
  obtain ⟨xx, hxx⟩ : ∃ z, (cOp.rd ys ⟨0, false⟩).1 = z := ⟨_, rfl⟩
  obtain ⟨s9, hs9⟩ : ∃ z, (cOp.rd ys ⟨0, false⟩).2 = z := ⟨_, rfl⟩
  obtain ⟨pE, bE⟩ := s9
  have e0 : pC cOp ⟨ys, 0, true, false, false⟩ (0, ⟨#[]⟩, ⟨#[]⟩, ⟨#[]⟩, ⟨#[]⟩, 0, 0, 0, 0, 0) = (xx, ⟨ys, pE, true, bE, false⟩) := by
    rw [pC_read rfl]
    show ((cOp.rd ys ⟨0, false⟩).1, (⟨ys, (cOp.rd ys ⟨0, false⟩).2.pos, true, (cOp.rd ys ⟨0, false⟩).2.bad, false⟩ : Pn)) = _
    rw [hxx, hs9]
  rw [e0] at hc0
  clear e0
  have HX := Lib.hid hxx
  have HE : Hid ((cOp.rd ys ⟨0, false⟩).2 = ⟨pE, bE⟩) := hs9
  clear hxx hs9 hf i0 hvd hpst hp0
  obtain ⟨x0, x1, x2, x3, x4, x5, x6, x7, x8, x9⟩ := xx
  obtain ⟨A, cp, hvf, hv1, hv2⟩ := hr.form
  have HC := Lib.hid hc0
  have HB := Lib.hid hb0
  have HZ0 := Lib.hid hz0
  clear hc0 hb0 hz0 hd0 hr
  have hP : ∀ b, b = w.heap.size → ∀ e w', ((cOp.all ys = true ∧ ∃ us : List Value, e = .returned (.tuple #[.agg us.toArray, .int .i64 0]) ∧ mOp.rep w'.heap.size w' us (cOp.rd ys ⟨0, false⟩).1) ∨ (cOp.all ys = false ∧ e = .returned (.tuple #[.agg #[.int .u8 0, .string ⟨#[]⟩, .string ⟨#[]⟩, .string ⟨#[]⟩, .string ⟨#[]⟩, .int .i64 0, .int .i64 0, .int .i64 0, .int .i64 0, .int .i64 0], .int .i64 10]))) → Below b w w' → DecPost cOp mOp #[.int .u8 0, .string ⟨#[]⟩, .string ⟨#[]⟩, .string ⟨#[]⟩, .string ⟨#[]⟩, .int .i64 0, .int .i64 0, .int .i64 0, .int .i64 0, .int .i64 0] ys w e w' := by
    rintro b rfl e w' h1 h2
    exact ⟨h1, h2⟩
  have HP := Lib.hid hP
  clear hP
  subst hvf
  go_enter Tryz.func12, Tryz.ntmps12
  go_wp2_with fail
  refine HC.out.mono ?_
  rintro e y4 ⟨rfl, v2, hst⟩
  have hch := hst.chg
  obtain hpn := hst.pst.pn
  have hkb := hst.blk
  have HOW : Hid (mOp.own w.heap.size y4 [.int .u8 x0, .string x1, .string x2, .string x3, .string x4, .int .i64 x5, .int .i64 x6, .int .i64 x7, .int .i64 x8, .int .i64 x9] (cOp.rd ys ⟨0, false⟩).1) := by show mOp.own _ _ _ _; rw [HX.out]; exact mOp_mk
  obtain ⟨base, hbase⟩ : ∃ b, b = w.heap.size := ⟨_, rfl⟩
  obtain ⟨ua, hua⟩ : ∃ ua : Array Value, ua = #[.int .u8 x0, .string x1, .string x2, .string x3, .string x4, .int .i64 x5, .int .i64 x6, .int .i64 x7, .int .i64 x8, .int .i64 x9] := ⟨_, rfl⟩
  have HKU : Hid (y4.heap[w.heap.size + 1 + 1]? = some (.cells ua 24)) := by show _ = _; rw [hua]; exact hkb
  have HOW2 : Hid (mOp.own w.heap.size y4 ua.toList (cOp.rd ys ⟨0, false⟩).1) := by show mOp.own _ _ _ _; rw [hua]; exact HOW.out
  have HRG : Hid (World.rangeAt y4 (w.heap.size + 1 + 1) 0 ua.toList) := fun j u hj => by rw [blk_cell HKU.out]; simpa using hj
  have hul : ua.size = 10 := by rw [hua]; rfl
  have hone : Hid (ua.all (·.oneCell') = true) := Array.all_eq_true_iff_forall_mem.2 (fun u hu => mOp_law.cell HOW2.out u (by simpa using hu))
  have hi1 : Hid ((Tryz.prog.info? 24).map (·.size) = some ua.toList.length) := by show _ = _; rw [Array.length_toList, hul]; kernel_rfl
  have hi2 : Hid ((Tryz.prog.info? 24).map (·.size) = some ua.size) := by show _ = _; rw [hul]; kernel_rfl
  have HZN := Lib.hid (hch.blk HZ0.out (by omega) (by omega))
  have HTH : Hid (World.there y4 w.heap.size 0 10) := there_at HZN.out rfl
  have HTU : Hid (World.there y4 w.heap.size 0 ua.size) := by show World.there _ _ _ _; rw [hul]; exact HTH.out
  obtain ⟨za, hza⟩ : ∃ za : Array Value, za = #[.int .u8 0, .string ⟨#[]⟩, .string ⟨#[]⟩, .string ⟨#[]⟩, .string ⟨#[]⟩, .int .i64 0, .int .i64 0, .int .i64 0, .int .i64 0, .int .i64 0] := ⟨_, rfl⟩
  have HZA := Lib.hid hza
  have hzl : za.size = 10 := by rw [hza]; rfl
  have hzo : Hid (za.all (·.oneCell') = true) := by show _ = _; rw [hza]; simp [Value.oneCell']
  have hi3 : Hid ((Tryz.prog.info? 24).map (·.size) = some za.size) := by show _ = _; rw [hzl]; kernel_rfl
  have hi4 : Hid ((Tryz.prog.info? 24).map (·.size) = some za.toList.length) := by show _ = _; rw [Array.length_toList, hzl]; kernel_rfl
  have HTZ : Hid (World.there y4 w.heap.size 0 za.size) := by show World.there _ _ _ _; rw [hzl]; exact HTH.out
  have hbt : Tryz.prog.built 24 [] = some (#[.int .u8 0, .string ⟨#[]⟩, .string ⟨#[]⟩, .string ⟨#[]⟩, .string ⟨#[]⟩, .int .i64 0, .int .i64 0, .int .i64 0, .int .i64 0, .int .i64 0] : Array Value) := by kernel_rfl
  have HBT : Hid (∀ a : Act, Tryz.prog.built 24 ((#[] : Array (Nat × Operand)).map fun (i, x) => (i, a.eval x)).toList = some za) := by intro a; rw [hza]; simpa using hbt
  have HBL : Hid (Below w.heap.size w y4) := HB.out.trans (hch.below (by omega) (by omega) (by omega))
  have e1 := blk_cell hpn 1
  have e2 := blk_cell hpn 3
  simp at e1 e2
  have HALL : Hid (cOp.all ys = (!bE && decide (pE = ys.length))) := by show _ = _; unfold Cd.all; rw [HE.out]
  clear hza hzl hbt hua hul HOW HX HE hch hpn hkb HB HZ0 HC HTH hbase hst
  obtain ⟨K, hK⟩ : ∃ k, k = w.heap.size + 1 + 1 := ⟨_, rfl⟩
  clear hK
  by_cases hgood : bE = false ∧ pE = ys.length
  · obtain ⟨rfl, rfl⟩ := hgood
    have HLV := Lib.hid (run_loadVar_mid (P := Tryz.prog) (World.setCells y4 w.heap.size 0 ua.toList) w.heap.size 0 24 ua.toList _ (World.rangeAt_setCells_same _ _ _ _ (by rw [Array.length_toList]; exact HTU.out)) Tryz.underlying24 rfl hi1.out)
    go_wp2_with (first
      | (with_reducible refine wpList_load_mid rfl 24 (.tmp 5) rfl (w.heap.size + 1 + 1) 0 rfl ua.toList _ HRG.out Tryz.underlying24 rfl hi1.out ?_)
      | (with_reducible refine wpList_store_mid rfl 24 (.tmp 2) (.tmp 25) rfl w.heap.size 0 ua rfl rfl HTU.out hi2.out hone.out ?_))
    have hlv := HLV.out
    simp only [Array.toArray_toList] at hlv
    refine bodyPost_ret (v := .tuple #[.agg ua, .int .i64 0]) ?_ rfl ?_
    · simp [results, Tryz.results12, asAddr, hlv]
    refine HP.out _ rfl _ _ (.inl ⟨by rw [HALL.out]; simp, ua.toList, by simp, ?_⟩) (below_cells (Nat.le_refl _) _ _ _ HBL.out)
    exact mOp_law.toRep (mOp_law.okeep HOW2.out (stay_cells HZN.out (by decide) _))
  · have HF : Hid (cOp.all ys = false) := by show _ = _; rw [HALL.out]; cases bE <;> simp_all
    have HLV := Lib.hid (run_loadVar_mid (P := Tryz.prog) (World.setCells y4 w.heap.size 0 za.toList) w.heap.size 0 24 za.toList _ (World.rangeAt_setCells_same _ _ _ _ (by rw [Array.length_toList]; exact HTZ.out)) Tryz.underlying24 rfl hi4.out)
    have HS2 : Hid (bE = true ∨ bE = false ∧ pE ≠ ys.length) := by show _ ∨ _; cases bE <;> simp_all
    clear HALL hgood
    rcases HS2.out with rfl | ⟨rfl, hpne⟩
    · go_wp2_with (first
        | (with_reducible refine wpList_buildTo rfl 24 #[] rfl (some 24) rfl za (HBT.out _) ?_)
        | (with_reducible refine wpList_store_mid rfl 24 (.tmp 2) (.tmp 24) rfl w.heap.size 0 za rfl rfl HTZ.out hi3.out hzo.out ?_))
      have hlv := HLV.out
      simp only [Array.toArray_toList] at hlv
      refine bodyPost_ret (v := .tuple #[.agg za, .int .i64 10]) ?_ rfl ?_
      · simp [results, Tryz.results12, asAddr, hlv]
      exact HP.out _ rfl _ _ (.inr ⟨HF.out, by rw [HZA.out]⟩) (below_cells (Nat.le_refl _) _ _ _ HBL.out)
    · go_wp2_with (first
        | (with_reducible refine wpList_buildTo rfl 24 #[] rfl (some 24) rfl za (HBT.out _) ?_)
        | (with_reducible refine wpList_store_mid rfl 24 (.tmp 2) (.tmp 24) rfl w.heap.size 0 za rfl rfl HTZ.out hi3.out hzo.out ?_))
      have hlv := HLV.out
      simp only [Array.toArray_toList] at hlv
      refine bodyPost_ret (v := .tuple #[.agg za, .int .i64 10]) ?_ rfl ?_
      · simp [results, Tryz.results12, asAddr, hlv]
      exact HP.out _ rfl _ _ (.inr ⟨HF.out, by rw [HZA.out]⟩) (below_cells (Nat.le_refl _) _ _ _ HBL.out)
set_option maxRecDepth 20000 in
set_option maxHeartbeats 2000000 in
theorem rfReadShop_any (v : Value) (ys : List UInt8) (w : World) (hr : RdB w v ys) (hl : ys.length ≤ 1000000000) :
    Calls Tryz.prog 14 #[v] w (DecPost cShop mShop #[.int .i64 0, .slice none 0 0, .int .i64 0, .slice none 0 0, .int .i64 0, .bool false, .slice none 0 0, .slice none 0 0, .int .i64 0, .slice none 0 0, .bool false] ys w) := by
  obtain ⟨hp0, hz0, hd0, hb0⟩ := pen_read (T := 35) w v ys #[.int .i64 0, .slice none 0 0, .int .i64 0, .slice none 0 0, .int .i64 0, .bool false, .slice none 0 0, .slice none 0 0, .int .i64 0, .slice none 0 0, .bool false] hr hl
  have hsz : w.heap.size < (((w.alloc (.cells #[.int .i64 0, .slice none 0 0, .int .i64 0, .slice none 0 0, .int .i64 0, .bool false, .slice none 0 0, .slice none 0 0, .int .i64 0, .slice none 0 0, .bool false] 35)).alloc (.cells #[v, .int .i64 0, .bool true, .bool false, .bool false] 77)).alloc (.cells #[.int .i64 0, .slice none 0 0, .int .i64 0, .slice none 0 0, .int .i64 0, .bool false, .slice none 0 0, .slice none 0 0, .int .i64 0, .slice none 0 0, .bool false] 35)).heap.size := by simp; omega
  obtain ⟨x0, s1, q0⟩ : ∃ u t, pC cI (⟨ys, 0, true, false, false⟩ : Pn) 0 = (u, t) := ⟨_, _, rfl⟩
  obtain ⟨x1, s2, q1⟩ : ∃ u t, pC (cL cRec) s1 [] = (u, t) := ⟨_, _, rfl⟩
  obtain ⟨x2, s3, q2⟩ : ∃ u t, pC cI s2 0 = (u, t) := ⟨_, _, rfl⟩
  obtain ⟨x3, s4, q3⟩ : ∃ u t, pC (cL cTurn) s3 [] = (u, t) := ⟨_, _, rfl⟩
  obtain ⟨x4, s5, q4⟩ : ∃ u t, pC cI s4 0 = (u, t) := ⟨_, _, rfl⟩
  obtain ⟨x5, s6, q5⟩ : ∃ u t, pC cF s5 false = (u, t) := ⟨_, _, rfl⟩
  obtain ⟨x6, s7, q6⟩ : ∃ u t, pC (cL cLine) s6 [] = (u, t) := ⟨_, _, rfl⟩
  obtain ⟨x7, s8, q7⟩ : ∃ u t, pC (cL cJob) s7 [] = (u, t) := ⟨_, _, rfl⟩
  obtain ⟨x8, s9, q8⟩ : ∃ u t, pC cI s8 0 = (u, t) := ⟨_, _, rfl⟩
  obtain ⟨x9, s10, q9⟩ : ∃ u t, pC (cL cWorker) s9 [] = (u, t) := ⟨_, _, rfl⟩
  obtain ⟨x10, s11, q10⟩ : ∃ u t, pC cF s10 false = (u, t) := ⟨_, _, rfl⟩
  have hdk : pC cDesk s2 (0, [], 0, false, []) = ((x2, x3, x4, x5, x6), s7) := by unfold cDesk; simp only [pC_seq, q2, q3, q4, q5, q6]
  have hall : pC cShop ⟨ys, 0, true, false, false⟩ (0, [], (0, [], 0, false, []), [], 0, [], false) = ((x0, x1, (x2, x3, x4, x5, x6), x7, x8, x9, x10), s11) := by unfold cShop; simp only [pC_seq, hdk, q0, q1, q7, q8, q9, q10]
  rw [pC_read rfl] at hall
  injection hall with hx1 hx2
  obtain ⟨pE, bE, hs9⟩ : ∃ pE bE, (cShop.rd ys ⟨0, false⟩).2 = ⟨pE, bE⟩ := ⟨_, _, rfl⟩
  have hs11 : s11 = ⟨ys, pE, true, bE, false⟩ := by rw [← hx2]; simp only [hs9]
  subst hs11
  have hc0 := penShop_rd (d := w.heap.size + 1 + 1) hp0 hd0 q0 q1 q2 q3 q4 q5 q6 q7 q8 q9 q10 (by omega) (by omega)
  have HX : Hid ((cShop.rd ys ⟨0, false⟩).1 = (x0, x1, (x2, x3, x4, x5, x6), x7, x8, x9, x10)) := hx1
  have HE : Hid ((cShop.rd ys ⟨0, false⟩).2 = ⟨pE, bE⟩) := hs9
  clear hx1 hx2 hs9 hdk hp0 q0 q1 q2 q3 q4 q5 q6 q7 q8 q9 q10
  obtain ⟨A, cp, hvf, hv1, hv2⟩ := hr.form
  have HC := Lib.hid hc0
  have HB := Lib.hid hb0
  have HZ0 := Lib.hid hz0
  clear hc0 hb0 hz0 hd0 hr
  have hP : ∀ b, b = w.heap.size → ∀ e w', ((cShop.all ys = true ∧ ∃ us : List Value, e = .returned (.tuple #[.agg us.toArray, .int .i64 0]) ∧ mShop.rep w'.heap.size w' us (cShop.rd ys ⟨0, false⟩).1) ∨ (cShop.all ys = false ∧ e = .returned (.tuple #[.agg #[.int .i64 0, .slice none 0 0, .int .i64 0, .slice none 0 0, .int .i64 0, .bool false, .slice none 0 0, .slice none 0 0, .int .i64 0, .slice none 0 0, .bool false], .int .i64 10]))) → Below b w w' → DecPost cShop mShop #[.int .i64 0, .slice none 0 0, .int .i64 0, .slice none 0 0, .int .i64 0, .bool false, .slice none 0 0, .slice none 0 0, .int .i64 0, .slice none 0 0, .bool false] ys w e w' := by
    rintro b rfl e w' h1 h2
    exact ⟨h1, h2⟩
  have HP := Lib.hid hP
  clear hP
  subst hvf
  go_enter Tryz.func14, Tryz.ntmps14
  go_wp2_with fail
  refine HC.out.mono ?_
  rintro e y4 ⟨rfl, v1, v3, v6, v7, v9, hpr, hch, hkb, o1, o3, o6, o7, o9⟩
  obtain ⟨v2, hpst⟩ := hpr.pst
  have hpn := hpst.pn
  have HOW : Hid (mShop.own w.heap.size y4 [.int .i64 x0, v1, .int .i64 x2, v3, .int .i64 x4, .bool x5, v6, v7, .int .i64 x8, v9, .bool x10] (cShop.rd ys ⟨0, false⟩).1) := by show mShop.own _ _ _ _; rw [HX.out]; exact mShop_mk o1 (mDesk_mk o3 o6) o7 o9
  obtain ⟨base, hbase⟩ : ∃ b, b = w.heap.size := ⟨_, rfl⟩
  obtain ⟨ua, hua⟩ : ∃ ua : Array Value, ua = #[.int .i64 x0, v1, .int .i64 x2, v3, .int .i64 x4, .bool x5, v6, v7, .int .i64 x8, v9, .bool x10] := ⟨_, rfl⟩
  have HKU : Hid (y4.heap[w.heap.size + 1 + 1]? = some (.cells ua 35)) := by show _ = _; rw [hua]; exact hkb
  have HOW2 : Hid (mShop.own w.heap.size y4 ua.toList (cShop.rd ys ⟨0, false⟩).1) := by show mShop.own _ _ _ _; rw [hua]; exact HOW.out
  have HRG : Hid (World.rangeAt y4 (w.heap.size + 1 + 1) 0 ua.toList) := fun j u hj => by rw [blk_cell HKU.out]; simpa using hj
  have hul : ua.size = 11 := by rw [hua]; rfl
  have hone : Hid (ua.all (·.oneCell') = true) := Array.all_eq_true_iff_forall_mem.2 (fun u hu => mShop_law.cell HOW2.out u (by simpa using hu))
  have hi1 : Hid ((Tryz.prog.info? 35).map (·.size) = some ua.toList.length) := by show _ = _; rw [Array.length_toList, hul]; kernel_rfl
  have hi2 : Hid ((Tryz.prog.info? 35).map (·.size) = some ua.size) := by show _ = _; rw [hul]; kernel_rfl
  have HZN := Lib.hid (hch.blk HZ0.out (by omega) (by omega))
  have HTH : Hid (World.there y4 w.heap.size 0 11) := there_at HZN.out rfl
  have HTU : Hid (World.there y4 w.heap.size 0 ua.size) := by show World.there _ _ _ _; rw [hul]; exact HTH.out
  obtain ⟨za, hza⟩ : ∃ za : Array Value, za = #[.int .i64 0, .slice none 0 0, .int .i64 0, .slice none 0 0, .int .i64 0, .bool false, .slice none 0 0, .slice none 0 0, .int .i64 0, .slice none 0 0, .bool false] := ⟨_, rfl⟩
  have HZA := Lib.hid hza
  have hzl : za.size = 11 := by rw [hza]; rfl
  have hzo : Hid (za.all (·.oneCell') = true) := by show _ = _; rw [hza]; simp [Value.oneCell']
  have hi3 : Hid ((Tryz.prog.info? 35).map (·.size) = some za.size) := by show _ = _; rw [hzl]; kernel_rfl
  have hi4 : Hid ((Tryz.prog.info? 35).map (·.size) = some za.toList.length) := by show _ = _; rw [Array.length_toList, hzl]; kernel_rfl
  have HTZ : Hid (World.there y4 w.heap.size 0 za.size) := by show World.there _ _ _ _; rw [hzl]; exact HTH.out
  have hbt : Tryz.prog.built 35 [] = some (#[.int .i64 0, .slice none 0 0, .int .i64 0, .slice none 0 0, .int .i64 0, .bool false, .slice none 0 0, .slice none 0 0, .int .i64 0, .slice none 0 0, .bool false] : Array Value) := by kernel_rfl
  have HBT : Hid (∀ a : Act, Tryz.prog.built 35 ((#[] : Array (Nat × Operand)).map fun (i, x) => (i, a.eval x)).toList = some za) := by intro a; rw [hza]; simpa using hbt
  have HBL : Hid (Below w.heap.size w y4) := HB.out.trans (hch.below (by omega) (by omega) (by omega))
  have e1 := blk_cell hpn 1
  have e2 := blk_cell hpn 3
  simp at e1 e2
  have HALL : Hid (cShop.all ys = (!bE && decide (pE = ys.length))) := by show _ = _; unfold Cd.all; rw [HE.out]
  clear hza hzl hbt hua hul HOW HX HE hch hpn hkb HB HZ0 HC HTH hbase hpr hpst o1 o3 o6 o7 o9
  obtain ⟨K, hK⟩ : ∃ k, k = w.heap.size + 1 + 1 := ⟨_, rfl⟩
  clear hK
  by_cases hgood : bE = false ∧ pE = ys.length
  · obtain ⟨rfl, rfl⟩ := hgood
    have HLV := Lib.hid (run_loadVar_mid (P := Tryz.prog) (World.setCells y4 w.heap.size 0 ua.toList) w.heap.size 0 35 ua.toList _ (World.rangeAt_setCells_same _ _ _ _ (by rw [Array.length_toList]; exact HTU.out)) Tryz.underlying35 rfl hi1.out)
    go_wp2_with (first
      | (with_reducible refine wpList_load_mid rfl 35 (.tmp 5) rfl (w.heap.size + 1 + 1) 0 rfl ua.toList _ HRG.out Tryz.underlying35 rfl hi1.out ?_)
      | (with_reducible refine wpList_store_mid rfl 35 (.tmp 2) (.tmp 25) rfl w.heap.size 0 ua rfl rfl HTU.out hi2.out hone.out ?_))
    have hlv := HLV.out
    simp only [Array.toArray_toList] at hlv
    refine bodyPost_ret (v := .tuple #[.agg ua, .int .i64 0]) ?_ rfl ?_
    · simp [results, Tryz.results14, asAddr, hlv]
    refine HP.out _ rfl _ _ (.inl ⟨by rw [HALL.out]; simp, ua.toList, by simp, ?_⟩) (below_cells (Nat.le_refl _) _ _ _ HBL.out)
    exact mShop_law.toRep (mShop_law.okeep HOW2.out (stay_cells HZN.out (by decide) _))
  · have HF : Hid (cShop.all ys = false) := by show _ = _; rw [HALL.out]; cases bE <;> simp_all
    have HLV := Lib.hid (run_loadVar_mid (P := Tryz.prog) (World.setCells y4 w.heap.size 0 za.toList) w.heap.size 0 35 za.toList _ (World.rangeAt_setCells_same _ _ _ _ (by rw [Array.length_toList]; exact HTZ.out)) Tryz.underlying35 rfl hi4.out)
    have HS2 : Hid (bE = true ∨ bE = false ∧ pE ≠ ys.length) := by show _ ∨ _; cases bE <;> simp_all
    clear HALL hgood
    rcases HS2.out with rfl | ⟨rfl, hpne⟩
    · go_wp2_with (first
        | (with_reducible refine wpList_buildTo rfl 35 #[] rfl (some 24) rfl za (HBT.out _) ?_)
        | (with_reducible refine wpList_store_mid rfl 35 (.tmp 2) (.tmp 24) rfl w.heap.size 0 za rfl rfl HTZ.out hi3.out hzo.out ?_))
      have hlv := HLV.out
      simp only [Array.toArray_toList] at hlv
      refine bodyPost_ret (v := .tuple #[.agg za, .int .i64 10]) ?_ rfl ?_
      · simp [results, Tryz.results14, asAddr, hlv]
      exact HP.out _ rfl _ _ (.inr ⟨HF.out, by rw [HZA.out]⟩) (below_cells (Nat.le_refl _) _ _ _ HBL.out)
    · go_wp2_with (first
        | (with_reducible refine wpList_buildTo rfl 35 #[] rfl (some 24) rfl za (HBT.out _) ?_)
        | (with_reducible refine wpList_store_mid rfl 35 (.tmp 2) (.tmp 24) rfl w.heap.size 0 za rfl rfl HTZ.out hi3.out hzo.out ?_))
      have hlv := HLV.out
      simp only [Array.toArray_toList] at hlv
      refine bodyPost_ret (v := .tuple #[.agg za, .int .i64 10]) ?_ rfl ?_
      · simp [results, Tryz.results14, asAddr, hlv]
      exact HP.out _ rfl _ _ (.inr ⟨HF.out, by rw [HZA.out]⟩) (below_cells (Nat.le_refl _) _ _ _ HBL.out)
end Go.Proofs.YtckooioikcenmaaGreat
namespace Go.Proofs.YtckooioikcenmaaGreat
open Go.RowKit
/-- the boxes of an operation and of a shop, in a world later on -/
structure OSB (w : World) (cs ds : Array Value) (W : World) : Prop where
  b0 : W.heap[w.heap.size]? = some (.cells cs 24)
  b1 : W.heap[w.heap.size + 1]? = some (.cells ds 35)
  bel : Below w.heap.size w W
theorem OSB.first (w : World) (cs ds : Array Value) : OSB w cs ds ((w.alloc (.cells cs 24)).alloc (.cells ds 35)) := by
  refine ⟨blk_alloc (alloc_at _ _) _, ?_, ((Below.refl _ _).alloc (Nat.le_refl _) _).alloc (by simp) _⟩
  have := alloc_at (w.alloc (.cells cs 24)) (.cells ds 35)
  rw [show (w.alloc (.cells cs 24)).heap.size = w.heap.size + 1 by simp] at this
  exact this
theorem OSB.below {w W W' : World} {cs ds : Array Value} (h : OSB w cs ds W) (hb : Below W.heap.size W W') : OSB w cs ds W' := ⟨blk_below hb h.b0, blk_below hb h.b1, h.bel.trans (hb.mono h.bel.size)⟩
theorem OSB.alloc {w W : World} {cs ds : Array Value} (h : OSB w cs ds W) (o : Obj) : OSB w cs ds (W.alloc o) := h.below ((Below.refl _ _).alloc (Nat.le_refl _) o)
theorem OSB.drewN {w W : World} {cs ds : Array Value} (h : OSB w cs ds W) (n : Nat) : OSB w cs ds (W.drewN n) := h.below (below_drewN (Below.refl _ _) n)
/-- the bytes, and the error, of what is written -/
def ebC {α : Type} (c : Cd α) (x : α) : List UInt8 := if c.okt x = true then c.enc x else []
def enC {α : Type} (c : Cd α) (x : α) : Int := if c.okt x = true then 0 else 2
theorem EncPost.one {α : Type} {c : Cd α} {x : α} {w : World} {e : Ending} {w' : World} (h : EncPost c x w e w') : Below w.heap.size w w' ∧ ∃ A cp, e = .returned (.tuple #[.slice A (ebC c x).length cp, .int .i64 (enC c x)]) ∧ RdB w' (.slice A (ebC c x).length cp) (ebC c x) := by
  obtain ⟨hb, h⟩ := h
  refine ⟨hb, ?_⟩
  unfold ebC enC
  by_cases hk : c.okt x = true
  · rw [if_pos hk] at h
    simp only [if_pos hk]
    obtain ⟨v, rfl, ho⟩ := h
    obtain ⟨A, cp, rfl, _, _⟩ := ho.reads.form
    exact ⟨A, cp, rfl, ho.reads⟩
  · rw [if_neg hk] at h
    simp only [if_neg hk]
    exact ⟨none, 0, h, .inl ⟨rfl, rfl⟩⟩
theorem RefEnc.one {α : Type} {c : Cd α} {x : α} {w : World} {e : Ending} {w' : World} (h : RefEnc c x w e w') : Below w.heap.size w w' ∧ ∃ A cp, e = .returned (.tuple #[.slice A (ebC c x).length cp, .int .i64 (enC c x)]) ∧ RdB w' (.slice A (ebC c x).length cp) (ebC c x) := by
  obtain ⟨hb, h⟩ := h
  refine ⟨hb, ?_⟩
  unfold ebC enC
  by_cases hk : c.okt x = true
  · rw [if_pos hk] at h
    simp only [if_pos hk]
    obtain ⟨v, rfl, ho⟩ := h
    obtain ⟨A, cp, rfl, _, _⟩ := ho.form
    exact ⟨A, cp, rfl, ho⟩
  · rw [if_neg hk] at h
    simp only [if_neg hk]
    exact ⟨none, 0, h, .inl ⟨rfl, rfl⟩⟩
/-- what is read, and the error -/
def dzC {α : Type} (c : Cd α) (ys : List UInt8) (z : α) : α := if c.all ys = true then (c.rd ys ⟨0, false⟩).1 else z
def dnC {α : Type} (c : Cd α) (ys : List UInt8) : Int := if c.all ys = true then 0 else 10
theorem DecPost.one {α : Type} {c : Cd α} {m : Mv α} {Z : List Value} {ys : List UInt8} {w : World} {e : Ending} {w' : World} {z : α} (h : DecPost c m Z.toArray ys w e w') (hz : m.rep w'.heap.size w' Z z) : Below w.heap.size w w' ∧ ∃ us : List Value, e = .returned (.tuple #[.agg us.toArray, .int .i64 (dnC c ys)]) ∧ m.rep w'.heap.size w' us (dzC c ys z) := by
  obtain ⟨h, hb⟩ := h
  refine ⟨hb, ?_⟩
  unfold dzC dnC
  rcases h with ⟨h1, us, h2, h3⟩ | ⟨h1, h2⟩
  · simp only [if_pos h1]
    exact ⟨us, h2, h3⟩
  · simp only [h1]
    exact ⟨Z, h2, hz⟩
def opz : DOp := (0, ⟨#[]⟩, ⟨#[]⟩, ⟨#[]⟩, ⟨#[]⟩, 0, 0, 0, 0, 0)
theorem opz_rep (B : Nat) (w : World) : mOp.rep B w [.int .u8 0, .string ⟨#[]⟩, .string ⟨#[]⟩, .string ⟨#[]⟩, .string ⟨#[]⟩, .int .i64 0, .int .i64 0, .int .i64 0, .int .i64 0, .int .i64 0] opz :=
  ⟨[_], _, rfl, rfl, [_], _, rfl, rfl, [_], _, rfl, rfl, [_], _, rfl, rfl, [_], _, rfl, rfl, [_], _, rfl, rfl, [_], _, rfl, rfl, [_], _, rfl, rfl, [_], [_], rfl, rfl, rfl⟩
section
attribute [local go_sem] frozen?_alloc_cells World.cell?_alloc_some
set_option maxRecDepth 20000 in
set_option maxHeartbeats 8000000 in
theorem tells23 (x : DOp) (y : DShop) (bs : List UInt8) (us vs : List Value) (v : Value) (w : World) (ho : cOp.okr x) (hs : cShop.okr y) (hsz : shopSz y) (hu : mOp.rep w.heap.size w us x) (hv : mShop.rep w.heap.size w vs y) (hr : RdB w v bs) :
    Calls Tryz.prog 3 #[.agg us.toArray, .agg vs.toArray, v] w (SPost w) := by
  obtain ⟨Av, cv, rfl, hv1, hv2⟩ := hr.form
  obtain ⟨qdo, q1, q2, q3, q4, q5, q6, q7, q8, q9⟩ := x
  obtain rfl := mOp_form hu
  have HX := Lib.hid hu
  have HY := Lib.hid hv
  have HOX := Lib.hid ho
  have HOY := Lib.hid hs
  have HSZ := Lib.hid hsz
  have HR := Lib.hid hr
  obtain ⟨qnow, qrs, ⟨qq, qqs, qat, qhad, qls⟩, qjs, qla, qws, qdr⟩ := y
  obtain ⟨v1, v2, v3, v4, v5, rfl, hu1, hu2, hu3, hu4, hu5, _⟩ := mShop_form hv
  obtain ⟨A1, c1, rfl⟩ := hu1.form
  obtain ⟨A2, c2, rfl⟩ := hu2.form
  obtain ⟨A3, c3, rfl⟩ := hu3.form
  obtain ⟨A4, c4, rfl⟩ := hu4.form
  obtain ⟨A5, c5, rfl⟩ := hu5.form
  clear hu hv ho hs hsz hr hu1 hu2 hu3 hu4 hu5
  have HS := Lib.hid (OSB.first w #[.int .u8 qdo, .string q1, .string q2, .string q3, .string q4, .int .i64 q5, .int .i64 q6, .int .i64 q7, .int .i64 q8, .int .i64 q9] #[.int .i64 qnow, .slice A1 qrs.length c1, .int .i64 qq, .slice A2 qqs.length c2, .int .i64 qat, .bool qhad, .slice A3 qls.length c3, .slice A4 qjs.length c4, .int .i64 qla, .slice A5 qws.length c5, .bool qdr])
  obtain ⟨yy, hyy⟩ : ∃ yy : DShop, yy = (qnow, qrs, (qq, qqs, qat, qhad, qls), qjs, qla, qws, qdr) := ⟨_, rfl⟩
  have HYY := Lib.hid hyy
  rw [← hyy] at HY HOY HSZ
  clear hyy
  obtain ⟨xx, hxx⟩ : ∃ xx : DOp, xx = (qdo, q1, q2, q3, q4, q5, q6, q7, q8, q9) := ⟨_, rfl⟩
  have HXX := Lib.hid hxx
  rw [← hxx] at HX HOX
  clear hxx
  have hm : bs.length ≤ 9223372036854775807 := by simp only [maxLen] at hv2; omega
  obtain ⟨nb, hnb⟩ : ∃ n, bs.length = n := ⟨_, rfl⟩
  have HNB := Lib.hid hnb
  rw [hnb] at HR hm ⊢
  clear hnb hv1 hv2
  go_enter Tryz.func3, Tryz.ntmps3
  go_upto_region 1 with fail
  go_cut [53] (fun s wx => ∃ g : Bool, s = .bool g ∧ Hid (g = false → (q1.size ≤ 3000 ∧ q2.size ≤ 3000 ∧ q3.size ≤ 3000 ∧ q4.size ≤ 3000 ∧ gShop yy = false ∧ nb ≤ 20000)) ∧ Hid (OSB w #[.int .u8 qdo, .string q1, .string q2, .string q3, .string q4, .int .i64 q5, .int .i64 q6, .int .i64 q7, .int .i64 q8, .int .i64 q9] #[.int .i64 qnow, .slice A1 qrs.length c1, .int .i64 qq, .slice A2 qqs.length c2, .int .i64 qat, .bool qhad, .slice A3 qls.length c3, .slice A4 qjs.length c4, .int .i64 qla, .slice A5 qws.length c5, .bool qdr] wx))
  case first =>
    by_cases e1 : 3000 < q1.size
    · go_wp2
      go_meet
      exact ⟨true, rfl, fun h => (by cases h), HS⟩
    by_cases e2 : 3000 < q2.size
    · go_wp2
      go_meet
      exact ⟨true, rfl, fun h => (by cases h), HS⟩
    by_cases e3 : 3000 < q3.size
    · go_wp2
      go_meet
      exact ⟨true, rfl, fun h => (by cases h), HS⟩
    by_cases e4 : 3000 < q4.size
    · go_wp2
      go_meet
      exact ⟨true, rfl, fun h => (by cases h), HS⟩
    go_wp2_with fail
    refine (great22_any yy _ _ (mShop_wide HS.out.bel.size (mShop_law.keep HY.out HS.out.bel)) HSZ.out).mono ?_
    rintro e w1 ⟨rfl, hb⟩
    have HS1 := Lib.hid (HS.out.below hb)
    clear hb
    obtain ⟨g, hg⟩ : ∃ g, gShop yy = g := ⟨_, rfl⟩
    rw [hg]
    have HG := Lib.hid hg
    clear hg
    cases g with
    | true =>
      go_wp2
      go_meet
      exact ⟨true, rfl, fun h => (by cases h), HS1⟩
    | false =>
      by_cases e5 : 20000 < nb
      · go_wp2
        go_meet
        exact ⟨_, rfl, fun h => (by simp at h; omega), HS1⟩
      · go_wp2
        go_meet
        exact ⟨_, rfl, fun _ => ⟨by omega, by omega, by omega, by omega, HG.out, by omega⟩, HS1⟩
  case rest =>
    obtain ⟨g, rfl, HF, HS1⟩ := hcut
    go_upto_if 53 with fail
    go_cut [] (fun wx => Hid (q1.size ≤ 3000 ∧ q2.size ≤ 3000 ∧ q3.size ≤ 3000 ∧ q4.size ≤ 3000 ∧ gShop yy = false ∧ nb ≤ 20000) ∧ Hid (OSB w #[.int .u8 qdo, .string q1, .string q2, .string q3, .string q4, .int .i64 q5, .int .i64 q6, .int .i64 q7, .int .i64 q8, .int .i64 q9] #[.int .i64 qnow, .slice A1 qrs.length c1, .int .i64 qq, .slice A2 qqs.length c2, .int .i64 qat, .bool qhad, .slice A3 qls.length c3, .slice A4 qjs.length c4, .int .i64 qla, .slice A5 qws.length c5, .bool qdr] wx))
    case first =>
      cases g with
      | true =>
        go_wp2_with fail
        refine (awake23 _).mono ?_
        rintro e w2 ⟨rfl, hb⟩
        go_wp2
        go_ret
        exact ⟨rfl, HS1.out.bel.trans (hb.mono HS1.out.bel.size)⟩
      | false =>
        have HF2 := Lib.hid (HF.out rfl)
        go_wp2
        go_meet
        exact ⟨HF2, HS1⟩
    case rest =>
      clear HF HS HS1
      obtain ⟨HF, HS⟩ := hcut
      apply_assumption
      have hsm : cOp.sm xx := by
        rw [HXX.out]
        obtain ⟨h1, h2, h3, h4, _⟩ := HF.out
        exact ⟨trivial, by show q1.size ≤ 30000; omega, by show q2.size ≤ 30000; omega, by show q3.size ≤ 30000; omega, by show q4.size ≤ 30000; omega, trivial, trivial, trivial, trivial, trivial⟩
      have hpp : bOp.P xx := by
        rw [HXX.out]
        obtain ⟨h1, h2, h3, h4, _⟩ := HF.out
        exact ⟨trivial, by show q1.size ≤ 30000; omega, by show q2.size ≤ 30000; omega, by show q3.size ≤ 30000; omega, by show q4.size ≤ 30000; omega, trivial, trivial, trivial, trivial, trivial⟩
      have HSM := Lib.hid hsm
      have HLEN := Lib.hid (op_len HOX.out hpp)
      have HSK := Lib.hid (shop_ok HOY.out HF.out.2.2.2.2.1)
      clear hsm hpp
      obtain ⟨lo, hlo⟩ : ∃ n, (ebC cOp xx).length = n := ⟨_, rfl⟩
      obtain ⟨ls, hls⟩ : ∃ n, (ebC cShop yy).length = n := ⟨_, rfl⟩
      have HLO := Lib.hid hlo
      have HLS := Lib.hid hls
      clear hlo hls
      have d0 := blk_cell HS.out.b0 0
      have d1 := blk_cell HS.out.b0 1
      have d2 := blk_cell HS.out.b0 2
      have d3 := blk_cell HS.out.b0 3
      have d4 := blk_cell HS.out.b0 4
      have d5 := blk_cell HS.out.b0 5
      have d6 := blk_cell HS.out.b0 6
      have d7 := blk_cell HS.out.b0 7
      have d8 := blk_cell HS.out.b0 8
      have d9 := blk_cell HS.out.b0 9
      simp at d0 d1 d2 d3 d4 d5 d6 d7 d8 d9
      go_wp2_with fail
      refine (wOp_any xx HOX.out HSM.out HLEN.out _ _ (mOp_wide HS.out.bel.size (mOp_law.keep HX.out HS.out.bel))).mono ?_
      rintro e w1 hq
      obtain ⟨hb, Au, cu, rfl, hr⟩ := hq.one
      rw [HLO.out] at hr ⊢
      have HBAu := Lib.hid hr
      have HS1 := Lib.hid (HS.out.below hb)
      clear hq hb hr d0 d1 d2 d3 d4 d5 d6 d7 d8 d9
      have d0 := blk_cell HS1.out.b0 0
      have d1 := blk_cell HS1.out.b0 1
      have d2 := blk_cell HS1.out.b0 2
      have d3 := blk_cell HS1.out.b0 3
      have d4 := blk_cell HS1.out.b0 4
      have d5 := blk_cell HS1.out.b0 5
      have d6 := blk_cell HS1.out.b0 6
      have d7 := blk_cell HS1.out.b0 7
      have d8 := blk_cell HS1.out.b0 8
      have d9 := blk_cell HS1.out.b0 9
      simp at d0 d1 d2 d3 d4 d5 d6 d7 d8 d9
      go_wp2_with fail
      refine (rfOp_any xx HOX.out HSM.out HLEN.out _ _ (mOp_wide HS1.out.bel.size (mOp_law.keep HX.out HS1.out.bel))).mono ?_
      rintro e w2 hq
      obtain ⟨hb, Av, cv9, rfl, hr⟩ := hq.one
      rw [HLO.out] at hr ⊢
      have HBAv := Lib.hid hr
      have hz := HBAu.out.below hb
      clear HBAu
      have HBAu := Lib.hid hz
      clear hz
      have HS2 := Lib.hid (HS1.out.below hb)
      clear hq hb hr d0 d1 d2 d3 d4 d5 d6 d7 d8 d9
      have s0 := blk_cell HS2.out.b1 0
      have s1 := blk_cell HS2.out.b1 1
      have s2 := blk_cell HS2.out.b1 2
      have s3 := blk_cell HS2.out.b1 3
      have s4 := blk_cell HS2.out.b1 4
      have s5 := blk_cell HS2.out.b1 5
      have s6 := blk_cell HS2.out.b1 6
      have s7 := blk_cell HS2.out.b1 7
      have s8 := blk_cell HS2.out.b1 8
      have s9 := blk_cell HS2.out.b1 9
      have s10 := blk_cell HS2.out.b1 10
      simp at s0 s1 s2 s3 s4 s5 s6 s7 s8 s9 s10
      go_wp2_with fail
      refine (wShop_any yy HOY.out HSK.out.1 HSK.out.2 _ _ (mShop_wide HS2.out.bel.size (mShop_law.keep HY.out HS2.out.bel))).mono ?_
      rintro e w3 hq
      obtain ⟨hb, Ax, cx, rfl, hr⟩ := hq.one
      rw [HLS.out] at hr ⊢
      have HBAx := Lib.hid hr
      have hz := HBAu.out.below hb
      clear HBAu
      have HBAu := Lib.hid hz
      clear hz
      have hz := HBAv.out.below hb
      clear HBAv
      have HBAv := Lib.hid hz
      clear hz
      have HS3 := Lib.hid (HS2.out.below hb)
      clear hq hb hr s0 s1 s2 s3 s4 s5 s6 s7 s8 s9 s10
      have s0 := blk_cell HS3.out.b1 0
      have s1 := blk_cell HS3.out.b1 1
      have s2 := blk_cell HS3.out.b1 2
      have s3 := blk_cell HS3.out.b1 3
      have s4 := blk_cell HS3.out.b1 4
      have s5 := blk_cell HS3.out.b1 5
      have s6 := blk_cell HS3.out.b1 6
      have s7 := blk_cell HS3.out.b1 7
      have s8 := blk_cell HS3.out.b1 8
      have s9 := blk_cell HS3.out.b1 9
      have s10 := blk_cell HS3.out.b1 10
      simp at s0 s1 s2 s3 s4 s5 s6 s7 s8 s9 s10
      go_wp2_with fail
      refine (rfShop_any yy HOY.out HSK.out.1 HSK.out.2 _ _ (mShop_wide HS3.out.bel.size (mShop_law.keep HY.out HS3.out.bel))).mono ?_
      rintro e w4 hq
      obtain ⟨hb, Ay, cy, rfl, hr⟩ := hq.one
      rw [HLS.out] at hr ⊢
      have HBAy := Lib.hid hr
      have hz := HBAu.out.below hb
      clear HBAu
      have HBAu := Lib.hid hz
      clear hz
      have hz := HBAv.out.below hb
      clear HBAv
      have HBAv := Lib.hid hz
      clear hz
      have hz := HBAx.out.below hb
      clear HBAx
      have HBAx := Lib.hid hz
      clear hz
      have HS4 := Lib.hid (HS3.out.below hb)
      clear hq hb hr s0 s1 s2 s3 s4 s5 s6 s7 s8 s9 s10
      go_wp2_with fail
      refine (sameBytes_any _ _ (ebC cOp xx) (ebC cOp xx) _ HBAu.out HBAv.out).mono ?_
      rintro e w5 ⟨rfl, hw⟩
      subst hw
      rw [decide_eq_true rfl]
      go_wp2_with fail
      refine (sameBytes_any _ _ (ebC cShop yy) (ebC cShop yy) _ HBAx.out HBAy.out).mono ?_
      rintro e w5 ⟨rfl, hw⟩
      subst hw
      rw [decide_eq_true rfl]
      have HBS := Lib.hid (HR.out.below HS4.out.bel)
      have HNL : Hid (bs.length ≤ 20000) := by show _ ≤ _; rw [HNB.out]; exact HF.out.2.2.2.2.2
      clear HBAu HBAv HBAx HBAy
      obtain ⟨dn1, hdn1⟩ : ∃ n, dnC cOp bs = n := ⟨_, rfl⟩
      obtain ⟨dn2, hdn2⟩ : ∃ n, dnC cShop bs = n := ⟨_, rfl⟩
      have HDN1 := Lib.hid hdn1
      have HDN2 := Lib.hid hdn2
      clear hdn1 hdn2
      obtain ⟨zo, hzo⟩ : ∃ z, dzC cOp bs opz = z := ⟨_, rfl⟩
      have HZO := Lib.hid hzo
      clear hzo
      obtain ⟨zs, hzs⟩ : ∃ z, dzC cShop bs shop0 = z := ⟨_, rfl⟩
      have HZS := Lib.hid hzs
      clear hzs
      obtain ⟨r0, r1, r2, r3, r4, r5, r6, r7, r8, r9⟩ := zo
      go_wp2_with fail
      refine (rdOp_any _ bs _ HBS.out (by have := HNL.out; omega)).mono ?_
      rintro e w6 hq
      obtain ⟨hb, us0, rfl, hrep⟩ := DecPost.one (Z := [.int .u8 0, .string ⟨#[]⟩, .string ⟨#[]⟩, .string ⟨#[]⟩, .string ⟨#[]⟩, .int .i64 0, .int .i64 0, .int .i64 0, .int .i64 0, .int .i64 0]) hq (opz_rep _ _)
      rw [HDN1.out]
      rw [HZO.out] at hrep
      obtain rfl := mOp_form hrep
      have hba : Below w6.heap.size w6 (w6.alloc (.cells #[.int .u8 r0, .string r1, .string r2, .string r3, .string r4, .int .i64 r5, .int .i64 r6, .int .i64 r7, .int .i64 r8, .int .i64 r9] 24)) := (Below.refl _ _).alloc (Nat.le_refl _) _
      have HK0 : Hid ((w6.alloc (.cells #[.int .u8 r0, .string r1, .string r2, .string r3, .string r4, .int .i64 r5, .int .i64 r6, .int .i64 r7, .int .i64 r8, .int .i64 r9] 24)).heap[w6.heap.size]? = some (.cells #[.int .u8 r0, .string r1, .string r2, .string r3, .string r4, .int .i64 r5, .int .i64 r6, .int .i64 r7, .int .i64 r8, .int .i64 r9] 24)) := alloc_at _ _
      have HS6 := Lib.hid ((HS4.out.below hb).below hba)
      have hz := (HBS.out.below hb).below hba
      clear HBS
      have HBS := Lib.hid hz
      clear hz
      obtain ⟨wb0, hwb⟩ : ∃ z, z = (w6.alloc (.cells #[.int .u8 r0, .string r1, .string r2, .string r3, .string r4, .int .i64 r5, .int .i64 r6, .int .i64 r7, .int .i64 r8, .int .i64 r9] 24)) := ⟨_, rfl⟩
      rw [← hwb] at HS6 HBS HK0
      obtain ⟨bb0, hbb⟩ : ∃ z, z = w6.heap.size := ⟨_, rfl⟩
      rw [← hbb] at HK0
      clear hq hb hba hrep
      go_upto_region 10 with fail
      rw [← hwb, ← hbb]
      clear hwb hbb
      go_wp2_with fail
      refine (rfReadOp_any _ bs _ HBS.out (by have := HNL.out; omega)).mono ?_
      rintro e w7 hq
      obtain ⟨hb, us1, rfl, hrep⟩ := DecPost.one (Z := [.int .u8 0, .string ⟨#[]⟩, .string ⟨#[]⟩, .string ⟨#[]⟩, .string ⟨#[]⟩, .int .i64 0, .int .i64 0, .int .i64 0, .int .i64 0, .int .i64 0]) hq (opz_rep _ _)
      rw [HDN1.out]
      rw [HZO.out] at hrep
      obtain rfl := mOp_form hrep
      have hba : Below w7.heap.size w7 (w7.alloc (.cells #[.int .u8 r0, .string r1, .string r2, .string r3, .string r4, .int .i64 r5, .int .i64 r6, .int .i64 r7, .int .i64 r8, .int .i64 r9] 24)) := (Below.refl _ _).alloc (Nat.le_refl _) _
      have HK1 : Hid ((w7.alloc (.cells #[.int .u8 r0, .string r1, .string r2, .string r3, .string r4, .int .i64 r5, .int .i64 r6, .int .i64 r7, .int .i64 r8, .int .i64 r9] 24)).heap[w7.heap.size]? = some (.cells #[.int .u8 r0, .string r1, .string r2, .string r3, .string r4, .int .i64 r5, .int .i64 r6, .int .i64 r7, .int .i64 r8, .int .i64 r9] 24)) := alloc_at _ _
      have HS7 := Lib.hid ((HS6.out.below hb).below hba)
      have hz := (HBS.out.below hb).below hba
      clear HBS
      have HBS := Lib.hid hz
      clear hz
      have hz := blk_below hba (blk_below hb HK0.out)
      clear HK0
      have HK0 := Lib.hid hz
      clear hz
      obtain ⟨wb1, hwb⟩ : ∃ z, z = (w7.alloc (.cells #[.int .u8 r0, .string r1, .string r2, .string r3, .string r4, .int .i64 r5, .int .i64 r6, .int .i64 r7, .int .i64 r8, .int .i64 r9] 24)) := ⟨_, rfl⟩
      rw [← hwb] at HS7 HBS HK0 HK1
      obtain ⟨bb1, hbb⟩ : ∃ z, z = w7.heap.size := ⟨_, rfl⟩
      rw [← hbb] at HK1
      clear hq hb hba hrep
      go_upto_region 11 with fail
      rw [← hwb, ← hbb]
      clear hwb hbb
      go_wp2_with fail
      refine (rdShop_any _ bs _ HBS.out (by have := HNL.out; omega)).mono ?_
      rintro e w8 hq
      obtain ⟨hb, us2, rfl, hrep⟩ := DecPost.one (Z := [.int .i64 0, .slice none 0 0, .int .i64 0, .slice none 0 0, .int .i64 0, .bool false, .slice none 0 0, .slice none 0 0, .int .i64 0, .slice none 0 0, .bool false]) hq (shop0_rep _ _)
      rw [HDN2.out]
      rw [HZS.out] at hrep
      have hrep2 := hrep
      obtain ⟨z0, z1, ⟨z2, z3, z4, z5, z6⟩, z7, z8, z9, z10⟩ := zs
      obtain ⟨x1, x2, x3, x4, x5, rfl, l1, l2, l3, l4, l5, _⟩ := mShop_form hrep2
      obtain ⟨CE1, cf1, rfl⟩ := l1.form
      obtain ⟨CE2, cf2, rfl⟩ := l2.form
      obtain ⟨CE3, cf3, rfl⟩ := l3.form
      obtain ⟨CE4, cf4, rfl⟩ := l4.form
      obtain ⟨CE5, cf5, rfl⟩ := l5.form
      clear l1 l2 l3 l4 l5 hrep2
      have hba : Below w8.heap.size w8 (w8.alloc (.cells #[.int .i64 z0, .slice CE1 z1.length cf1, .int .i64 z2, .slice CE2 z3.length cf2, .int .i64 z4, .bool z5, .slice CE3 z6.length cf3, .slice CE4 z7.length cf4, .int .i64 z8, .slice CE5 z9.length cf5, .bool z10] 35)) := (Below.refl _ _).alloc (Nat.le_refl _) _
      have HK2 : Hid ((w8.alloc (.cells #[.int .i64 z0, .slice CE1 z1.length cf1, .int .i64 z2, .slice CE2 z3.length cf2, .int .i64 z4, .bool z5, .slice CE3 z6.length cf3, .slice CE4 z7.length cf4, .int .i64 z8, .slice CE5 z9.length cf5, .bool z10] 35)).heap[w8.heap.size]? = some (.cells #[.int .i64 z0, .slice CE1 z1.length cf1, .int .i64 z2, .slice CE2 z3.length cf2, .int .i64 z4, .bool z5, .slice CE3 z6.length cf3, .slice CE4 z7.length cf4, .int .i64 z8, .slice CE5 z9.length cf5, .bool z10] 35)) := alloc_at _ _
      have HP2 := Lib.hid (mShop_wide (show w8.heap.size ≤ (w8.alloc (.cells #[.int .i64 z0, .slice CE1 z1.length cf1, .int .i64 z2, .slice CE2 z3.length cf2, .int .i64 z4, .bool z5, .slice CE3 z6.length cf3, .slice CE4 z7.length cf4, .int .i64 z8, .slice CE5 z9.length cf5, .bool z10] 35)).heap.size by simp) (mShop_law.keep hrep hba))
      have HS8 := Lib.hid ((HS7.out.below hb).below hba)
      have hz := (HBS.out.below hb).below hba
      clear HBS
      have HBS := Lib.hid hz
      clear hz
      have hz := blk_below hba (blk_below hb HK0.out)
      clear HK0
      have HK0 := Lib.hid hz
      clear hz
      have hz := blk_below hba (blk_below hb HK1.out)
      clear HK1
      have HK1 := Lib.hid hz
      clear hz
      obtain ⟨wb2, hwb⟩ : ∃ z, z = (w8.alloc (.cells #[.int .i64 z0, .slice CE1 z1.length cf1, .int .i64 z2, .slice CE2 z3.length cf2, .int .i64 z4, .bool z5, .slice CE3 z6.length cf3, .slice CE4 z7.length cf4, .int .i64 z8, .slice CE5 z9.length cf5, .bool z10] 35)) := ⟨_, rfl⟩
      rw [← hwb] at HS8 HBS HK0 HK1 HK2 HP2
      obtain ⟨bb2, hbb⟩ : ∃ z, z = w8.heap.size := ⟨_, rfl⟩
      rw [← hbb] at HK2
      clear hq hb hba hrep
      go_upto_region 12 with fail
      rw [← hwb, ← hbb]
      clear hwb hbb
      go_wp2_with fail
      refine (rfReadShop_any _ bs _ HBS.out (by have := HNL.out; omega)).mono ?_
      rintro e w9 hq
      obtain ⟨hb, us3, rfl, hrep⟩ := DecPost.one (Z := [.int .i64 0, .slice none 0 0, .int .i64 0, .slice none 0 0, .int .i64 0, .bool false, .slice none 0 0, .slice none 0 0, .int .i64 0, .slice none 0 0, .bool false]) hq (shop0_rep _ _)
      rw [HDN2.out]
      rw [HZS.out] at hrep
      have hrep2 := hrep
      obtain ⟨x1, x2, x3, x4, x5, rfl, l1, l2, l3, l4, l5, _⟩ := mShop_form hrep2
      obtain ⟨DE1, df1, rfl⟩ := l1.form
      obtain ⟨DE2, df2, rfl⟩ := l2.form
      obtain ⟨DE3, df3, rfl⟩ := l3.form
      obtain ⟨DE4, df4, rfl⟩ := l4.form
      obtain ⟨DE5, df5, rfl⟩ := l5.form
      clear l1 l2 l3 l4 l5 hrep2
      have hba : Below w9.heap.size w9 (w9.alloc (.cells #[.int .i64 z0, .slice DE1 z1.length df1, .int .i64 z2, .slice DE2 z3.length df2, .int .i64 z4, .bool z5, .slice DE3 z6.length df3, .slice DE4 z7.length df4, .int .i64 z8, .slice DE5 z9.length df5, .bool z10] 35)) := (Below.refl _ _).alloc (Nat.le_refl _) _
      have HK3 : Hid ((w9.alloc (.cells #[.int .i64 z0, .slice DE1 z1.length df1, .int .i64 z2, .slice DE2 z3.length df2, .int .i64 z4, .bool z5, .slice DE3 z6.length df3, .slice DE4 z7.length df4, .int .i64 z8, .slice DE5 z9.length df5, .bool z10] 35)).heap[w9.heap.size]? = some (.cells #[.int .i64 z0, .slice DE1 z1.length df1, .int .i64 z2, .slice DE2 z3.length df2, .int .i64 z4, .bool z5, .slice DE3 z6.length df3, .slice DE4 z7.length df4, .int .i64 z8, .slice DE5 z9.length df5, .bool z10] 35)) := alloc_at _ _
      have HP3 := Lib.hid (mShop_wide (show w9.heap.size ≤ (w9.alloc (.cells #[.int .i64 z0, .slice DE1 z1.length df1, .int .i64 z2, .slice DE2 z3.length df2, .int .i64 z4, .bool z5, .slice DE3 z6.length df3, .slice DE4 z7.length df4, .int .i64 z8, .slice DE5 z9.length df5, .bool z10] 35)).heap.size by simp) (mShop_law.keep hrep hba))
      have HS9 := Lib.hid ((HS8.out.below hb).below hba)
      have hz := (HBS.out.below hb).below hba
      clear HBS
      have HBS := Lib.hid hz
      clear hz
      have hz := blk_below hba (blk_below hb HK0.out)
      clear HK0
      have HK0 := Lib.hid hz
      clear hz
      have hz := blk_below hba (blk_below hb HK1.out)
      clear HK1
      have HK1 := Lib.hid hz
      clear hz
      have hz := blk_below hba (blk_below hb HK2.out)
      clear HK2
      have HK2 := Lib.hid hz
      clear hz
      have hz := mShop_wide (Nat.le_trans hb.size hba.size) (mShop_law.keep (mShop_law.keep HP2.out hb) (hba.mono hb.size))
      clear HP2
      have HP2 := Lib.hid hz
      clear hz
      obtain ⟨wb3, hwb⟩ : ∃ z, z = (w9.alloc (.cells #[.int .i64 z0, .slice DE1 z1.length df1, .int .i64 z2, .slice DE2 z3.length df2, .int .i64 z4, .bool z5, .slice DE3 z6.length df3, .slice DE4 z7.length df4, .int .i64 z8, .slice DE5 z9.length df5, .bool z10] 35)) := ⟨_, rfl⟩
      rw [← hwb] at HS9 HBS HK0 HK1 HK2 HK3 HP2 HP3
      obtain ⟨bb3, hbb⟩ : ∃ z, z = w9.heap.size := ⟨_, rfl⟩
      rw [← hbb] at HK3
      clear hq hb hba hrep
      go_upto_region 13 with fail
      rw [← hwb, ← hbb]
      clear hwb hbb
      have o0 := blk_cell HK0.out 0
      have o1 := blk_cell HK0.out 1
      have o2 := blk_cell HK0.out 2
      have o3 := blk_cell HK0.out 3
      have o4 := blk_cell HK0.out 4
      have o5 := blk_cell HK0.out 5
      have o6 := blk_cell HK0.out 6
      have o7 := blk_cell HK0.out 7
      have o8 := blk_cell HK0.out 8
      have o9 := blk_cell HK0.out 9
      simp at o0 o1 o2 o3 o4 o5 o6 o7 o8 o9
      have p0 := blk_cell HK1.out 0
      have p1 := blk_cell HK1.out 1
      have p2 := blk_cell HK1.out 2
      have p3 := blk_cell HK1.out 3
      have p4 := blk_cell HK1.out 4
      have p5 := blk_cell HK1.out 5
      have p6 := blk_cell HK1.out 6
      have p7 := blk_cell HK1.out 7
      have p8 := blk_cell HK1.out 8
      have p9 := blk_cell HK1.out 9
      simp at p0 p1 p2 p3 p4 p5 p6 p7 p8 p9
      have g0 := blk_cell HK2.out 0
      have g1 := blk_cell HK2.out 1
      have g2 := blk_cell HK2.out 2
      have g3 := blk_cell HK2.out 3
      have g4 := blk_cell HK2.out 4
      have g5 := blk_cell HK2.out 5
      have g6 := blk_cell HK2.out 6
      have g7 := blk_cell HK2.out 7
      have g8 := blk_cell HK2.out 8
      have g9 := blk_cell HK2.out 9
      have g10 := blk_cell HK2.out 10
      simp at g0 g1 g2 g3 g4 g5 g6 g7 g8 g9 g10
      have h0 := blk_cell HK3.out 0
      have h1 := blk_cell HK3.out 1
      have h2 := blk_cell HK3.out 2
      have h3 := blk_cell HK3.out 3
      have h4 := blk_cell HK3.out 4
      have h5 := blk_cell HK3.out 5
      have h6 := blk_cell HK3.out 6
      have h7 := blk_cell HK3.out 7
      have h8 := blk_cell HK3.out 8
      have h9 := blk_cell HK3.out 9
      have h10 := blk_cell HK3.out 10
      simp at h0 h1 h2 h3 h4 h5 h6 h7 h8 h9 h10
      have hq := eqlOp r0 r1 r2 r3 r4 r5 r6 r7 r8 r9
      go_wp2_with fail
      refine (same22_any (z0, z1, (z2, z3, z4, z5, z6), z7, z8, z9, z10) wb3.heap.size _ _ _ HP2.out HP3.out (Nat.le_refl _)).mono ?_
      rintro e w10 ⟨rfl, hb⟩
      have HS10 := Lib.hid (HS9.out.below hb)
      clear hb
      go_wp2_with fail
      refine (awake23 _).mono ?_
      rintro e w11 ⟨rfl, hb⟩
      have HF2 := Lib.hid (HS10.out.bel.trans (hb.mono HS10.out.bel.size))
      clear hb
      go_wp2
      go_ret
      exact ⟨rfl, HF2.out⟩
end
end Go.Proofs.YtckooioikcenmaaGreat
namespace Go.Proofs.YtckooioikcenmaaGreat
open Go.ChangeShapes Go.WideShapes Go.ChangeAt Go.RowKit Go.Joins Go.Deep
set_option maxRecDepth 100000 in
theorem tells_contract (H : Type) (enc : TypeId × Value → H) (W : World) (base : Nat) (args : Array Value) (ds gs : List (DataW H)) (before : List MemPlace)
    (hval0 : ∀ (j : Nat) t v, Tryz.f3.params[j]? = some t → args[j]? = some v → Value.okWide Tryz.prog W .any base t v)
    (hW : DataW.Whole enc Tryz.prog Tryz.f3.params.toList Rows.codecTellsSpec.vars false W args.toList ds gs before)
    (hwt : (DataW.weightsEach Tryz.prog (Tryz.f3.params.toList ++ Rows.codecTellsSpec.plain.varTypes Tryz.prog) (ds ++ gs)).all (· ≤ reachBytes) = true) :
    Calls Tryz.prog 3 args W fun e W' => ∃ v, e = .returned v ∧ Rows.codecTellsSpec.post enc Tryz.prog Tryz.f3 false true false false W args v W' := by
  have hval : ∀ (j : Nat) t v, Tryz.f3.params[j]? = some t → args[j]? = some v → Value.okWide Tryz.prog W .any base t v := hval0
  have hW' := hW
  obtain ⟨p, q, hA0, hV, rfl, _, _⟩ := hW
  have hA : DataW.TrodAll enc Tryz.prog W 0 (fun _ => true) true Tryz.f3.params.toList args.toList ds p := hA0
  rw [Tryz.params3] at hA hval hwt
  obtain ⟨rfl, rfl⟩ := trodVars_none hV
  have hwk : ∀ k ∈ DataW.weightsEach Tryz.prog (Tryz.f3.params.toList) ds, k ≤ 140737488351232 := fun k hk => by
    have := List.all_eq_true.1 hwt k (by
      rw [List.append_nil]
      exact hk)
    exact of_decide_eq_true this
  rw [Tryz.params3] at hwk
  obtain ⟨v0, v1, v2, d0, d1, d2, p0, p1, p2, rfl, rfl, rfl, h0, h1, h2⟩ := trodAll_three hA
  obtain ⟨us, x, rfl, hx1, hx2, _⟩ := arg_struct (ts := [22, 9, 9, 9, 9, 2, 2, 3, 3, 3]) (by kernel_rfl) openOp (hval 0 _ v0 rfl rfl) h0
  obtain ⟨vs, y, rfl, hy1, hy2, hy3⟩ := arg_struct (ts := [2, 25, 31, 32, 3, 33, 4]) (by kernel_rfl) openShop (hval 1 _ v1 rfl rfl) h1
  obtain ⟨bs, hbs⟩ := open_bytes (hval 2 _ v2 rfl rfl) h2
  have hy4 := hy3 140737488351232 fun k hk => hwk k (by simp only [DataW.weightsEach]; exact List.mem_append_right _ (List.mem_append_left _ hk))
  refine (tells23 x y bs us vs v2 W hx2 hy2 (shopSz_of hy4) hx1 hy1 hbs).mono fun e W' ⟨he, hb⟩ => ?_
  subst he
  exact ⟨_, rfl, law_post claidOut (by kernel_rfl) (by kernel_rfl) Tryz.underlying4 rfl (fun ds h => by
    match ds, h with
    | [_, _, _], _ => rfl) hW' hb⟩
set_option maxRecDepth 100000 in
theorem tells_lifted (os : Os) (started : os.Started) (H : Type) (enc : TypeId × Value → H) :
    ReturnsInHanded {} Tryz.checked os 3 .any (Rows.codecTellsSpec.pre6 enc Tryz.prog Tryz.f3 [] false) (Rows.codecTellsSpec.post enc Tryz.prog Tryz.f3 false true false false) := by
  refine returnsInHanded_of_change_sized (C := Tryz.checked) cown started (by kernel_rfl) Tryz.func3
    (ChangeSpec.witness6 (enc := enc) (C := Tryz.checked) (s := Rows.codecTellsSpec) (conds := []) false ⟨#[], #[.agg #[.int .u8 0, .string ⟨#[]⟩, .string ⟨#[]⟩, .string ⟨#[]⟩, .string ⟨#[]⟩, .int .i64 0, .int .i64 0, .int .i64 0, .int .i64 0, .int .i64 0], .agg #[.int .i64 0, .slice none 0 0, .int .i64 0, .slice none 0 0, .int .i64 0, .bool false, .slice none 0 0, .slice none 0 0, .int .i64 0, .slice none 0 0, .bool false], .slice none 0 0], []⟩ 8 (by kernel_rfl) (by kernel_rfl) (by kernel_rfl) (by kernel_rfl)) ?_
  intro W base args ds gs before hval hW _ hwt _
  exact tells_contract H enc W base args ds gs before hval hW hwt
theorem tells_holds : Rows.CodecTellsSaid :=
  OpenClaim.holds_of_wide 3 Tryz.f3 rfl rfl rfl rfl rfl rfl rfl ⟨rfl, rfl, rfl, rfl, rfl⟩ rfl rfl rfl rfl rfl (by kernel_rfl) Tryz.func3 (by kernel_rfl)
    (of_decide_eq_true (by kernel_rfl)) (by unfold Func.isWrapper; first | (rw [if_pos (by decide +kernel)]; kernel_rfl) | (rw [if_neg (by decide +kernel)]; exact ⟨rfl, rfl⟩))
    (fun os started H enc _ => tells_lifted os started H enc)
#print axioms tells_holds
end Go.Proofs.YtckooioikcenmaaGreat

/- program.Bytes. Conditions: sizes a machine can have. -/
import Derived.Test.YtckooioikcenmaaDoorPgB2
import Derived.Test.YtckooioikcenmaaDoorPgR2
import Derived.Deep.DrawnRows
namespace Go.Proofs.YtckooioikcenmaaDoor
open Go.RowKit
theorem PBox.keep {w W W' : World} {name : ByteArray} {regs : Int} {cv : Value} {B : Nat} (h : PBox w name regs cv W) (hk : Keep isW B W W') (hB : w.heap.size ≤ B) (hB2 : B ≤ W.heap.size) : PBox w name regs cv W' :=
  ⟨hk.blk h.box rfl, h.bel.trans ((hk.below hB2).mono hB)⟩
theorem far_T {base k : Nat} {w : World} {v : Value} {ys : List UInt8} {cs : Array Value} {T : TypeId} {fr : Nat × Nat} (hT : T ≠ 5) (hc : w.heap[k]? = some (.cells cs T fr)) (h : Bytes base w v ys) : some k ≠ v.ownBlock := by
  intro e
  rcases h.2 with ⟨rfl, _⟩ | ⟨g, cap, cur, rfl, _, hh, _⟩
  · cases e
  · have : k = g := by simpa [Value.ownBlock] using e
    subst this
    rw [hh] at hc
    injection hc with hc
    injection hc with _ hc
    exact hT hc.symm
theorem own_lt {base k : Nat} {w : World} {v : Value} {ys : List UInt8} (h : Bytes base w v ys) (e : some k = v.ownBlock) : k < w.heap.size := by
  rcases h.2 with ⟨rfl, _⟩ | ⟨g, cap, cur, rfl, _, hh, _⟩
  · cases e
  · have : k = g := by simpa [Value.ownBlock] using e
    subst this
    exact blk_lt hh
/-- what stands behind Blob, whose text has just been laid: the cells of another block -/
theorem two_cell {base : Nat} {w1 w2 w3 : World} {v1 v2 v3 : Value} {ys : List UInt8} {s : ByteArray} (h1 : Ext w1 w2 v1 v2) (ho : Bytes base w2 v2 ys) (h3 : Ext (Lib.bytesWorld w2 5 s) w3 v2 v3) {k : Nat} {cs : Array Value} {T : TypeId} (hk : w1.heap[k]? = some (.cells cs T)) (hne : some k ≠ v1.ownBlock) (hT : T ≠ 5) :
    w3.heap[k]? = some (.cells cs T) := by
  have e2 := h1.blk hk hne
  exact h3.blk (blk_below (conv_below _ _ _ (Nat.le_refl _)) e2) (far_T hT e2 ho)
theorem ext_cell {w w' : World} {v v' : Value} (h : Ext w w' v v') {k : Nat} {cs : Array Value} {T : TypeId} (hk : w.heap[k]? = some (.cells cs T)) (hne : some k ≠ v.ownBlock) {j : Nat} : w'.cell? ⟨k, j, none⟩ = cs[j]? := blk_cell (h.blk hk hne) j
theorem ins_len {x : Ins} (h : InsR x) : (insB x).length ≤ 100 := by
  obtain ⟨⟨a0, a1⟩, ⟨b0, b1⟩, ⟨c0, c1⟩, ⟨d0, d1⟩, ⟨e0, e1⟩, f1⟩ := h
  have h1 := uv_len10 (n := x.op.toNat) (by omega)
  have h2 := uv_len10 (n := x.a.toNat) (by omega)
  have h3 := uv_len10 (n := x.b.toNat) (by omega)
  have h4 := uv_len10 (n := x.c.toNat) (by omega)
  have h5 := uv_len10 (n := zag x.n) (zag_lt e0 e1)
  have h6 := uv_len10 (n := x.s.data.toList.length) (by show x.s.size < _; omega)
  have h7 : x.s.data.toList.length = x.s.size := rfl
  rw [insB_eq, iv_zag, blobB]
  simp only [List.length_append]
  omega
theorem code_len : ∀ (l : List Ins), (∀ x ∈ l, InsR x) → (l.flatMap insB).length ≤ l.length * 100
  | [], _ => by simp
  | x :: r, h => by
    have h1 := ins_len (h x (by simp))
    have h2 := code_len r (fun y hy => h y (by simp [hy]))
    simp only [List.flatMap_cons, List.length_append, List.length_cons]
    omega
theorem head_len {name : ByteArray} {regs : Int} {n : Nat} (h1 : name.size ≤ 40) (h2 : regs ≤ 16) (h3 : n ≤ 500) : (blobB name.data.toList ++ uvs [regs, (n : Int)]).length ≤ 70 := by
  have h5 := uv_len10 (n := regs.toNat) (by omega)
  have h6 := uv_len10 (n := n) (by omega)
  have h7 : name.data.toList.length = name.size := rfl
  have h8 := uv_len10 (n := name.data.toList.length) (by omega)
  unfold blobB uvs
  simp only [List.length_append, List.flatMap_cons, List.flatMap_nil, Int.toNat_natCast, List.append_nil]
  omega
theorem check_insR {name : ByteArray} {regs : Int} {xs : List Ins} (h : checkOk name regs xs 20 = true) (hn : NOk xs) : ∀ x ∈ xs, InsR x := by
  obtain ⟨⟨h1, h2⟩, h3, h4, h5⟩ := check_parts0 h
  exact fun x hx => fits_small h2 h3 (h5 x hx) (hn x hx)
theorem part_len {name : ByteArray} {regs : Int} {xs : List Ins} {n : Nat} (k : Nat) (h : checkOk name regs xs 20 = true) (hn : NOk xs) (h3 : n ≤ 500) : (blobB name.data.toList ++ uvs [regs, (n : Int)] ++ (xs.take k).flatMap insB).length ≤ 50070 := by
  obtain ⟨⟨h1, h2⟩, h3', h4, h5⟩ := check_parts0 h
  have h6 := head_len h4 h2 h3
  have h7 := code_len (xs.take k) (fun x hx => check_insR h hn x (List.mem_of_mem_take hx))
  have h8 : (xs.take k).length ≤ xs.length := by rw [List.length_take]; omega
  rw [List.length_append]
  omega
theorem Keep.isB_isW {B : Nat} {w w' : World} (h : Keep isB B w w') : Keep isW B w w' := h.types (fun t ht => by simp [isB, isW] at ht ⊢; exact .inl ht)
/-- between Int and Blob, and behind them: the bytes that the call owns, the variable that still holds what it held, the instruction's box -/
structure After (pc K base : Nat) (xc : Array Value) (v0 : Value) (W0 w : World) (v : Value) (ys : List UInt8) : Prop where
  own : Bytes base w v ys
  c0 : w.heap[pc]? = some (.cells #[v0] 35)
  x0 : w.heap[K]? = some (.cells xc 34)
  ext : Ext W0 w v0 v
def AfterPost (pc K base : Nat) (xc : Array Value) (v0 : Value) (W0 : World) (ys : List UInt8) (e : Ending) (w' : World) : Prop :=
  ∃ A n c, e = .returned (.slice A n c) ∧ After pc K base xc v0 W0 w' (.slice A n c) ys
theorem int_after {pc K base : Nat} {xc : Array Value} {v0 : Value} {W : World} {ys : List UInt8} {n : Int} (hn : -9223372036854775808 ≤ n ∧ n ≤ 9223372036854775807) (hB : Bytes base W v0 ys) (hb : base ≤ W.heap.size) (hl : ys.length + 10 ≤ 140737488355328)
    (hc : W.heap[pc]? = some (.cells #[v0] 35)) (hx : W.heap[K]? = some (.cells xc 34)) : Calls Tryd.prog 31 #[v0, .int .i64 n] W (AfterPost pc K base xc v0 W (ys ++ iv n)) := by
  refine (int_any _ _ n _ base hn.1 hn.2 hB hb hl).mono ?_
  rintro e w12 ⟨v12, rfl, hown, hext⟩
  have t0 := hext.blk hc (far_T (by decide) hc hB)
  have t1 := hext.blk hx (far_T (by decide) hx hB)
  obtain ⟨A, n, c, e12⟩ := hown.form
  subst e12
  exact ⟨A, n, c, rfl, hown, t0, t1, hext⟩
theorem blob_afterA {pc K base : Nat} {xc : Array Value} {v0 : Value} {W0 w : World} {v : Value} {ys : List UInt8} (h : After pc K base xc v0 W0 w v ys) (s : ByteArray) (hs : s.size ≤ 3000) (hb : base ≤ W0.heap.size) (hl : ys.length + s.data.toList.length + 10 ≤ 140737488355328) :
    Calls Tryd.prog 28 #[v, .slice (some ⟨w.heap.size, 0, none⟩) s.size (grownCap w s.size 0 5)] (Lib.bytesWorld w 5 s) (AfterPost pc K base xc v0 W0 (ys ++ blobB s.data.toList)) := by
  have hcb := conv_below w.heap.size w s (Nat.le_refl _)
  have hB := own_below hcb h.own
  refine (blob_any _ _ _ s.data.toList _ base hB (conv_read w s hs) (by intro k9 h9 h8; injection h9 with h9; subst h9; exact absurd (own_lt h.own h8) (Nat.lt_irrefl _)) (by rw [Lib.bytesWorld_size]; have := h.ext.size; omega) hl).mono ?_
  rintro e w13 ⟨v13, rfl, hown, hext⟩
  have t0 := hext.blk (blk_below hcb h.c0) (far_T (by decide) (blk_below hcb h.c0) hB)
  have t1 := hext.blk (blk_below hcb h.x0) (far_T (by decide) (blk_below hcb h.x0) hB)
  obtain ⟨A, n, c, e13⟩ := hown.form
  subst e13
  exact ⟨A, n, c, rfl, hown, t0, t1, (h.ext.below hcb).trans hext⟩
theorem blob_afterB {pc K base : Nat} {xc : Array Value} {v0 : Value} {W0 w : World} {v : Value} {ys ys0 : List UInt8} (s : ByteArray) (h : After pc K base xc v0 (Lib.bytesWorld W0 5 s) w v ys) (h0 : Bytes base W0 v0 ys0) (hs : s.size ≤ 3000) (hb : base ≤ W0.heap.size) (hl : ys.length + s.data.toList.length + 10 ≤ 140737488355328) :
    Calls Tryd.prog 28 #[v, .slice (some ⟨W0.heap.size, 0, none⟩) s.size (grownCap W0 s.size 0 5)] w (AfterPost pc K base xc v0 W0 (ys ++ blobB s.data.toList)) := by
  have hcb := conv_below W0.heap.size W0 s (Nat.le_refl _)
  have hne : some W0.heap.size ≠ v0.ownBlock := fun h8 => absurd (own_lt h0 h8) (Nat.lt_irrefl _)
  have hsz := Lib.bytesWorld_size W0 5 s
  have hr : RdB w (.slice (some ⟨W0.heap.size, 0, none⟩) s.size (grownCap W0 s.size 0 5)) s.data.toList := RdB.step (conv_read W0 s hs) h.ext.size (fun k9 h9 h8 => by
    injection h9 with h9; subst h9; exact h.ext.1.block _ h8 hne)
  refine (blob_any _ _ _ s.data.toList _ base h.own hr (by
    intro k9 h9 h8
    injection h9 with h9
    subst h9
    rcases h.ext.2 with q | ⟨k, q, hk⟩
    · rw [q] at h8; exact hne h8
    · rw [q] at h8; injection h8 with h8; simp only at h8; omega) (by have := h.ext.size; omega) hl).mono ?_
  rintro e w13 ⟨v13, rfl, hown, hext⟩
  have t0 := hext.blk h.c0 (far_T (by decide) h.c0 h.own)
  have t1 := hext.blk h.x0 (far_T (by decide) h.x0 h.own)
  obtain ⟨A, n, c, e13⟩ := hown.form
  subst e13
  exact ⟨A, n, c, rfl, hown, t0, t1, (((Ext.refl W0 v0).below hcb).trans h.ext).trans hext⟩
def BytesPost (name : ByteArray) (regs : Int) (xs : List Ins) (w : World) (e : Ending) (w' : World) : Prop :=
  ∃ v, e = .returned (.tuple #[v, .int .i64 0]) ∧ Bytes w.heap.size w' v (bytesOf name regs xs) ∧ Below w.heap.size w w'
theorem take_step {xs : List Ins} {k : Nat} {x : Ins} (h : xs[k]? = some x) : (xs.take (k + 1)).flatMap insB = (xs.take k).flatMap insB ++ insB x := by
  rw [List.take_add_one, h]; simp
attribute [local go_sem ↓] Go.wp_at_zero Go.wp_at_succ
set_option maxRecDepth 20000 in
set_option maxHeartbeats 4000000 in
theorem bytes_ok (name : ByteArray) (regs : Int) (A : Option Addr) (ln cp : Nat) (xs : List Ins) (hl : xs.length = ln) (w : World) (hc : CodeAt w (.slice A ln cp) xs) (hok : checkOk name regs xs 20 = true) (hnok : NOk xs) :
    Calls Tryd.prog 15 #[.agg #[.string name, .int .i64 regs, .slice A ln cp]] w (BytesPost name regs xs w) := by
  have h40 : name.size ≤ 40 := (check_parts0 hok).2.2.1
  have hln5 : ln ≤ 500 := by have := (check_parts0 hok).2.1; omega
  have NK := Lib.hid hnok
  clear hnok
  have HC := Lib.hid hc
  clear hc
  have HP := Lib.hid (PBox.first w name regs (.slice A ln cp))
  go_enter Tryd.func15, Tryd.ntmps15
  go_wp2_with fail
  refine (check_walk name regs _ _ _ xs (HC.out.below HP.out.bel)).mono ?_
  rintro e w2 ⟨rfl, hb⟩
  rw [chk_yes hok]
  have HP2 := Lib.hid (HP.out.below hb)
  clear hb
  have c0 := HP2.out.c0
  have c1 := HP2.out.c1
  have c2 := HP2.out.c2
  have hcv := conv_run w2 name
  go_wp2_with fail
  have HRD := Lib.hid (conv_read w2 name (by omega))
  have HCB := Lib.hid (conv_below w2.heap.size w2 name (Nat.le_refl _))
  generalize Lib.bytesWorld w2 5 name = w3 at *
  generalize grownCap w2 name.size 0 5 = gc at *
  refine (blob_any (.slice none 0 0) _ [] name.data.toList w3 w2.heap.size (Bytes.nil _ _) HRD.out (by intro k _ e; cases e) HCB.out.size (by show 0 + name.size + 10 ≤ _; omega)).mono ?_
  rintro e w4 ⟨v4, rfl, hown, hext⟩
  obtain ⟨A4, n4, c4, rfl⟩ := hown.form
  have hb4 : Below w2.heap.size w2 w4 := ext_below hext (Bytes.nil w2.heap.size w3) HCB.out (Nat.le_refl _)
  have HP4 := Lib.hid (HP2.out.below hb4)
  have HP5 := Lib.hid (HP4.out.alloc (.cells #[.slice A4 n4 c4] 35))
  clear c0 c1 c2 hcv
  have c0 := HP5.out.c0
  have c1 := HP5.out.c1
  have c2 := HP5.out.c2
  rw [List.nil_append] at hown
  have HO5 : OutAt w4.heap.size w2.heap.size ((w4.alloc (.cells #[.slice A4 n4 c4] 35)).alloc (.cells #[.int .i64 regs, .int .i64 ln] 3)) (blobB name.data.toList) (.slice A4 n4 c4) :=
    ⟨blk_alloc (alloc_at _ _) _, (hown.alloc _).alloc _⟩
  have HI5 : IntsAt ((w4.alloc (.cells #[.slice A4 n4 c4] 35)).alloc (.cells #[.int .i64 regs, .int .i64 ln] 3)) (w4.heap.size + 1) [regs, (ln : Int)] := by
    refine ⟨#[.int .i64 regs, .int .i64 ln], ?_, fun k n hk => ?_⟩
    · have := alloc_at (w4.alloc (.cells #[.slice A4 n4 c4] 35)) (.cells #[.int .i64 regs, .int .i64 ln] 3)
      rw [show (w4.alloc (.cells #[.slice A4 n4 c4] 35)).heap.size = w4.heap.size + 1 by simp] at this
      exact this
    · match k, hk with
      | 0, hk => simp at hk; subst hk; rfl
      | 1, hk => simp at hk; subst hk; rfl
  have HP6 := Lib.hid (HP5.out.alloc (.cells #[.int .i64 regs, .int .i64 ln] 3))
  have hsz4 := hb4.size
  have HO := Lib.hid HO5
  have HI := Lib.hid HI5
  clear hown hext HO5 HI5
  go_wp2_with fail
  refine (put_any w4.heap.size w2.heap.size (w4.heap.size + 1) (blobB name.data.toList) _ [regs, (ln : Int)] 2 rfl _ HO.out HI.out (by
    obtain ⟨⟨q1, q2⟩, _⟩ := check_parts0 hok
    intro n hn
    simp at hn
    rcases hn with rfl | rfl <;> omega) hsz4 (by simp; omega) (by omega) (by have := head_len (regs := 0) (n := 0) h40 (by omega) (by omega); rw [List.length_append] at this; omega)).mono ?_
  rintro e w6 ⟨⟨r, rfl⟩, v6, HO6, HK6⟩
  have hB2 : w2.heap.size ≤ ((w4.alloc (.cells #[.slice A4 n4 c4] 35)).alloc (.cells #[.int .i64 regs, .int .i64 ln] 3)).heap.size := by simp; omega
  have HP7 := Lib.hid (HP6.out.keep HK6 HP2.out.bel.size hB2)
  have HO7 := Lib.hid HO6
  have hs6 := HK6.size
  have hs7 : w4.heap.size < w6.heap.size := by simp at hs6; omega
  generalize w4.heap.size = pc at *
  clear HK6 hB2 HO HI HP6 HO6 hs6 c0 c1 c2
  have c2 := HP7.out.c2
  go_wp2
  clear c2
  go_loopw [8, 30] (fun _ i wr => ∃ (k : Nat), i = .int .i64 k ∧ k ≤ ln ∧ Hid (PBox w name regs (.slice A ln cp) wr) ∧ Hid (∃ v, OutAt pc w2.heap.size wr (blobB name.data.toList ++ uvs [regs, (ln : Int)] ++ (xs.take k).flatMap insB) v) ∧ Hid (pc < wr.heap.size)) (fun _ i _ => ln - (intOf i).toNat)
  case atStart => exact ⟨0, rfl, by omega, HP7, ⟨v6, by simpa using HO7.out⟩, hs7⟩
  case round =>
    obtain ⟨k, rfl, hk, HPR, HOR, HSZ⟩ := hrel
    obtain ⟨v1, hO⟩ := HOR.out
    by_cases hk4 : k < ln
    · obtain ⟨x, hxk⟩ : ∃ x, xs[k]? = some x := ⟨xs[k]'(by omega), List.getElem?_eq_getElem _⟩
      obtain ⟨b', o, rfl, hI⟩ : ∃ b' o, A = some ⟨b', o, none⟩ ∧ InsAt wr b' (o + k * 6) x := by
        rcases HC.out.below HPR.out.bel with ⟨h9, h8⟩ | ⟨b', o, c, h9, h10, h11, h12, h13⟩
        · rw [h8] at hxk; simp at hxk
        · injection h9 with h9
          exact ⟨b', o, h9, h13 k x hxk⟩
      have HXK := Lib.hid hxk
      clear hxk
      obtain ⟨d0, d1, d2, d3, d4, d5⟩ := hI
      have HO1 : Hid (OutAt pc w2.heap.size ((wr.alloc (.cells x.cells 34)).alloc (.cells #[.int .i64 x.op, .int .i64 x.a, .int .i64 x.b, .int .i64 x.c] 3)) (blobB name.data.toList ++ uvs [regs, (ln : Int)] ++ (xs.take k).flatMap insB) v1) :=
        ⟨blk_alloc (blk_alloc hO.cell _) _, (hO.own.alloc _).alloc _⟩
      have HX1 : Hid (((wr.alloc (.cells x.cells 34)).alloc (.cells #[.int .i64 x.op, .int .i64 x.a, .int .i64 x.b, .int .i64 x.c] 3)).heap[wr.heap.size]? = some (.cells x.cells 34)) := blk_alloc (alloc_at _ _) _
      have HI1 : Hid (IntsAt ((wr.alloc (.cells x.cells 34)).alloc (.cells #[.int .i64 x.op, .int .i64 x.a, .int .i64 x.b, .int .i64 x.c] 3)) (wr.heap.size + 1) [x.op, x.a, x.b, x.c]) := by
        refine ⟨#[.int .i64 x.op, .int .i64 x.a, .int .i64 x.b, .int .i64 x.c], ?_, fun k n hk => ?_⟩
        · have := alloc_at (wr.alloc (.cells x.cells 34)) (.cells #[.int .i64 x.op, .int .i64 x.a, .int .i64 x.b, .int .i64 x.c] 3)
          rw [show (wr.alloc (.cells x.cells 34)).heap.size = wr.heap.size + 1 by simp] at this
          exact this
        · match k, hk with
          | 0, hk => simp at hk; subst hk; rfl
          | 1, hk => simp at hk; subst hk; rfl
          | 2, hk => simp at hk; subst hk; rfl
          | 3, hk => simp at hk; subst hk; rfl
      have HP1 : Hid (PBox w name regs (.slice (some ⟨b', o, none⟩) ln cp) ((wr.alloc (.cells x.cells 34)).alloc (.cells #[.int .i64 x.op, .int .i64 x.a, .int .i64 x.b, .int .i64 x.c] 3))) := (HPR.out.alloc _).alloc _
      obtain ⟨hop, hra, hrb, hrc, hrs⟩ := fits_range (check_bounds hok).1 (check_bounds hok).2.1 (List.all_eq_true.1 (check_parts hok) x (List.mem_of_getElem? HXK.out))
      have hop0 : 0 ≤ x.op := by omega
      have hop1 : x.op ≤ 255 := by omega
      unfold Ins.cells at HO1 HX1 HI1 HP1
      clear hO
      have hszr : w2.heap.size ≤ wr.heap.size := by have := HSZ.out; omega
      go_wp2_with fail
      refine (put_any pc w2.heap.size (wr.heap.size + 1) _ _ [x.op, x.a, x.b, x.c] 4 rfl _ HO1.out HI1.out (by
        intro n hn
        simp at hn
        rcases hn with rfl | rfl | rfl | rfl <;> omega) hsz4 (by simp; omega) (by omega) (by have := part_len (n := ln) k hok NK.out hln5; omega)).mono ?_
      rintro e w11 ⟨⟨r2, rfl⟩, v11, HO11, HK11⟩
      have hX11 := HK11.blk HX1.out rfl
      have HP11 := Lib.hid (HP1.out.keep HK11 HP2.out.bel.size (by simp; omega))
      obtain ⟨A11, n11, c11, rfl⟩ := HO11.own.form
      have e0 : w11.cell? ⟨pc, 0, none⟩ = some (.slice A11 n11 c11) := by rw [blk_cell HO11.cell]; rfl
      have e4 : w11.cell? ⟨wr.heap.size, 4, none⟩ = some (.int .i64 x.n) := by rw [blk_cell hX11]; rfl
      have e5 : w11.cell? ⟨wr.heap.size, 5, none⟩ = some (.string x.s) := by rw [blk_cell hX11]; rfl
      have hcv := conv_run
      have HB1 : Hid (Bytes w2.heap.size w11.drew (.slice A11 n11 c11) (blobB name.data.toList ++ uvs [regs, (ln : Int)] ++ (xs.take k).flatMap insB ++ uvs [x.op, x.a, x.b, x.c])) := HO11.own
      have hs11 : w2.heap.size ≤ w11.drew.heap.size := by
        have := HK11.size
        show _ ≤ w11.heap.size
        simp at this; omega
      have HB2 : Hid (Bytes w2.heap.size (Lib.bytesWorld w11.drew 5 x.s) (.slice A11 n11 c11) (blobB name.data.toList ++ uvs [regs, (ln : Int)] ++ (xs.take k).flatMap insB ++ uvs [x.op, x.a, x.b, x.c])) := own_below (conv_below _ _ _ (Nat.le_refl _)) HB1.out
      have hs12 : w2.heap.size ≤ (Lib.bytesWorld w11.drew 5 x.s).heap.size := by rw [Lib.bytesWorld_size]; omega
      have HLEN : Hid ((blobB name.data.toList ++ uvs [regs, (ln : Int)] ++ (xs.take k).flatMap insB ++ uvs [x.op, x.a, x.b, x.c]).length + 10 ≤ 140737488355328) := by
        have h1 := part_len (n := ln) k hok NK.out hln5
        have h2 := uvs_len [x.op, x.a, x.b, x.c] (by
          intro n hn
          simp at hn
          rcases hn with rfl | rfl | rfl | rfl <;> omega)
        show _ ≤ _
        rw [List.length_append]
        simp at h2
        omega
      have HN := Lib.hid (show -9223372036854775808 ≤ x.n ∧ x.n ≤ 9223372036854775807 from NK.out x (List.mem_of_getElem? HXK.out))
      have HC0 : Hid (w11.drew.heap[pc]? = some (.cells #[.slice A11 n11 c11] 35)) := HO11.cell
      have HX11 : Hid (w11.drew.heap[wr.heap.size]? = some (.cells #[.int .u8 x.op, .int .i64 x.a, .int .i64 x.b, .int .i64 x.c, .int .i64 x.n, .string x.s] 34)) := hX11
      have HC0b : Hid ((Lib.bytesWorld w11.drew 5 x.s).heap[pc]? = some (.cells #[.slice A11 n11 c11] 35)) := blk_below (conv_below _ _ _ (Nat.le_refl _)) HC0.out
      have HX11b : Hid ((Lib.bytesWorld w11.drew 5 x.s).heap[wr.heap.size]? = some (.cells #[.int .u8 x.op, .int .i64 x.a, .int .i64 x.b, .int .i64 x.c, .int .i64 x.n, .string x.s] 34)) := blk_below (conv_below _ _ _ (Nat.le_refl _)) HX11.out
      have HLEN2 : Hid ((blobB name.data.toList ++ uvs [regs, (ln : Int)] ++ (xs.take k).flatMap insB ++ uvs [x.op, x.a, x.b, x.c] ++ iv x.n).length + x.s.data.toList.length + 10 ≤ 140737488355328) := by
        show _ ≤ _
        have h2 := uv_len10 (n := zag x.n) (zag_lt HN.out.1 HN.out.2)
        have h3 : x.s.data.toList.length = x.s.size := rfl
        have h4 := part_len (n := ln) k hok NK.out hln5
        have h5 := uvs_len [x.op, x.a, x.b, x.c] (by
          intro n hn
          simp at hn
          rcases hn with rfl | rfl | rfl | rfl <;> omega)
        rw [iv_zag, List.length_append, List.length_append]
        simp at h5
        omega
      have HI1 := Lib.hid (int_after (pc := pc) (K := wr.heap.size) HN.out HB1.out hs11 HLEN.out HC0.out HX11.out)
      have HI2 := Lib.hid (int_after (pc := pc) (K := wr.heap.size) HN.out HB2.out hs12 HLEN.out HC0b.out HX11b.out)
      have hs40 : x.s.size ≤ 3000 := by omega
      have HBB : Hid (∀ (w12 : World) (A : Option Addr) (n c : Nat), After pc wr.heap.size w2.heap.size #[.int .u8 x.op, .int .i64 x.a, .int .i64 x.b, .int .i64 x.c, .int .i64 x.n, .string x.s] (.slice A11 n11 c11) (Lib.bytesWorld w11.drew 5 x.s) w12 (.slice A n c) (blobB name.data.toList ++ uvs [regs, (ln : Int)] ++ (xs.take k).flatMap insB ++ uvs [x.op, x.a, x.b, x.c] ++ iv x.n) →
          Calls Tryd.prog 28 #[.slice A n c, .slice (some ⟨w11.heap.size, 0, none⟩) x.s.size (grownCap w11.drew x.s.size 0 5)] w12 (AfterPost pc wr.heap.size w2.heap.size #[.int .u8 x.op, .int .i64 x.a, .int .i64 x.b, .int .i64 x.c, .int .i64 x.n, .string x.s] (.slice A11 n11 c11) w11.drew ((blobB name.data.toList ++ uvs [regs, (ln : Int)] ++ (xs.take k).flatMap insB ++ uvs [x.op, x.a, x.b, x.c] ++ iv x.n) ++ blobB x.s.data.toList))) :=
        fun w12 A n c h => blob_afterB x.s h HB1.out hs40 hs11 HLEN2.out
      have q0 := blk_cell HC0b.out 0
      have q4 := blk_cell HX11b.out 4
      simp at q0 q4
      go_wp2_with fail
      go_region_with (first
          | (go_at_call 31; ((with_reducible refine HI1.out.mono ?_); rintro e w12 ⟨A12, n12, c12, rfl, haft⟩; have k0 := blk_cell haft.c0 0; have k4 := blk_cell haft.x0 4; have k5 := blk_cell haft.x0 5; have fz := blk_free haft.c0 0; simp at k0 k4 k5; have HAFT := Lib.hid haft; clear haft))
          | (go_at_call 31; ((with_reducible refine HI2.out.mono ?_); rintro e w12 ⟨A12, n12, c12, rfl, haft⟩; have k0 := blk_cell haft.c0 0; have k4 := blk_cell haft.x0 4; have k5 := blk_cell haft.x0 5; have fz := blk_free haft.c0 0; simp at k0 k4 k5; have HAFT := Lib.hid haft; clear haft))
          | (go_at_call 28; ((with_reducible refine (blob_afterA HAFT.out x.s hs40 hs11 HLEN2.out).mono ?_); rintro e w13 ⟨A13, n13, c13, rfl, haft⟩; have j0 := blk_cell haft.c0 0; have j4 := blk_cell haft.x0 4; have j5 := blk_cell haft.x0 5; have fy := blk_free haft.c0 0; simp at j0 j4 j5; have HAF2 := Lib.hid haft; clear haft))
          | (go_at_call 28; ((with_reducible refine (HBB.out _ _ _ _ HAFT.out).mono ?_); rintro e w13 ⟨A13, n13, c13, rfl, haft⟩; have j0 := blk_cell haft.c0 0; have j4 := blk_cell haft.x0 4; have j5 := blk_cell haft.x0 5; have fy := blk_free haft.c0 0; simp at j0 j4 j5; have HAF2 := Lib.hid haft; clear haft)))
      all_goals (
        have hk1 : Keep isW w2.heap.size w11 w13 := ((Keep.refl _ _ _).drew).trans (HAF2.out.ext.keep HB1.out rfl).isB_isW
        have HK1 := Lib.hid (hk1.setCell (o := 0) HAF2.out.c0 hsz4 rfl (.slice A13 n13 c13))
        have HPB := Lib.hid (HP11.out.keep HK1.out HP2.out.bel.size (by have := HSZ.out; simp at hs11; omega))
        have HOW : Hid (OutAt pc w2.heap.size (w13.setCell ⟨pc, 0, none⟩ (.slice A13 n13 c13)) (blobB name.data.toList ++ uvs [regs, (ln : Int)] ++ (xs.take (k + 1)).flatMap insB) (.slice A13 n13 c13)) := by
          refine ⟨blk_set HAF2.out.c0 0 _, ?_⟩
          have h9 := HAF2.out.own.set (a := ⟨pc, 0, none⟩) (far_of HAF2.out.c0 HAF2.out.own) (.slice A13 n13 c13)
          rw [take_step HXK.out, insB]
          simp only [← List.append_assoc]
          exact h9
        have HSZ9 : Hid (pc < (w13.setCell ⟨pc, 0, none⟩ (.slice A13 n13 c13)).heap.size) := blk_lt (blk_set HAF2.out.c0 0 _)
        clear hk1
        go_wp2
        go_roundw
        case rel => exact ⟨k + 1, by go_num, by omega, HPB, ⟨_, HOW.out⟩, HSZ9⟩
        case measure => simp [intOf]; omega)
    · obtain rfl : k = ln := by omega
      rw [List.take_of_length_le (by omega)] at hO
      have o0 : wr.cell? ⟨pc, 0, none⟩ = some v1 := by rw [blk_cell hO.cell]; rfl
      obtain ⟨A1, n1, c1, rfl⟩ := hO.own.form
      have HO1 := Lib.hid hO
      clear hO
      have HFIN : Hid (Bytes w.heap.size wr (.slice A1 n1 c1) (bytesOf name regs xs)) := by
        show Bytes _ _ _ _
        unfold bytesOf
        rw [hl]
        exact own_base HO1.out.own HP2.out.bel.size
      go_wp2
      go_ret2
      exact ⟨_, rfl, HFIN.out, HPR.out.bel⟩
def BadPost (w : World) (e : Ending) (w' : World) : Prop := e = .returned (.tuple #[.slice none 0 0, .int .i64 100]) ∧ Below w.heap.size w w'
theorem bytes_bad (name : ByteArray) (regs : Int) (A : Option Addr) (ln cp : Nat) (xs : List Ins) (w : World) (hc : CodeAt w (.slice A ln cp) xs) (hok : checkOk name regs xs 20 = false) :
    Calls Tryd.prog 15 #[.agg #[.string name, .int .i64 regs, .slice A ln cp]] w (BadPost w) := by
  have HC := Lib.hid hc
  clear hc
  have HN := Lib.hid (check_no hok)
  clear hok
  have HP := Lib.hid (PBox.first w name regs (.slice A ln cp))
  go_enter Tryd.func15, Tryd.ntmps15
  go_wp2_with fail
  refine (check_walk name regs _ _ _ xs (HC.out.below HP.out.bel)).mono ?_
  rintro e w2 ⟨rfl, hb⟩
  rw [HN.out]
  have HP2 := Lib.hid (HP.out.below hb)
  clear hb
  go_wp2
  go_ret2
  exact ⟨rfl, HP2.out.bel⟩
end Go.Proofs.YtckooioikcenmaaDoor

/- Walks: the check of bytes. Conditions: sizes a machine can have. -/
import Derived.Test.YthehpafkaefohaaDoorCkM16
import Derived.Deep.DeepCutAuto
import Derived.Test.YthehpafkaefohaaDoorCkM0
import Derived.LoopN
import Derived.Test.YthehpafkaefohaaDoorCkM17
namespace Go.Proofs.YthehpafkaefohaaDoor
open Go.RowKit
def itV : Nat → Nat → Nat
  | 0, r => r
  | k + 1, r => stepV (itV k r)
theorem itV_step (k r : Nat) : itV (k + 1) r = itV k (stepV r) := by
  induction k with
  | zero => rfl
  | succ k ih => show stepV (itV (k + 1) r) = stepV (itV k (stepV r)); rw [ih]
theorem steps_it (k r : Nat) : stepsV k r = itV k r := by
  induction k generalizing r with
  | zero => rfl
  | succ k ih => rw [itV_step]; exact ih _
theorem stepV_lt {r : Nat} (h : r < 4294967296) : stepV r < 4294967296 := by
  unfold stepV
  split
  · exact Nat.xor_lt_two_pow (n := 32) (by omega) (by decide)
  · omega
theorem itV_lt (k : Nat) {r : Nat} (h : r < 4294967296) : itV k r < 4294967296 := by
  induction k with
  | zero => exact h
  | succ k ih => exact stepV_lt ih
theorem wrap32 (x : Int) : IntKind.u32.wrap x = x % 4294967296 := by simp [IntKind.wrap, IntKind.bits, IntKind.signed]
theorem bits_xor32 (a b : Nat) (ha : a < 4294967296) (hb : b < 4294967296) : bits .xor .u32 (a : Int) (b : Int) = ((a ^^^ b : Nat) : Int) := by
  have hx : a ^^^ b < 2 ^ 32 := Nat.xor_lt_two_pow (by omega) (by omega)
  have h1 : (BitVec.ofInt 32 (a : Int)).toNat = a := by
    rw [BitVec.ofInt_natCast, BitVec.toNat_ofNat]; exact Nat.mod_eq_of_lt (by omega)
  have h2 : (BitVec.ofInt 32 (b : Int)).toNat = b := by
    rw [BitVec.ofInt_natCast, BitVec.toNat_ofNat]; exact Nat.mod_eq_of_lt (by omega)
  show IntKind.u32.wrap ((BitVec.ofInt 32 (a : Int) ^^^ BitVec.ofInt 32 (b : Int)).toNat : Int) = _
  rw [BitVec.toNat_xor, h1, h2, wrap32]
  omega
theorem bits_and32 (a : Nat) (ha : a < 4294967296) : bits .and .u32 (a : Int) 1 = ((a % 2 : Nat) : Int) := by
  have h1 : (BitVec.ofInt 32 (a : Int)).toNat = a := by
    rw [BitVec.ofInt_natCast, BitVec.toNat_ofNat]; exact Nat.mod_eq_of_lt (by omega)
  show IntKind.u32.wrap ((BitVec.ofInt 32 (a : Int) &&& BitVec.ofInt 32 1).toNat : Int) = _
  rw [BitVec.toNat_and, h1, show (BitVec.ofInt 32 1).toNat = 1 from rfl, Nat.and_one_is_mod, wrap32]
  omega
set_option maxRecDepth 20000 in
set_option maxHeartbeats 1000000 in
theorem push_any (r : Nat) (x : UInt8) (w : World) (hr : r < 4294967296) : Calls Tryd.prog 73 #[.int .u32 r, .int .u8 x.toNat] w fun e w' => e = .returned (.int .u32 (pushV r x)) ∧ w = w' := by
  have hx := x.toNat_lt
  have hx0 : (0 : Int) ≤ (x.toNat : Int) := by omega
  have hst := Lib.hid (bits_xor32 r x.toNat hr (by omega))
  have HP : Hid (pushV r x = itV 8 (r ^^^ x.toNat)) := by show _ = _; unfold pushV; rw [steps_it]
  have hlt0 : r ^^^ x.toNat < 4294967296 := Nat.xor_lt_two_pow (n := 32) (by omega) (by omega)
  go_enter Tryd.func73, Tryd.ntmps73
  go_wp2
  go_loop [0, 10] (fun a i => ∃ k : Nat, i = .int .i64 k ∧ k ≤ 8 ∧ a = .int .u32 (itV k (r ^^^ x.toNat))) (fun _ i => 8 - (intOf i).toNat)
  case atStart => exact ⟨0, rfl, by omega, by rw [hst.out]; rfl⟩
  case round =>
    obtain ⟨k, rfl, hk, rfl⟩ := hrel
    have hlt := itV_lt k hlt0
    have HQ : Hid (itV (k + 1) (r ^^^ x.toNat) = stepV (itV k (r ^^^ x.toNat))) := rfl
    obtain ⟨q, hq⟩ : ∃ q, itV k (r ^^^ x.toNat) = q := ⟨_, rfl⟩
    have HE := Lib.hid hq
    rw [hq] at hlt HQ ⊢
    clear hq
    by_cases h8 : k < 8
    · have hand := bits_and32 q hlt
      by_cases hm : q % 2 = 1
      · have ht : (bits .and .u32 (q : Int) 1 == 1) = true := by rw [hand, hm]; rfl
        have HS : Hid (((stepV q : Nat) : Int) = bits .xor .u32 ((q : Int) / 2) 3988292384) := by
          show _ = _
          have := bits_xor32 (q / 2) 3988292384 (by omega) (by omega)
          unfold stepV
          rw [if_pos hm, ← this]
          rfl
        clear hand hm
        go_wp2
        exact ⟨⟨k + 1, by go_num, by omega, by rw [HQ.out, HS.out]⟩, by simp [intOf]; omega⟩
      · have ht : (bits .and .u32 (q : Int) 1 == 1) = false := by rw [hand, show q % 2 = 0 by omega]; rfl
        have HS : Hid (((stepV q : Nat) : Int) = (q : Int) / 2) := by
          show _ = _
          unfold stepV
          rw [if_neg hm]
          omega
        clear hand hm
        go_wp2
        exact ⟨⟨k + 1, by go_num, by omega, by rw [HQ.out, HS.out]⟩, by simp [intOf]; omega⟩
    · obtain rfl : k = 8 := by omega
      go_wp2
      go_ret
      exact ⟨by rw [HP.out, HE.out]; rfl, rfl⟩
def regV (bs : List UInt8) : Nat := bs.foldl pushV 4294967295
theorem pushV_lt {r : Nat} {x : UInt8} (h : r < 4294967296) : pushV r x < 4294967296 := by
  unfold pushV
  rw [steps_it]
  exact itV_lt 8 (Nat.xor_lt_two_pow (n := 32) (by omega) (by have := x.toNat_lt; omega))
theorem regV_lt (bs : List UInt8) : regV bs < 4294967296 := by
  unfold regV
  have : ∀ (l : List UInt8) (r : Nat), r < 4294967296 → l.foldl pushV r < 4294967296 := by
    intro l
    induction l with
    | nil => intro r h; exact h
    | cons x l ih => intro r h; exact ih _ (pushV_lt h)
  exact this bs _ (by omega)
theorem crcV_lt (bs : List UInt8) : crcV bs < 4294967296 := Nat.xor_lt_two_pow (n := 32) (regV_lt bs) (by decide)
end Go.Proofs.YthehpafkaefohaaDoor
namespace Go.Proofs.YthehpafkaefohaaDoor
open Go.RowKit
theorem regV_take (bs : List UInt8) (k : Nat) (x : UInt8) (h : bs[k]? = some x) : regV (bs.take (k + 1)) = pushV (regV (bs.take k)) x := by
  unfold regV
  rw [List.take_add_one, h]
  simp [List.foldl_append]
theorem rd_at {w : World} {A : Option Addr} {n c : Nat} {ys : List UInt8} (h : RdB w (.slice A n c) ys) {k : Nat} {x : UInt8} (hx : ys[k]? = some x) : ∃ b o, A = some ⟨b, o, none⟩ ∧ w.cell? ⟨b, o + k, none⟩ = some (.int .u8 x.toNat) := by
  rcases h with ⟨h1, h2⟩ | ⟨b, o, c', h1, h2, h3, h4, h5⟩
  · subst h2; simp at hx
  · injection h1 with q1 q2 q3
    exact ⟨b, o, q1, h5 k x hx⟩
set_option maxRecDepth 20000 in
set_option maxHeartbeats 1000000 in
theorem crc_any (v : Value) (ys : List UInt8) (w : World) (hr : RdB w v ys) : Calls Tryd.prog 64 #[v] w fun e w' => e = .returned (.int .u32 (crcV ys)) ∧ w = w' := by
  obtain ⟨A, c, rfl, hl1, hl2⟩ := hr.form
  have hm : ys.length ≤ 9223372036854775807 := by simp only [maxLen] at hl2; omega
  obtain ⟨n, hn⟩ : ∃ n, ys.length = n := ⟨_, rfl⟩
  have HN := Lib.hid hn
  rw [hn] at hr hm ⊢
  have HR := Lib.hid hr
  clear hr hl1 hl2 hn
  go_enter Tryd.func64, Tryd.ntmps64
  go_wp2
  go_loop [3, 8] (fun a i => ∃ k : Nat, i = .int .i64 k ∧ k ≤ n ∧ a = .int .u32 (regV (ys.take k))) (fun _ i => n - (intOf i).toNat)
  case atStart => exact ⟨0, rfl, Nat.zero_le _, rfl⟩
  case round =>
    obtain ⟨k, rfl, hk, rfl⟩ := hrel
    by_cases hlt : k < n
    · obtain ⟨x, hx⟩ : ∃ x, ys[k]? = some x := ⟨ys[k]'(by rw [HN.out]; exact hlt), List.getElem?_eq_getElem _⟩
      obtain ⟨b, o, hA, d0⟩ := rd_at HR.out hx
      subst hA
      have HT := Lib.hid (regV_take ys k x hx)
      have hrl := regV_lt (ys.take k)
      obtain ⟨q, hq⟩ : ∃ q, regV (ys.take k) = q := ⟨_, rfl⟩
      rw [hq] at hrl HT ⊢
      have hkn : (k : Int) < n := by omega
      clear hx hq
      go_wp2_with fail
      refine (push_any q x w hrl).mono ?_
      rintro e w2 ⟨rfl, hw⟩
      subst hw
      go_wp2
      first
      | exact ⟨⟨k + 1, by go_num, by omega, by rw [HT.out]⟩, by simp [intOf]; omega⟩
      | (go_round; case rel => exact ⟨k + 1, by go_num, by omega, by rw [HT.out]⟩; case measure => simp [intOf]; omega)
    · obtain rfl : k = n := by omega
      have hrl := regV_lt (ys.take k)
      have HC : Hid (((crcV ys : Nat) : Int) = bits .xor .u32 IntKind.u32.max ((regV (ys.take k) : Nat) : Int)) := by
        show _ = _
        rw [show ys.take k = ys from List.take_of_length_le (by rw [HN.out]; exact Nat.le_refl _)]
        rw [show (IntKind.u32.max : Int) = ((4294967295 : Nat) : Int) from rfl, bits_xor32 4294967295 (regV ys) (by omega) (regV_lt ys), Nat.xor_comm]
        rfl
      obtain ⟨q, hq⟩ : ∃ q, regV (ys.take k) = q := ⟨_, rfl⟩
      rw [hq] at HC hrl ⊢
      clear hq
      go_wp2
      go_ret
      refine ⟨?_, rfl⟩
      rw [HC.out]
      rfl
theorem lit_bytes (w : World) (xs : List UInt8) (hl : xs.length ≤ maxLen) : Bytes w.heap.size (w.alloc (.cells (Lib.byteCells xs).toArray 5)) (.slice (some ⟨w.heap.size, 0, none⟩) xs.length xs.length) xs :=
  ⟨by simp [Lib.byteCells], .inr ⟨w.heap.size, xs.length, (Lib.byteCells xs).toArray, rfl, Nat.le_refl _, alloc_at _ _, Nat.le_refl _, hl, by simp [Lib.byteCells], by
    have : (Lib.byteCells xs).length = xs.length := by simp [Lib.byteCells]
    rw [Nat.mul_one, ← this]; simp⟩⟩
/-- the check of bytes, as bytes -/
def sumPost (ys : List UInt8) (w : World) (e : Ending) (w' : World) : Prop := ∃ v, e = .returned v ∧ Bytes w.heap.size w' v (sumB ys) ∧ Below w.heap.size w w'
set_option maxRecDepth 20000 in
set_option maxHeartbeats 1000000 in
theorem sum_any (v : Value) (ys : List UInt8) (w : World) (hr : RdB w v ys) : Calls Tryd.prog 49 #[v] w (sumPost ys w) := by
  have HC := Lib.hid (crc_any v ys w hr)
  obtain ⟨A, c, rfl, _, _⟩ := hr.form
  have hl := crcV_lt ys
  obtain ⟨q, hq⟩ : ∃ q, crcV ys = q := ⟨_, rfl⟩
  have HQ := Lib.hid hq
  rw [hq] at HC hl
  clear hr hq
  go_enter Tryd.func49, Tryd.ntmps49
  go_wp2_with fail
  refine HC.out.mono ?_
  rintro e w2 ⟨rfl, hw⟩
  subst hw
  have HV : Hid (sumB ys = [UInt8.ofNat (q / 16777216), UInt8.ofNat (q / 65536), UInt8.ofNat (q / 256), UInt8.ofNat q]) := by show _ = _; unfold sumB; rw [HQ.out]
  go_wp2
  refine bodyPost_ret (v := .slice (some ⟨w.heap.size, 0, none⟩) 4 4) (by simp [results]) rfl ⟨_, rfl, ?_, (Below.refl _ _).alloc (Nat.le_refl _) _⟩
  rw [HV.out]
  have hb := lit_bytes w [UInt8.ofNat (q / 16777216), UInt8.ofNat (q / 65536), UInt8.ofNat (q / 256), UInt8.ofNat q] (by simp [maxLen])
  have e1 : ((UInt8.ofNat (q / 16777216)).toNat : Int) = (q : Int) / 16777216 := by rw [UInt8.toNat_ofNat']; omega
  have e2 : ((UInt8.ofNat (q / 65536)).toNat : Int) = (q : Int) / 65536 % 256 := by rw [UInt8.toNat_ofNat']; omega
  have e3 : ((UInt8.ofNat (q / 256)).toNat : Int) = (q : Int) / 256 % 256 := by rw [UInt8.toNat_ofNat']; omega
  have e4 : ((UInt8.ofNat q).toNat : Int) = (q : Int) % 256 := by rw [UInt8.toNat_ofNat']; omega
  simp only [Lib.byteCells, List.map_cons, List.map_nil, e1, e2, e3, e4] at hb
  exact hb
end Go.Proofs.YthehpafkaefohaaDoor
namespace Go.Proofs.YthehpafkaefohaaDoor
open Go.RowKit
theorem ext_ne {w w' : World} {v v' u : Value} {ys : List UInt8} (h : Ext w w' v v') (hr : RdB w u ys) (hne : ∀ k, Value.readBlock u = some k → some k ≠ v.ownBlock) : ∀ k, Value.readBlock u = some k → some k ≠ v'.ownBlock := fun k hk e => by
  have hlt := rdB_block hr k hk
  rcases h.2 with h2 | ⟨g, h2, h3⟩
  · exact hne k hk (e.trans h2)
  · rw [h2] at e
    injection e with e
    omega
theorem ext_nb {w w' : World} {v v' : Value} {b : Nat} (h : Ext w w' v v') (hb : b < w.heap.size) (hne : some b ≠ v.ownBlock) : some b ≠ v'.ownBlock := fun e => by
  rcases h.2 with h2 | ⟨g, h2, h3⟩
  · exact hne (e.trans h2)
  · rw [h2] at e
    injection e with e
    omega
theorem ext_blk {w w' : World} {v v' : Value} {b : Nat} {o : Obj} (h : Ext w w' v v') (hb : w.heap[b]? = some o) (hne : some b ≠ v.ownBlock) : w'.heap[b]? = some o := (h.1.block b (blk_lt hb) hne).trans hb
def JPost (base : Nat) (v : Value) (xs : List UInt8) (w : World) (e : Ending) (w' : World) : Prop := ∃ z, e = .returned z ∧ Bytes base w' z xs ∧ Ext w w' v z
set_option maxRecDepth 20000 in
set_option maxHeartbeats 1000000 in
theorem joined_any (base b : Nat) (v u1 u2 u3 : Value) (xs y1 y2 y3 : List UInt8) (w : World) (ho : Bytes base w v xs) (h1 : RdB w u1 y1) (h2 : RdB w u2 y2) (h3 : RdB w u3 y3) (hb : w.heap[b]? = some (.cells #[u1, u2, u3] 43))
    (n1 : ∀ k, Value.readBlock u1 = some k → some k ≠ v.ownBlock) (n2 : ∀ k, Value.readBlock u2 = some k → some k ≠ v.ownBlock) (n3 : ∀ k, Value.readBlock u3 = some k → some k ≠ v.ownBlock) (hl : xs.length + y1.length + y2.length + y3.length ≤ 100000000000) (hbs : base ≤ w.heap.size) :
    Calls Tryd.prog 48 #[v, .slice (some ⟨b, 0, none⟩) 3 3] w (JPost base v (xs ++ y1 ++ y2 ++ y3) w) := by
  obtain ⟨A, c, rfl, _, _⟩ := ho.reads.form
  obtain ⟨A1, c1, rfl, _, _⟩ := h1.form
  obtain ⟨A2, c2, rfl, _, _⟩ := h2.form
  obtain ⟨A3, c3, rfl, _, _⟩ := h3.form
  have hbo : some b ≠ (Value.slice A xs.length c).ownBlock := fun e => by
    obtain ⟨_, cs, hc⟩ : b < w.heap.size ∧ ∃ cs, w.heap[b]? = some (.cells cs 5) := by
      rcases ho.2 with ⟨h9, _⟩ | ⟨g, cap, cur, h9, _, hh, _⟩
      · rw [h9] at e; cases e
      · rw [h9] at e
        injection e with e
        subst e
        exact ⟨blk_lt hh, _, hh⟩
    rw [hb] at hc
    injection hc with hc
    injection hc with _ hc
    exact absurd hc (by decide)
  have HO := Lib.hid ho
  have H1 := Lib.hid h1
  have H2 := Lib.hid h2
  have H3 := Lib.hid h3
  have HB := Lib.hid hb
  have N1 := Lib.hid n1
  have N2 := Lib.hid n2
  have N3 := Lib.hid n3
  have NB := Lib.hid hbo
  have HL := Lib.hid hl
  have d0 := blk_cell hb 0
  have d1 := blk_cell hb 1
  have d2 := blk_cell hb 2
  simp at d0 d1 d2
  clear ho h1 h2 h3 hb n1 n2 n3 hbo hl
  go_enter Tryd.func48, Tryd.ntmps48
  go_wp2
  refine wp_loop_rounds 4 ?_
  rw [rounds_succ]
  go_wp2_with (at_builtin; refine wpList_append_bytes rfl (.tmp 13) (.tmp 14) rfl base _ _ xs y1 rfl HO.out rfl H1.out (by have := HL.out; omega) hbs ?_; intro v1 w3 hown hext)
  obtain ⟨A5, c5, rfl, _, _⟩ := hown.reads.form
  have HO1 := Lib.hid hown
  have HB1 := Lib.hid (ext_blk hext HB.out NB.out)
  have NB1 := Lib.hid (ext_nb hext (blk_lt HB.out) NB.out)
  have H2a := Lib.hid (H2.out.ext hext N2.out)
  have N2a := Lib.hid (ext_ne hext H2.out N2.out)
  have H3a := Lib.hid (H3.out.ext hext N3.out)
  have N3a := Lib.hid (ext_ne hext H3.out N3.out)
  have HX1 := Lib.hid hext
  have hbs1 : base ≤ w3.heap.size := Nat.le_trans hbs hext.1.size
  clear hown hext d0 d1 d2
  have d0 := blk_cell HB1.out 0
  have d1 := blk_cell HB1.out 1
  have d2 := blk_cell HB1.out 2
  simp at d0 d1 d2
  rw [rounds_succ]
  go_wp2_with (at_builtin; refine wpList_append_bytes rfl (.tmp 13) (.tmp 14) rfl base _ _ (xs ++ y1) y2 rfl HO1.out rfl H2a.out (by have := HL.out; simp only [List.length_append]; omega) hbs1 ?_; intro v2 w4 hown hext)
  obtain ⟨A6, c6, rfl, _, _⟩ := hown.reads.form
  have HO2 := Lib.hid hown
  have HB2 := Lib.hid (ext_blk hext HB1.out NB1.out)
  have NB2 := Lib.hid (ext_nb hext (blk_lt HB1.out) NB1.out)
  have H3b := Lib.hid (H3a.out.ext hext N3a.out)
  have HX2 := Lib.hid (HX1.out.trans hext)
  have hbs2 : base ≤ w4.heap.size := Nat.le_trans hbs1 hext.1.size
  clear hown hext d0 d1 d2
  have d0 := blk_cell HB2.out 0
  have d1 := blk_cell HB2.out 1
  have d2 := blk_cell HB2.out 2
  simp at d0 d1 d2
  rw [rounds_succ]
  go_wp2_with (at_builtin; refine wpList_append_bytes rfl (.tmp 13) (.tmp 14) rfl base _ _ (xs ++ y1 ++ y2) y3 rfl HO2.out rfl H3b.out (by have := HL.out; simp only [List.length_append]; omega) hbs2 ?_; intro v3 w5 hown hext)
  obtain ⟨A7, c7, rfl, _, _⟩ := hown.reads.form
  have HO3 := Lib.hid hown
  have HB3 := Lib.hid (ext_blk hext HB2.out NB2.out)
  have NB3 := Lib.hid (ext_nb hext (blk_lt HB2.out) NB2.out)
  have HX3 := Lib.hid (HX2.out.trans hext)
  have hbs3 : base ≤ w5.heap.size := Nat.le_trans hbs2 hext.1.size
  clear hown hext d0 d1 d2
  rw [rounds_succ]
  go_wp2
  go_ret
  exact ⟨_, rfl, HO3.out, HX3.out⟩
end Go.Proofs.YthehpafkaefohaaDoor
namespace Go.Proofs.YthehpafkaefohaaDoor
open Go.RowKit
def FPost (xs : List UInt8) (w : World) (e : Ending) (w' : World) : Prop := ∃ A c, e = .returned (.tuple #[.slice A xs.length c, .int .i64 0]) ∧ Bytes w.heap.size w' (.slice A xs.length c) xs ∧ Below w.heap.size w w'
theorem bytes_lo {base k : Nat} {w : World} {v : Value} {xs : List UInt8} (h : Bytes base w v xs) (hk : Value.readBlock v = some k) : base ≤ k := by
  rcases h.2 with ⟨rfl, _⟩ | ⟨g, cap, cur, rfl, hb, _⟩
  · cases hk
  · injection hk with hk
    subst hk
    exact hb
set_option maxRecDepth 20000 in
set_option maxHeartbeats 1000000 in
theorem put_any (v : Value) (ys : List UInt8) (w : World) (hr : RdB w v ys) (h1 : 1 ≤ ys.length) (h2 : ys.length ≤ 1048576) : Calls Tryd.prog 24 #[.slice none 0 0, v] w (FPost (frameB ys) w) := by
  obtain ⟨A, c, rfl, _, _⟩ := hr.form
  obtain ⟨n, hn⟩ : ∃ n, ys.length = n := ⟨_, rfl⟩
  have HN := Lib.hid hn
  rw [hn] at hr h1 h2 ⊢
  have HR := Lib.hid hr
  have HC := Lib.hid (uint_any (.slice none 0 0) [] n w w.heap.size (by omega) (Bytes.nil _ _) (Nat.le_refl _) (by simp))
  have hn0 : ((n : Int) == 0) = false := by simp; omega
  have hn1 : ¬ (1048576 : Int) < n := by omega
  clear hr hn
  go_enter Tryd.func24, Tryd.ntmps24
  go_wp2_with fail
  refine HC.out.mono ?_
  rintro e w2 ⟨z, rfl, hown, hext⟩
  have hb2 := ext_below9 (w0 := w) hext (Bytes.nil w.heap.size w) (Below.refl _ _) (Nat.le_refl _)
  obtain ⟨A2, c2, rfl, _, _⟩ := hown.reads.form
  have HR2 := Lib.hid (HR.out.below hb2)
  have HO := Lib.hid hown
  have HB2 := Lib.hid hb2
  have hb2' := hb2
  have HO2 := HO
  have HW2 := Lib.hid hb2.size
  clear hown hext hb2 HC
  go_wp2_with fail
  refine (sum_any _ ys w2 HR2.out).mono ?_
  rintro e w3 ⟨s, rfl, hs, hb3⟩
  obtain ⟨A3, c3, rfl, _, _⟩ := hs.reads.form
  have HR3 := Lib.hid (HR2.out.below hb3)
  have HO3 := Lib.hid (HO.out.below hb3)
  have HS3 := Lib.hid hs
  have HB3 := Lib.hid (HB2.out.trans (hb3.mono hb2'.size))
  have HW23 := Lib.hid hb3.size
  clear hs hb3 HO HR2 HB2 hb2'
  go_wp2_with fail
  have hl165 := lit_bytes w3 [165] (by simp [maxLen])
  have b1 : Below w3.heap.size w3 (w3.alloc (.cells #[Value.int .u8 165] 5)) := (Below.refl _ _).alloc (Nat.le_refl _) _
  have b2 : Below (w3.alloc (.cells #[Value.int .u8 165] 5)).heap.size (w3.alloc (.cells #[Value.int .u8 165] 5)) ((w3.alloc (.cells #[Value.int .u8 165] 5)).alloc (.cells #[Value.slice A n c, Value.slice A3 (sumB ys).length c3, Value.slice (some { block := w3.heap.size, off := 0 }) 1 1] 43)) := (Below.refl _ _).alloc (Nat.le_refl _) _
  have b3 : Below w3.heap.size w3 ((w3.alloc (.cells #[Value.int .u8 165] 5)).alloc (.cells #[Value.slice A n c, Value.slice A3 (sumB ys).length c3, Value.slice (some { block := w3.heap.size, off := 0 }) 1 1] 43)) := b1.trans (b2.mono b1.size)
  have hob := (HO3.out.below b3)
  have hlt2 := HO2.out.lt
  have hN9 : ys.length = n := HN.out
  have hlts : ∀ k, Value.readBlock (Value.slice A3 (sumB ys).length c3) = some k → w2.heap.size ≤ k := fun k hk => bytes_lo HS3.out hk
  have hsz3 := HB3.out.size
  have hb0 := rdB_block HR.out
  have hw2 := HW2.out
  refine (joined_any w.heap.size (w3.heap.size + 1) _ _ _ _ (uv n) ys (sumB ys) [165] _ hob (HR3.out.below b3) (HS3.out.reads.below b3) (hl165.reads.below b2) ?_ ?_ ?_ ?_ ?_ ?_).mono ?_
  · have := alloc_at (w3.alloc (.cells #[Value.int .u8 165] 5)) (.cells #[Value.slice A n c, Value.slice A3 (sumB ys).length c3, Value.slice (some { block := w3.heap.size, off := 0 }) 1 1] 43)
    rw [show (w3.alloc (.cells #[Value.int .u8 165] 5)).heap.size = w3.heap.size + 1 by simp] at this
    exact this
  · intro k hk e
    have h1 := (hlt2 k (by simpa using e.symm)).1
    have h2 := hb0 k hk
    omega
  · intro k hk e
    have h1 := (hlt2 k (by simpa using e.symm)).2
    have h2 := hlts k hk
    omega
  · intro k hk e
    have h1 := (hlt2 k (by simpa using e.symm)).2
    have hk : w3.heap.size = k := by injection hk
    have h3 := HW23.out
    omega
  · have h9 := uv_len10 (n := n) (by omega)
    have h8 : (sumB ys).length = 4 := by simp [sumB]
    rw [h8]
    simp only [List.length_singleton]
    omega
  · have := b3.size; have := HW23.out; omega
  rintro e w6 ⟨z, rfl, hz, hext⟩
  have hb6 := ext_below9 hext hob (HB3.out.trans (b3.mono (Nat.le_trans hw2 HW23.out))) (Nat.le_refl _)
  obtain ⟨A6, c6, rfl, _, _⟩ := hz.reads.form
  have HZ := Lib.hid hz
  have HB6 := Lib.hid hb6
  clear hz hb6 hext hob b1 b2 b3 hl165 hlt2 hlts hb0 HS3 HO3 HR3 HO2 
  go_wp2_with fail
  have he : uv n ++ ys ++ sumB ys ++ [165] = frameB ys := by rw [frameB, HN.out]
  have hz := HZ.out
  have hle : (frameB ys).length = (uv n).length + (n + ((sumB ys).length + 1)) := by rw [← he]; simp [HN.out]; try omega
  rw [he] at hz
  rw [← hle]
  exact bodyPost_ret (v := .tuple #[.slice A6 (frameB ys).length c6, .int .i64 0]) (by simp [results]) rfl ⟨A6, c6, rfl, hz, HB6.out⟩
end Go.Proofs.YthehpafkaefohaaDoor
namespace Go.Proofs.YthehpafkaefohaaDoor
open Go.RowKit
theorem bytes_mono {base b2 : Nat} {w : World} {v : Value} {xs : List UInt8} (h : Bytes base w v xs) (hb : b2 ≤ base) : Bytes b2 w v xs := ⟨h.1, h.2.imp id (fun ⟨g, cap, cur, h1, h2, h3⟩ => ⟨g, cap, cur, h1, Nat.le_trans hb h2, h3⟩)⟩
def HPost (n : Int) (w : World) (e : Ending) (w' : World) : Prop := ∃ A c, e = .returned (.tuple #[.slice A (headOr n).length c, .int .i64 (if inL n then 0 else 2)]) ∧ Bytes w.heap.size w' (.slice A (headOr n).length c) (headOr n) ∧ Below w.heap.size w w'
set_option maxRecDepth 20000 in
set_option maxHeartbeats 1000000 in
theorem head_no (n : Int) (w : World) (h : ¬ inL n) : Calls Tryd.prog 46 #[.int .i64 n] w (HPost n w) := by
  have hq : headOr n = [] := by unfold headOr; rw [if_neg h]
  have H := Lib.hid h
  have hno : n < 1 ∨ 1152921504606846976 < n := by unfold inL at h; omega
  clear h
  go_enter Tryd.func46, Tryd.ntmps46
  rcases hno with h | h
  · go_wp2
    refine bodyPost_ret (v := .tuple #[.slice none 0 0, .int .i64 2]) (by simp [results]) rfl ⟨none, 0, by rw [hq, if_neg H.out]; rfl, by rw [hq]; exact Bytes.nil _ _, Below.refl _ _⟩
  · have h1 : ¬ n < 1 := by omega
    go_wp2
    refine bodyPost_ret (v := .tuple #[.slice none 0 0, .int .i64 2]) (by simp [results]) rfl ⟨none, 0, by rw [hq, if_neg H.out]; rfl, by rw [hq]; exact Bytes.nil _ _, Below.refl _ _⟩
set_option maxRecDepth 20000 in
set_option maxHeartbeats 1000000 in
theorem head_in (n : Nat) (w : World) (h : inL (n : Int)) : Calls Tryd.prog 46 #[.int .i64 n] w (HPost n w) := by
  have hq : headOr (n : Int) = frameB (0 :: uv n) := by unfold headOr headB; rw [if_pos h, Int.toNat_natCast]
  have hin : ¬ (n : Int) < 1 ∧ ¬ (1152921504606846976 : Int) < n := by unfold inL at h; omega
  have HIN := Lib.hid hin
  have HQ := Lib.hid hq
  have HL := Lib.hid h
  obtain ⟨h1, h2⟩ := hin
  have hwb : Bytes w.heap.size (w.alloc (.cells #[Value.int .u8 0] 5)) (.slice (some ⟨w.heap.size, 0, none⟩) 1 1) [0] := lit_bytes w [0] (by simp [maxLen])
  have HWB := Lib.hid hwb
  clear hq h hwb
  go_enter Tryd.func46, Tryd.ntmps46
  go_wp2_with fail
  refine (uint_any _ [0] n _ w.heap.size (by have := HIN.out; omega) HWB.out (by simp) (by simp)).mono ?_
  rintro e w2 ⟨z, rfl, hown, hext⟩
  have hb2 := ext_below9 (w0 := w) hext HWB.out ((Below.refl _ _).alloc (Nat.le_refl _) _) (Nat.le_refl _)
  obtain ⟨A2, c2, rfl, _, _⟩ := hown.reads.form
  have HO := Lib.hid hown
  have HB := Lib.hid hb2
  clear hown hb2 hext
  go_wp2_with fail
  refine (put_any _ ([0] ++ uv n) w2 HO.out.reads (by simp) (by have := uv_len10 (n := n) (by have := HIN.out; omega); simp; omega)).mono ?_
  rintro e w3 ⟨A3, c3, rfl, hown, hb3⟩
  have hq : headOr (n : Int) = frameB (0 :: uv n) := HQ.out
  have HP : Hid (HPost n w (.returned (.tuple #[.slice A3 (frameB (0 :: uv n)).length c3, .int .i64 0])) w3) := by
    refine ⟨A3, c3, by rw [hq, if_pos HL.out], ?_, HB.out.trans (hb3.mono HB.out.size)⟩
    rw [hq]
    exact bytes_mono hown HB.out.size
  clear hown hb3 hq
  go_wp2_with fail
  exact bodyPost_ret (v := .tuple #[.slice A3 (frameB (0 :: uv n)).length c3, .int .i64 0]) (by simp [results]) rfl HP.out
theorem head_any (n : Int) (w : World) : Calls Tryd.prog 46 #[.int .i64 n] w (HPost n w) := by
  by_cases h : inL n
  · obtain ⟨k, rfl⟩ : ∃ k : Nat, n = k := ⟨n.toNat, by unfold inL at h; omega⟩
    exact head_in k w h
  · exact head_no n w h
end Go.Proofs.YthehpafkaefohaaDoor
namespace Go.Proofs.YthehpafkaefohaaDoor
open Go.RowKit
/-- bytes that an element of a row reads as: an empty one may stand anywhere -/
def RdE (w : World) (v : Value) (ys : List UInt8) : Prop := RdB w v ys ∨ ∃ a c, v = .slice (some a) 0 c ∧ c ≤ maxLen ∧ ys = []
theorem RdE.form {w : World} {v : Value} {ys : List UInt8} (h : RdE w v ys) : ∃ A c, v = .slice A ys.length c ∧ ys.length ≤ c ∧ c ≤ maxLen := by
  rcases h with h | ⟨a, c, rfl, h1, rfl⟩
  · exact h.form
  · exact ⟨_, _, rfl, Nat.zero_le _, h1⟩
theorem RdE.below {w w' : World} {v : Value} {ys : List UInt8} (h : RdE w v ys) (hb : Below w.heap.size w w') : RdE w' v ys := h.imp (fun h => h.below hb) id
set_option maxRecDepth 20000 in
set_option maxHeartbeats 1000000 in
theorem blob_w (v : Value) (xs : List UInt8) (a : Addr) (c : Nat) (w : World) (base : Nat) (hown : Bytes base w v xs) (hbase : base ≤ w.heap.size) (hlen : xs.length + 10 ≤ 140737488355328) :
    Calls Tryd.prog 43 #[v, .slice (some a) 0 c] w (RetBytes base w v (xs ++ blobB [])) := by
  go_enter Tryd.func43, Tryd.ntmps43
  go_wp2_with fail
  refine (uint_int _ xs _ _ base (by omega) (by omega) hown hbase (by omega)).mono ?_
  rintro e w1 ⟨v1, rfl, h2, h3⟩
  have hs1 := h3.size
  obtain ⟨i0, hi, hz0, hz1, hz2⟩ := info_parts infoB
  have hz : (xs ++ uv ((0 : Int)).toNat).length ≤ xs.length + 10 := by rw [List.length_append]; have := uv_len10 (n := 0) (by omega); simp at this ⊢; omega
  go_wp2_with (at_builtin; refine wpList_append_own_at _ rfl _ _ 43 rfl base 5 i0 (.int .u8 0) 1 1 Tryd.underlying43 hi hz0 hz1 hz2 rfl (by decide) v1 _ _ rfl h2 a 0 c [] rfl (by simp) (fun j u hj => by simp at hj) (fun u hu => by cases hu) (by simp only [maxLen]; omega) (by omega) (Nat.le_trans hbase hs1) ?_; intro v' w' g1 g2 _ g3)
  go_ret
  refine ⟨v', rfl, ?_, h3.trans (Ext.of_at g2 g3)⟩
  have e : xs ++ blobB [] = xs ++ uv ((0 : Int)).toNat := by simp [blobB]
  rw [e]
  unfold Bytes
  simpa using g1
theorem blob_e (v y : Value) (xs ys : List UInt8) (w0 w : World) (hown : Bytes w0.heap.size w v xs) (hr : RdE w0 y ys) (hb : Below w0.heap.size w0 w) (hlen : xs.length + ys.length + 10 ≤ 140737488355328) :
    Calls Tryd.prog 43 #[v, y] w (RetBytes w0.heap.size w v (xs ++ blobB ys)) := by
  rcases hr with hr | ⟨a, c, rfl, _, rfl⟩
  · refine blob_any v y xs ys w _ hown (hr.below hb) (fun k' hk' e => ?_) hb.size hlen
    have h1 := rdB_block hr k' hk'
    have h2 := (hown.lt k' e.symm).1
    omega
  · exact blob_w v xs a c w _ hown hb.size (by simp at hlen; omega)
/-- a row of rows of bytes that a slice reads as -/
def RdL (w : World) (v : Value) (yss : List (List UInt8)) : Prop := (∃ A c, v = .slice A 0 c ∧ c ≤ maxLen ∧ yss = []) ∨
  ∃ b o c, v = .slice (some ⟨b, o, none⟩) yss.length c ∧ yss.length ≤ c ∧ c ≤ maxLen ∧ b < w.heap.size ∧ ∀ (j : Nat) (y : List UInt8), yss[j]? = some y → ∃ u, w.cell? ⟨b, o + j, none⟩ = some u ∧ RdE w u y
theorem RdL.form {w : World} {v : Value} {yss : List (List UInt8)} (h : RdL w v yss) : ∃ A c, v = .slice A yss.length c ∧ yss.length ≤ c ∧ c ≤ maxLen := by
  rcases h with ⟨A, c, rfl, h1, rfl⟩ | ⟨b, o, c, rfl, h1, h2, _⟩
  · exact ⟨A, c, rfl, Nat.zero_le _, h1⟩
  · exact ⟨_, c, rfl, h1, h2⟩
theorem RdL.below {w w' : World} {v : Value} {yss : List (List UInt8)} (h : RdL w v yss) (hb : Below w.heap.size w w') : RdL w' v yss := by
  rcases h with h | ⟨b, o, c, rfl, h1, h2, h3, h4⟩
  · exact .inl h
  · refine .inr ⟨b, o, c, rfl, h1, h2, Nat.lt_of_lt_of_le h3 hb.size, fun j y hj => ?_⟩
    obtain ⟨u, hu, hr⟩ := h4 j y hj
    exact ⟨u, (World.cell?_of_block (w := w) (a := ⟨b, o + j, none⟩) (hb.block b h3)).trans hu, hr.below hb⟩
theorem RdL.at {w : World} {A : Option Addr} {c n : Nat} {yss : List (List UInt8)} (h : RdL w (.slice A n c) yss) {j : Nat} {y : List UInt8} (hj : yss[j]? = some y) : ∃ b o u, A = some ⟨b, o, none⟩ ∧ w.cell? ⟨b, o + j, none⟩ = some u ∧ RdE w u y := by
  rcases h with ⟨_, _, _, _, rfl⟩ | ⟨b, o, c, hv, _, _, _, h4⟩
  · simp at hj
  · obtain ⟨u, hu, hr⟩ := h4 j y hj
    injection hv with hv
    exact ⟨b, o, u, hv, hu, hr⟩
def BPost (n : Int) (yss : List (List UInt8)) (w : World) (e : Ending) (w' : World) : Prop :=
  ∃ v, e = .returned (.tuple #[v, .int .i64 (batchE n yss)]) ∧ Bytes w.heap.size w' v (if batchE n yss = 0 then batchB n.toNat yss else []) ∧ Below w.heap.size w w'
set_option maxRecDepth 20000 in
set_option maxHeartbeats 1000000 in
theorem bytes_no (n : Int) (v : Value) (yss : List (List UInt8)) (w : World) (hr : RdL w v yss) (h : n < 1 ∨ 1152921504606846976 < n ∨ yss.length < 1 ∨ 1000 < yss.length) : Calls Tryd.prog 21 #[.agg #[.int .i64 n, v]] w (BPost n yss w) := by
  have hq : batchE n yss = 2 := by unfold batchE; rw [if_pos h]
  have HQ := Lib.hid hq
  obtain ⟨A, c, rfl, _, _⟩ := hr.form
  obtain ⟨m, hm⟩ : ∃ m, yss.length = m := ⟨_, rfl⟩
  rw [hm] at h ⊢
  clear hq hr
  go_enter Tryd.func21, Tryd.ntmps21
  have HM := Lib.hid hm
  have HT : Hid (BPost n yss w (.returned (.tuple #[.slice none 0 0, .int .i64 2])) (w.alloc (.cells #[.int .i64 n, .slice A m c] 62))) := by
    refine ⟨_, by rw [HQ.out], ?_, (Below.refl _ _).alloc (Nat.le_refl _) _⟩
    rw [HQ.out, if_neg (by decide)]
    exact Bytes.nil _ _
  clear hm
  by_cases c1 : n < 1
  · go_wp2
    exact bodyPost_ret (v := .tuple #[.slice none 0 0, .int .i64 2]) (by simp [results]) rfl HT.out
  · by_cases c2 : 1152921504606846976 < n
    · go_wp2
      exact bodyPost_ret (v := .tuple #[.slice none 0 0, .int .i64 2]) (by simp [results]) rfl HT.out
    · by_cases c3 : m < 1
      · obtain rfl : m = 0 := by omega
        go_wp2
        exact bodyPost_ret (v := .tuple #[.slice none 0 0, .int .i64 2]) (by simp [results]) rfl HT.out
      · have c4 : (1000 : Int) < m := by omega
        have c5 : ¬ (m : Int) < 1 := by omega
        clear h c3
        go_wp2
        exact bodyPost_ret (v := .tuple #[.slice none 0 0, .int .i64 2]) (by simp [results]) rfl HT.out
end Go.Proofs.YthehpafkaefohaaDoor
namespace Go.Proofs.YthehpafkaefohaaDoor
open Go.RowKit
theorem RdL.at2 {w : World} {A : Option Addr} {c n : Nat} {yss : List (List UInt8)} (h : RdL w (.slice A n c) yss) {j : Nat} {y : List UInt8} (hj : yss[j]? = some y) : ∃ b o u, A = some ⟨b, o, none⟩ ∧ b < w.heap.size ∧ w.cell? ⟨b, o + j, none⟩ = some u ∧ RdE w u y := by
  rcases h with ⟨_, _, _, _, rfl⟩ | ⟨b, o, c, hv, _, _, h3, h4⟩
  · simp at hj
  · obtain ⟨u, hu, hr⟩ := h4 j y hj
    injection hv with hv
    exact ⟨b, o, u, hv, h3, hu, hr⟩
def UPost (B : Nat) (W : World) (xs : List UInt8) (e : Ending) (w' : World) : Prop := ∃ A c, e = .returned (.slice A xs.length c) ∧ Bytes B w' (.slice A xs.length c) xs ∧ Below B W w'
theorem drewN_start {w w' : World} {q B : Nat} (h : Below B (w.drewN q) w') : Below B w w' := ⟨h.os, h.tape, h.output, h.size, h.block⟩
theorem uint_up {B : Nat} {W w1 : World} {v : Value} {xs : List UInt8} {n : Nat} (hn : n < 18446744073709551616) (ho : Bytes B w1 v xs) (hb : Below B W w1) (hB : B ≤ W.heap.size) (hl : xs.length ≤ 1000) : Calls Tryd.prog 42 #[v, .int .u64 n] w1 (UPost B W (xs ++ uv n)) := by
  refine (uint_any v xs n w1 B hn ho (Nat.le_trans hB hb.size) (by omega)).mono ?_
  rintro e w2 ⟨z, rfl, hown, hext⟩
  have hb2 := ext_below9 hext ho hb hB
  obtain ⟨A2, c2, rfl, _, _⟩ := hown.reads.form
  exact ⟨A2, c2, rfl, hown, hb2⟩
set_option maxRecDepth 20000 in
set_option maxHeartbeats 1000000 in
theorem bytes_in (n : Nat) (v : Value) (yss : List (List UInt8)) (w : World) (hr : RdL w v yss) (h1 : 1 ≤ n) (h2 : n ≤ 1152921504606846976) (h3 : 1 ≤ yss.length) (h4 : yss.length ≤ 1000) (hy : ∀ y ∈ yss, y.length ≤ 100000000000) : Calls Tryd.prog 21 #[.agg #[.int .i64 n, v]] w (BPost n yss w) := by
  obtain ⟨A, c, rfl, _, _⟩ := hr.form
  obtain ⟨m, hm⟩ : ∃ m, yss.length = m := ⟨_, rfl⟩
  rw [hm] at h3 h4 ⊢
  rw [hm] at hr
  have HR := Lib.hid hr
  have HM := Lib.hid hm
  have HY := Lib.hid hy
  have H12 := Lib.hid (And.intro h1 (And.intro h2 (And.intro h3 h4)))
  have c1 : ¬ (n : Int) < 1 := by omega
  have c2 : ¬ (1152921504606846976 : Int) < n := by omega
  have c3 : ¬ (m : Int) < 1 := by omega
  have c4 : ¬ (1000 : Int) < m := by omega
  have HC1 : Hid (Calls Tryd.prog 42 #[.slice none 0 0, .int .u64 n] (w.alloc (.cells #[.int .i64 n, .slice A m c] 62)).drew (UPost (w.heap.size + 1) (w.alloc (.cells #[.int .i64 n, .slice A m c] 62)) (uv n))) :=
    uint_up (xs := []) (by omega) (Bytes.nil _ _) (Below.refl _ _).drew (by simp) (by simp)
  have HC2 : Hid (∀ w1 A1 c1, Bytes (w.heap.size + 1) w1 (.slice A1 (uv n).length c1) (uv n) → Below (w.heap.size + 1) (w.alloc (.cells #[.int .i64 n, .slice A m c] 62)) w1 → Calls Tryd.prog 42 #[.slice A1 (uv n).length c1, .int .u64 m] w1 (UPost (w.heap.size + 1) (w.alloc (.cells #[.int .i64 n, .slice A m c] 62)) (uv n ++ uv m))) := fun w1 A1 c1 ho hb =>
    uint_up (by omega) ho hb (by simp) (by have := uv_len10 (n := n) (by omega); omega)
  have e1 : IntKind.u64.wrap (n : Int) = (n : Int) := by rw [IntKind.wrap_u64]; omega
  have e2 : IntKind.u64.wrap (m : Int) = (m : Int) := by rw [IntKind.wrap_u64]; omega
  have HBX : Hid ((w.alloc (.cells #[.int .i64 n, .slice A m c] 62)).heap[w.heap.size]? = some (.cells #[.int .i64 n, .slice A m c] 62)) := alloc_at _ _
  clear h1 h2 h3 h4 hm hr hy
  go_enter Tryd.func21, Tryd.ntmps21
  go_upto_region 3 with fail
  go_cut [4] (fun u wx => ∃ A1 c1, u = .slice A1 (uv n ++ uv m).length c1 ∧ Hid (Bytes (w.heap.size + 1) wx (.slice A1 (uv n ++ uv m).length c1) (uv n ++ uv m)) ∧ Hid (Below (w.heap.size + 1) (w.alloc (.cells #[.int .i64 n, .slice A m c] 62)) wx))
  case first =>
    go_region_with ((go_at_call 42; first | (refine (HC2.out _ _ _ HO1.out HB1.out).mono ?_; rintro e w2 ⟨A2, c2, rfl, ho2, hb2⟩; have HO2 := Lib.hid ho2; have HB2 := Lib.hid hb2; clear ho2 hb2) | (refine HC1.out.mono ?_; rintro e w1 ⟨A1, c1, rfl, ho, hb⟩; have HO1 := Lib.hid ho; have HB1 := Lib.hid hb; have HBX1 := Lib.hid ((hb.block _ (Nat.lt_succ_self _)).trans HBX.out); have d0 := blk_cell HBX1.out 0; have d1 := blk_cell HBX1.out 1; simp at d0 d1; clear ho hb)))
    all_goals (
      go_wp2_with fail
      go_meet
      exact ⟨A2, c2, by rw [List.length_append], HO2, HB2⟩)
  case rest =>
    obtain ⟨A1, cc1, rfl, HO, HB⟩ := hcut
    have hbr : Below w.heap.size w wc := ((Below.refl _ _).alloc (Nat.le_refl _) _).trans (HB.out.mono (Nat.le_succ _))
    have HBR := Lib.hid hbr
    have HRC := Lib.hid (HR.out.below hbr)
    have HBXc := Lib.hid ((HB.out.block _ (Nat.lt_succ_self _)).trans HBX.out)
    have d0 := blk_cell HBXc.out 0
    have d1 := blk_cell HBXc.out 1
    simp at d0 d1
    have HO1 := Lib.hid (bytes_mono HO.out (Nat.le_succ w.heap.size))
    have HS := Lib.hid hbr.size
    clear hbr HO HB HC1 HC2 HBX e1 e2
    go_wp2
    go_loopw [4, 39] (fun u i wr => ∃ (k : Nat) (A2 : Option Addr) (c2 : Nat), u = .slice A2 (uv n ++ uv m ++ (yss.take k).flatMap blobB).length c2 ∧ i = .int .i64 k ∧ k ≤ m ∧ Hid (Bytes w.heap.size wr u (uv n ++ uv m ++ (yss.take k).flatMap blobB)) ∧ Hid (Below w.heap.size w wr) ∧ Hid ((uv n ++ uv m ++ (yss.take k).flatMap blobB).length ≤ 1048576)) (fun _ i _ => m - (intOf i).toNat)
    case atStart =>
      have h20 : (uv n ++ uv m).length ≤ 20 := by
        have := uv_len10 (n := n) (by have := H12.out; omega)
        have := uv_len10 (n := m) (by have := H12.out; omega)
        rw [List.length_append]; omega
      exact ⟨0, A1, cc1, by simp, rfl, Nat.zero_le _, by simpa [Hid] using HO1.out, HBR, by show _ ≤ _; simp at h20 ⊢; omega⟩
    case round =>
      obtain ⟨k, A2, c2', rfl, rfl, hk, HO2, HB2, HL2⟩ := hrel
      obtain ⟨L, hL⟩ : ∃ L, (uv n ++ uv m ++ (yss.take k).flatMap blobB).length = L := ⟨_, rfl⟩
      by_cases hlt : k < m
      · obtain ⟨y, hy⟩ : ∃ y, yss[k]? = some y := ⟨_, List.getElem?_eq_getElem (by rw [HM.out]; exact hlt)⟩
        obtain ⟨b, o, u, hA, hb, dw, hru⟩ := HR.out.at2 hy
        subst hA
        have dr : wr.cell? ⟨b, o + k, none⟩ = some u := (World.cell?_of_block (w := w) (a := ⟨b, o + k, none⟩) (HB2.out.block b hb)).trans dw
        obtain ⟨Au, cu, rfl, _, _⟩ := hru.form
        have hyl := HY.out y (List.mem_of_getElem? hy)
        have HC := Lib.hid (blob_e _ _ _ _ w wr HO2.out hru HB2.out (by have := HL2.out; omega))
        have hxs : uv n ++ uv m ++ (yss.take k).flatMap blobB ++ blobB y = uv n ++ uv m ++ (yss.take (k + 1)).flatMap blobB := by
          rw [List.take_add_one, hy]; simp
        rw [hxs] at HC
        have HLK := Lib.hid hL
        rw [hL] at HC ⊢
        have hkm : (k : Int) < m := by omega
        clear hxs hy hyl hb dw hru hL
        go_wp2_with fail
        refine HC.out.mono ?_
        rintro e w3 ⟨z, rfl, hown, hext⟩
        have ho2 : Bytes w.heap.size wr (.slice A2 L c2') (uv n ++ uv m ++ (yss.take k).flatMap blobB) := by rw [← HLK.out]; exact HO2.out
        have hb3 := ext_below9 hext ho2 HB2.out (Nat.le_refl _)
        obtain ⟨A3, c3', rfl, _, _⟩ := hown.reads.form
        have HO3 := Lib.hid hown
        have HB3 := Lib.hid hb3
        obtain ⟨L3, hL3⟩ : ∃ L3, (uv n ++ uv m ++ (yss.take (k + 1)).flatMap blobB).length = L3 := ⟨_, rfl⟩
        have HLK3 := Lib.hid hL3
        rw [hL3]
        clear hown hext hb3 ho2 hL3 HC HO2 HB2 dr
        by_cases hbig : 1048576 < L3
        · have HT : Hid (BPost n yss w (.returned (.tuple #[.slice none 0 0, .int .i64 3])) w3) := by
            have h9 : (batchB n yss).length = L3 + ((yss.drop (k + 1)).flatMap blobB).length := by
              rw [← HLK3.out, batchB, HM.out]
              rw [show yss.flatMap blobB = (yss.take (k + 1)).flatMap blobB ++ (yss.drop (k + 1)).flatMap blobB by rw [← List.flatMap_append, List.take_append_drop]]
              simp only [List.length_append]; omega
            have hq : batchE n yss = 3 := by
              have := H12.out
              unfold batchE
              rw [if_neg (by rw [HM.out]; omega), if_pos (by rw [Int.toNat_natCast, h9]; omega)]
            refine ⟨_, by rw [hq], ?_, HB3.out⟩
            rw [hq, if_neg (by decide)]
            exact Bytes.nil _ _
          have hbi : (1048576 : Int) < L3 := by omega
          go_wp2
          exact bodyPost_ret (v := .tuple #[.slice none 0 0, .int .i64 3]) (by simp [results]) rfl HT.out
        · have hbi : ¬ (1048576 : Int) < L3 := by omega
          have HBI := Lib.hid hbig
          go_wp2
          first
          | exact ⟨⟨k + 1, A3, c3', by rw [HLK3.out], by go_num, by omega, by show Bytes _ _ _ _; rw [← HLK3.out]; exact HO3.out, HB3, by show _ ≤ _; rw [HLK3.out]; have := HBI.out; omega⟩, by simp [intOf]; omega⟩
          | (go_roundw
             case rel => exact ⟨k + 1, A3, c3', by rw [HLK3.out], by go_num, by omega, by show Bytes _ _ _ _; rw [← HLK3.out]; exact HO3.out, HB3, by show _ ≤ _; rw [HLK3.out]; have := HBI.out; omega⟩
             case measure => simp [intOf]; omega)
      · obtain rfl : k = m := by omega
        have hq : batchB n yss = uv n ++ uv k ++ (yss.take k).flatMap blobB := by
          rw [batchB, HM.out, List.take_of_length_le (by rw [HM.out]; exact Nat.le_refl _)]
        have hqe : batchE n yss = 0 := by
          have := H12.out
          unfold batchE
          rw [if_neg (by rw [HM.out]; omega), if_neg (by rw [Int.toNat_natCast, hq]; have := HL2.out; omega)]
        have HT : Hid (BPost n yss w (.returned (.tuple #[.slice A2 L c2', .int .i64 0])) wr) := by
          refine ⟨_, by rw [hqe], ?_, HB2.out⟩
          rw [hqe, if_pos rfl, Int.toNat_natCast, hq, ← hL]
          exact HO2.out
        rw [hL]
        clear hq hqe hL HO2
        go_wp2
        exact bodyPost_ret (v := .tuple #[.slice A2 L c2', .int .i64 0]) (by simp [results]) rfl HT.out
theorem bytes_any (n : Int) (v : Value) (yss : List (List UInt8)) (w : World) (hr : RdL w v yss) (hy : ∀ y ∈ yss, y.length ≤ 100000000000) : Calls Tryd.prog 21 #[.agg #[.int .i64 n, v]] w (BPost n yss w) := by
  by_cases h : n < 1 ∨ 1152921504606846976 < n ∨ yss.length < 1 ∨ 1000 < yss.length
  · exact bytes_no n v yss w hr h
  · obtain ⟨k, rfl⟩ : ∃ k : Nat, n = k := ⟨n.toNat, by omega⟩
    exact bytes_in k v yss w hr (by omega) (by omega) (by omega) (by omega) hy
end Go.Proofs.YthehpafkaefohaaDoor

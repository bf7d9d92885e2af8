/- CodecCuts: the walk's second half. Conditions: sizes a machine can have. -/
import Derived.Test.YtckooioikcenmaaCkA1
import Derived.Test.YtckooioikcenmaaCkM9
import Derived.Deep.RegionHeld3
import Derived.BigQuiet
import Derived.Deep.QuietTactic
namespace Go.Proofs.Ytckooioikcenmaa
open Go.RowKit
/-- the boxes of two operations and of a cut, in a world later on -/
structure OPB (w : World) (cs ds es : Array Value) (W : World) : Prop where
  b0 : W.heap[w.heap.size]? = some (.cells cs 24)
  b1 : W.heap[w.heap.size + 1]? = some (.cells ds 24)
  b2 : W.heap[w.heap.size + 2]? = some (.cells es 51)
  bel : Below w.heap.size w W
theorem OPB.first (w : World) (cs ds es : Array Value) : OPB w cs ds es (((w.alloc (.cells cs 24)).alloc (.cells ds 24)).alloc (.cells es 51)) := by
  have h1 := alloc_at (w.alloc (.cells cs 24)) (.cells ds 24)
  rw [show (w.alloc (.cells cs 24)).heap.size = w.heap.size + 1 by simp] at h1
  have h2 := alloc_at ((w.alloc (.cells cs 24)).alloc (.cells ds 24)) (.cells es 51)
  rw [show ((w.alloc (.cells cs 24)).alloc (.cells ds 24)).heap.size = w.heap.size + 2 by simp] at h2
  exact ⟨blk_alloc (blk_alloc (alloc_at _ _) _) _, blk_alloc h1 _, h2, (((Below.refl _ _).alloc (Nat.le_refl _) _).alloc (by simp) _).alloc (by simp; omega) _⟩
theorem OPB.below {w W W' : World} {cs ds es : Array Value} (h : OPB w cs ds es W) (hb : Below W.heap.size W W') : OPB w cs ds es W' := ⟨blk_below hb h.b0, blk_below hb h.b1, blk_below hb h.b2, h.bel.trans (hb.mono h.bel.size)⟩
theorem OPB.alloc {w W : World} {cs ds es : Array Value} (h : OPB w cs ds es W) (o : Obj) : OPB w cs ds es (W.alloc o) := h.below ((Below.refl _ _).alloc (Nat.le_refl _) o)
theorem OPB.drewN {w W : World} {cs ds es : Array Value} (h : OPB w cs ds es W) (n : Nat) : OPB w cs ds es (W.drewN n) := h.below (below_drewN (Below.refl _ _) n)
/-- what the writing answers, as two slots hold it -/
def EncIs {α : Type} (c : Cd α) (x : α) (w : World) (s t : Value) : Prop :=
  (c.okt x = true ∧ t = .int .i64 0 ∧ ∃ g cp, s = .slice (some ⟨g, 0, none⟩) (c.enc x).length cp ∧ RdB w s (c.enc x)) ∨ (c.okt x = false ∧ t = .int .i64 2 ∧ s = .slice none 0 0)
theorem EncIs.below {α : Type} {c : Cd α} {x : α} {w w' : World} {s t : Value} (h : EncIs c x w s t) (hb : Below w.heap.size w w') : EncIs c x w' s t := by
  rcases h with ⟨h1, h2, g, cp, h3, h4⟩ | h
  · exact .inl ⟨h1, h2, g, cp, h3, h4.below hb⟩
  · exact .inr h
theorem enc_same {α : Type} [DecidableEq α] {c : Cd α} (hc : c.Lawful) {x y : α} (ho : c.okr x) (ht : c.okt x = true) (ho2 : c.okr y) (ht2 : c.okt y = true) : decide (c.enc x = c.enc y) = decide (x = y) := by
  apply decide_eq_decide.2
  constructor
  · exact hc.inj ho ht ho2 ht2
  · rintro rfl; rfl
def sl9 (i : Nat) : Nat := [100, 101, 102, 103, 104, 105, 106, 99, 107, 108, 13, 153, 14].getD i 0
def sl16 (i : Nat) : Nat := [136, 137, 138, 139, 140, 141, 142, 135, 143, 144, 19, 153, 20].getD i 0
theorem sl9_inj : ∀ i j, i < 13 → j < 13 → sl9 i = sl9 j → i = j := fun i j hi hj h => (show ∀ i < 13, ∀ j < 13, sl9 i = sl9 j → i = j by decide) i hi j hj h
theorem sl16_inj : ∀ i j, i < 13 → j < 13 → sl16 i = sl16 j → i = j := fun i j hi hj h => (show ∀ i < 13, ∀ j < 13, sl16 i = sl16 j → i = j by decide) i hi j hj h
theorem free9 : ∀ i < 13, i ≠ 11 → 7 ≠ sl9 i ∧ 5 ≠ sl9 i := by decide
theorem free16 : ∀ i < 13, i ≠ 11 → 15 ≠ sl16 i ∧ 5 ≠ sl16 i := by decide
theorem op_len2 {x : DOp} (ho : cOp.okr x) (h : bOp.P x) : (cOp.enc x).length ≤ 99999999999 := Nat.le_trans (bOp_ok x ho h) (by decide)
theorem shop_len2 {x : DShop} (ho : cShop.okr x) (h : gShop x = false) : (cShop.enc x).length ≤ 99999999999 := Nat.le_trans (bShop_ok x ho (shop_small h)) (by decide)
theorem in9 : ∀ j < 13, j ≠ 11 → sl9 j ∈ [13, 14, 99, 100, 101, 102, 103, 104, 105, 106, 107, 108] := by decide
theorem in16 : ∀ j < 13, j ≠ 11 → sl16 j ∈ [19, 20, 135, 136, 137, 138, 139, 140, 141, 142, 143, 144] := by decide
def zOp : Array Value := #[.int .u8 0, .string ⟨#[]⟩, .string ⟨#[]⟩, .string ⟨#[]⟩, .string ⟨#[]⟩, .int .i64 0, .int .i64 0, .int .i64 0, .int .i64 0, .int .i64 0]
def zShop : Array Value := #[.int .i64 0, .slice none 0 0, .int .i64 0, .slice none 0 0, .int .i64 0, .bool false, .slice none 0 0, .slice none 0 0, .int .i64 0, .slice none 0 0, .bool false]
theorem sorted9 : sorted (moreOps "outright.go:57" 7 5 sl9 8 42 24) = true := by kernel_rfl
theorem sorted16 : sorted (moreOps "outright.go:67" 15 5 sl16 10 45 35) = true := by kernel_rfl
theorem read_op_bad (ys : List UInt8) (hl : ys.length ≤ 100000000000) (h : cOp.all ys = false) : ∀ v W, RdB W v ys → Calls Try.prog 8 #[v] W fun e W' => e = .returned (.tuple #[.agg zOp, .int .i64 10]) ∧ Below W.heap.size W W' := fun v W hr => by
  refine (rdOp_any v ys W hr hl).mono ?_
  rintro e w' ⟨h1 | ⟨_, rfl⟩, hb⟩
  · rw [h] at h1; cases h1.1
  · exact ⟨rfl, hb⟩
theorem read_shop_bad (ys : List UInt8) (hl : ys.length ≤ 100000000000) (h : cShop.all ys = false) : ∀ v W, RdB W v ys → Calls Try.prog 10 #[v] W fun e W' => e = .returned (.tuple #[.agg zShop, .int .i64 10]) ∧ Below W.heap.size W W' := fun v W hr => by
  refine (rdShop_any v ys W hr hl).mono ?_
  rintro e w' ⟨h1 | ⟨_, rfl⟩, hb⟩
  · rw [h] at h1; cases h1.1
  · exact ⟨rfl, hb⟩
theorem call_op (v : Value) (w : World) : Sem.run Try.prog (callFunc 8 #[v]) w = .ok (.enter 8 #[v]) w := by simp [go_sem]
theorem call_shop (v : Value) (w : World) : Sem.run Try.prog (callFunc 10 #[v]) w = .ok (.enter 10 #[v]) w := by simp [go_sem]
theorem zero_op : ∃ zc : Array Value, zc.size = zOp.size ∧ ∀ w, Sem.run Try.prog (zeroValue 24) w = .ok (.agg zc) w := ⟨zOp, rfl, fun w => by simp [go_sem, zOp]⟩
theorem zero_shop : ∃ zc : Array Value, zc.size = zShop.size ∧ ∀ w, Sem.run Try.prog (zeroValue 35) w = .ok (.agg zc) w := ⟨zShop, rfl, fun w => by simp [go_sem, zShop]⟩
theorem below_drew {B : Nat} {w W : World} (h : Below B w W) : Below B w W.drew := below_drewN h 1
theorem some_len {a b c d : Nat} (h : a + b + c + d ≤ 3000) : a ≤ 30000 ∧ b ≤ 30000 ∧ c ≤ 30000 ∧ d ≤ 30000 := by omega
theorem op_small {x : DOp} (h : x.2.1.size + x.2.2.1.size + x.2.2.2.1.size + x.2.2.2.2.1.size ≤ 3000) : bOp.P x := by
  obtain ⟨h1, h2, h3, h4⟩ := some_len h
  exact ⟨trivial, h1, h2, h3, h4, trivial, trivial, trivial, trivial, trivial⟩
/-- what follows the first n statements -/
def codeTail : Nat → Code → Code
  | 0, c => c
  | n + 1, .seq _ c => codeTail n c
  | _ + 1, c => c
section
attribute [local go_sem] frozen?_alloc_cells World.cell?_alloc_some
set_option maxRecDepth 20000 in
set_option maxHeartbeats 8000000 in
theorem cuts_tail (w wc : World) (cs ds : Array Value) (qnow : Int) (qrs : List DRec) (qq : Int) (qqs : List DTurn) (qat : Int) (qhad : Bool) (qls : List DLine) (qjs : List DJob) (qla : Int) (qws : List DWorker) (qdr : Bool) (A1 A2 A3 A4 A5 : Option Addr) (c1 c2 c3 c4 c5 : Nat) (yy : DShop) (at' : Int) (mo : Nat) (hmo : mo < 256)
    (hY : mShop.rep w.heap.size w [.int .i64 qnow, .slice A1 qrs.length c1, .int .i64 qq, .slice A2 qqs.length c2, .int .i64 qat, .bool qhad, .slice A3 qls.length c3, .slice A4 qjs.length c4, .int .i64 qla, .slice A5 qws.length c5, .bool qdr] yy) (hOY : cShop.okr yy) (hSK : cShop.sm yy ∧ (cShop.enc yy).length ≤ 100000000000) (hPS : 1 ≤ (cShop.enc yy).length) (hLS2 : (cShop.enc yy).length ≤ 99999999999) (hS : OPB w cs ds #[.int .i64 qnow, .slice A1 qrs.length c1, .int .i64 qq, .slice A2 qqs.length c2, .int .i64 qat, .bool qhad, .slice A3 qls.length c3, .slice A4 qjs.length c4, .int .i64 qla, .slice A5 qws.length c5, .bool qdr, .int .i64 at', .int .u8 (mo : Int)] wc) {u0 u1 u2 u6 u7 u8 u9 u10 u11 u12 u13 u14 u15 u16 u17 u18 u19 u20 u21 u22 u23 u24 u25 u26 u27 u28 u29 u30 u31 u32 u33 u34 u35 u36 u37 u38 u39 u40 u41 u42 u43 u44 u45 u46 u47 u48 u49 u50 u51 u52 u53 u54 u55 u56 u57 u58 u59 u60 u61 u62 u63 u64 u65 u66 u67 u68 u69 u70 u71 u72 u73 u74 u75 u76 u77 u78 u79 u80 u81 u82 u83 u84 u85 u86 u87 u88 u89 u90 u91 u92 u93 u94 u95 u96 u97 u98 u99 u100 u101 u102 u103 u104 u105 u106 u107 u108 u109 u110 u111 u112 u113 u114 u115 u116 u117 u118 u119 u120 u121 u122 u123 u124 u125 u126 u127 u128 u129 u130 u131 u132 u133 u134 u135 u136 u137 u138 u139 u140 u141 u142 u143 u144 u145 u146 u147 u148 u149 u150 u151 u152 u153 : Value} :
    Code.wp Try.prog (codeTail 6 (Try.f4.body.getD .skip)) (bodyPost Try.prog Try.f4 (SPost w)) { tmps := #[u0, u1, u2, .pointer (some ⟨w.heap.size, 0, none⟩), .pointer (some ⟨w.heap.size + 1, 0, none⟩), .pointer (some ⟨w.heap.size + 1 + 1, 0, none⟩), u6, u7, u8, u9, u10, u11, u12, u13, u14, u15, u16, u17, u18, u19, u20, u21, u22, u23, u24, u25, u26, u27, u28, u29, u30, u31, u32, u33, u34, u35, u36, u37, u38, u39, u40, u41, u42, u43, u44, u45, u46, u47, u48, u49, u50, u51, u52, u53, u54, u55, u56, u57, u58, u59, u60, u61, u62, u63, u64, u65, u66, u67, u68, u69, u70, u71, u72, u73, u74, u75, u76, u77, u78, u79, u80, u81, u82, u83, u84, u85, u86, u87, u88, u89, u90, u91, u92, u93, u94, u95, u96, u97, u98, u99, u100, u101, u102, u103, u104, u105, u106, u107, u108, u109, u110, u111, u112, u113, u114, u115, u116, u117, u118, u119, u120, u121, u122, u123, u124, u125, u126, u127, u128, u129, u130, u131, u132, u133, u134, u135, u136, u137, u138, u139, u140, u141, u142, u143, u144, u145, u146, u147, u148, u149, u150, u151, u152, u153], defers := [] } wc := by
  have HY := Lib.hid hY
  have HOY := Lib.hid hOY
  have HSK := Lib.hid hSK
  have HPS := Lib.hid hPS
  have HLS2 := Lib.hid hLS2
  have HS := Lib.hid hS
  clear hY hOY hSK hPS hLS2 hS
  obtain ⟨Q, hQ⟩ : ∃ Q, Q = bodyPost Try.prog Try.f4 (SPost w) := ⟨_, rfl⟩
  rw [← hQ]
  dsimp only [codeTail, Try.f4, Option.getD_some, Option.getD]
  subst hQ
  refine wp_seq_k ?_
  intro K7 hK7
  go_cut [15, 16] (fun s t wx => Hid (EncIs cShop yy wx s t) ∧ Hid (OPB w cs ds #[.int .i64 qnow, .slice A1 qrs.length c1, .int .i64 qq, .slice A2 qqs.length c2, .int .i64 qat, .bool qhad, .slice A3 qls.length c3, .slice A4 qjs.length c4, .int .i64 qla, .slice A5 qws.length c5, .bool qdr, .int .i64 at', .int .u8 (mo : Int)] wx))
  case first =>
    have s0 := blk_cell HS.out.b2 0
    have s1 := blk_cell HS.out.b2 1
    have s2 := blk_cell HS.out.b2 2
    have s3 := blk_cell HS.out.b2 3
    have s4 := blk_cell HS.out.b2 4
    have s5 := blk_cell HS.out.b2 5
    have s6 := blk_cell HS.out.b2 6
    have s7 := blk_cell HS.out.b2 7
    have s8 := blk_cell HS.out.b2 8
    have s9 := blk_cell HS.out.b2 9
    have s10 := blk_cell HS.out.b2 10
    simp at s0 s1 s2 s3 s4 s5 s6 s7 s8 s9 s10
    go_wp2_with fail
    refine (wShop_any yy HOY.out HSK.out.1 HSK.out.2 _ _ (mShop_wide HS.out.bel.size (mShop_law.keep HY.out HS.out.bel))).mono ?_
    rintro e w1 ⟨hb, h1⟩
    have HS1 := Lib.hid (HS.out.below hb)
    clear s0 s1 s2 s3 s4 s5 s6 s7 s8 s9 s10
    clear hb
    cases hk : cShop.okt yy with
    | true =>
      rw [if_pos hk] at h1
      obtain ⟨vb, rfl, hown⟩ := h1
      obtain ⟨gb, cb, rfl, _, _⟩ := hown.some (by have := cShop_law.one yy; omega)
      have HE : Hid (EncIs cShop yy w1 _ (.int .i64 0)) := .inl ⟨hk, rfl, gb, cb, rfl, hown.reads⟩
      clear hown hk
      go_wp2
      go_meet
      exact ⟨HE, HS1⟩
    | false =>
      rw [if_neg (by rw [hk]; simp)] at h1
      subst h1
      have HE : Hid (EncIs cShop yy w1 (.slice none 0 0) (.int .i64 2)) := .inr ⟨hk, rfl, rfl⟩
      clear hk
      go_wp2
      go_meet
      exact ⟨HE, HS1⟩
  case rest =>
    clear HS
    obtain ⟨HE, HS⟩ := hcut
    refine hK7 _ _ ?_
    refine wp_seq_k ?_
    intro K8 hK8
    go_cut [] (fun wx => u16 = .int .i64 0 ∧ Hid (cShop.okt yy = true) ∧ Hid (∃ g cp, u15 = .slice (some ⟨g, 0, none⟩) (cShop.enc yy).length cp ∧ RdB wx u15 (cShop.enc yy)) ∧ Hid (OPB w cs ds #[.int .i64 qnow, .slice A1 qrs.length c1, .int .i64 qq, .slice A2 qqs.length c2, .int .i64 qat, .bool qhad, .slice A3 qls.length c3, .slice A4 qjs.length c4, .int .i64 qla, .slice A5 qws.length c5, .bool qdr, .int .i64 at', .int .u8 (mo : Int)] wx))
    case first =>
      rcases HE.out with ⟨h1, rfl, g, cp, rfl, hrd⟩ | ⟨h1, rfl, rfl⟩
      · have H1 := Lib.hid h1
        have HRD := Lib.hid hrd
        clear h1 hrd
        go_wp2
        go_meet
        exact ⟨by first | trivial | rfl, H1, ⟨g, cp, rfl, HRD.out⟩, HS⟩
      · clear h1
        go_wp2_with fail
        refine (awake23 _).mono ?_
        rintro e w2 ⟨rfl, hb⟩
        go_wp2
        go_ret
        exact ⟨rfl, HS.out.bel.trans (hb.mono HS.out.bel.size)⟩
    case rest =>
      clear HS HE
      obtain ⟨rfl, HOKT, HV, HS⟩ := hcut
      obtain ⟨g, cp, rfl, hrd⟩ := HV.out
      have HCT := Lib.hid (fun k (hk : k < (cShop.enc yy).length) => cShop_law.cut (x := yy) (k := k) HOY.out HOKT.out hk)
      have HMR := Lib.hid (fun b => cShop_law.more (x := yy) b HOY.out HOKT.out)
      have HPX' := HPS
      have HLX' := HLS2
      clear HV HSK HPS HLS2
      generalize hax : cShop.enc yy = ax at *
      clear hax
      obtain ⟨nx, hnx⟩ : ∃ n, ax.length = n := ⟨_, rfl⟩
      have hcap : nx ≤ cp := by
        obtain ⟨_, c9, h9, h10, _⟩ := hrd.form
        injection h9 with _ _ h9
        omega
      have HRX := Lib.hid hrd
      have HNX := Lib.hid hnx
      rw [hnx] at HRX HPX' HLX' ⊢
      obtain ⟨r, hr0, hr1, hc⟩ := pick_any at' nx wc (by have := HPX'.out; omega) (by have := HLX'.out; omega)
      obtain ⟨kk, rfl⟩ : ∃ kk : Nat, r = kk := ⟨r.toNat, by omega⟩
      have hkk : kk < nx := by omega
      have HC := Lib.hid hc
      have m11 := blk_cell HS.out.b2 11
      simp at m11
      clear hc hrd hr0 hnx
      refine hK8 _ _ ?_
      go_wp2_with fail
      refine HC.out.mono ?_
      rintro e w1 ⟨rfl, rfl⟩
      clear HC
      go_wp2_with fail
      refine (rdShop_any _ (ax.take kk) _ (HRX.out.take kk (by rw [HNX.out]; omega)) (by rw [List.length_take]; have := HLX'.out; omega)).mono ?_
      rintro e w1 ⟨h | ⟨_, rfl⟩, hb⟩
      · rw [HCT.out kk (by rw [HNX.out]; exact hkk)] at h; cases h.1
      have HS1 := Lib.hid (HS.out.below hb)
      have HRX1 := Lib.hid (HRX.out.below hb)
      clear hb m11
      go_upto_region 16 with fail
      go_cut [20] (fun s wx => s = .int .i64 10 ∧ Hid (OPB w cs ds #[.int .i64 qnow, .slice A1 qrs.length c1, .int .i64 qq, .slice A2 qqs.length c2, .int .i64 qat, .bool qhad, .slice A3 qls.length c3, .slice A4 qjs.length c4, .int .i64 qla, .slice A5 qws.length c5, .bool qdr, .int .i64 at', .int .u8 (mo : Int)] wx))
      case first =>
        have HS2 := Lib.hid (HS1.out.alloc (.cells #[.int .i64 0, .slice none 0 0, .int .i64 0, .slice none 0 0, .int .i64 0, .bool false, .slice none 0 0, .slice none 0 0, .int .i64 0, .slice none 0 0, .bool false] 35))
        have HRX2 := Lib.hid (HRX1.out.below ((Below.refl _ _).alloc (Nat.le_refl _) (.cells #[.int .i64 0, .slice none 0 0, .int .i64 0, .slice none 0 0, .int .i64 0, .bool false, .slice none 0 0, .slice none 0 0, .int .i64 0, .slice none 0 0, .bool false] 35)))
        generalize hw2 : w1.alloc (.cells #[.int .i64 0, .slice none 0 0, .int .i64 0, .slice none 0 0, .int .i64 0, .bool false, .slice none 0 0, .slice none 0 0, .int .i64 0, .slice none 0 0, .bool false] 35) = w2 at HS2 HRX2 ⊢
        clear hw2
        have HM12 := Lib.hid (show w2.cell? ⟨w.heap.size + 1 + 1, 12, none⟩ = some (.int .u8 (mo : Int)) by rw [blk_cell HS2.out.b2]; rfl)
        generalize hbase : (#[_, _, _, _, _, _, _, _, _, _, _, _, _, _, _, _, _, _, _, _, _, _, _, _, _, _, _, _, _, _, _, _, _, _, _, _, _, _, _, _, _, _, _, _, _, _, _, _, _, _, _, _, _, _, _, _, _, _, _, _, _, _, _, _, _, _, _, _, _, _, _, _, _, _, _, _, _, _, _, _, _, _, _, _, _, _, _, _, _, _, _, _, _, _, _, _, _, _, _, _, _, _, _, _, _, _, _, _, _, _, _, _, _, _, _, _, _, _, _, _, _, _, _, _, _, _, _, _, _, _, _, _, _, _, _, _, _, _, _, _, _, _, _, _, _, _, _, _, _, _, _, _, _, _] : Array Value) = base
        have hb7 : base[15]? = some (.slice (some ⟨g, 0, none⟩) nx cp) := by rw [← hbase]; rfl
        have hb5 : base[5]? = some (.pointer (some ⟨w.heap.size + 1 + 1, 0, none⟩)) := by rw [← hbase]; rfl
        have hbs : base.size = 154 := by rw [← hbase]; rfl
        have HBS := Lib.hid hbase
        clear hbase
        rename_i hJ hK
        refine more_region ⟨w2, base, sl16, 15, 5, .slice (some ⟨g, 0, none⟩) nx cp, ax, w.heap.size + 1 + 1, mo, zShop, 35⟩ "outright.go:67" 10 45 16 sorted16 sl16_inj (fun i hi => by rw [hbs]; exact (show ∀ i < 13, sl16 i < 154 by decide) i hi) (fun i h1 h2 => (free16 i h1 h2).1) (fun i h1 h2 => (free16 i h1 h2).2) hb7 hb5 hmo HRX2.out (by rw [HNX.out]; have := HLX'.out; omega) HM12.out (read_shop_bad _ (by rw [List.length_append, HNX.out]; have := HLX'.out; simp; omega) (HMR.out _)) call_shop zero_shop (show 35 ≠ 5 by decide) (by kernel_rfl) (by kernel_rfl) ?_
        intro a W hsz hdf hsame h12 hbel
        obtain ⟨tm, df⟩ := a
        have hdf' : df = [] := hdf
        subst hdf'
        have h14 : tm.getD 20 undef = .int .i64 10 := h12.eval
        have hfr := setAll_at tm [19, 20, 135, 136, 137, 138, 139, 140, 141, 142, 143, 144] base hsz (fun i hi => hsame i (fun j h1 h2 e => hi (by rw [e]; exact in16 j h1 h2)))
        have HS3 := Lib.hid (HS2.out.below hbel)
        refine hK _ _ ?_
        rw [← hfr, ← HBS.out]
        simp only [setAll, List.setIfInBounds_toArray, List.set_cons_zero, List.set_cons_succ]
        rw [h14]
        go_meet
        exact ⟨rfl, HS3⟩
      case rest =>
        obtain ⟨rfl, HS2⟩ := hcut
        go_wp2_with fail
        refine (awake23 _).mono ?_
        rintro e w2 ⟨rfl, hb⟩
        go_wp2
        go_ret
        exact ⟨rfl, HS2.out.bel.trans (hb.mono HS2.out.bel.size)⟩
end
end Go.Proofs.Ytckooioikcenmaa

/- Walks: Trim. Conditions: sizes a machine can have. -/
import Derived.Test.YthehpafkaefohaaGreatDoorCkLgT4
import Derived.Test.YthehpafkaefohaaGreatDoorCkLgT6
import Derived.Test.YthehpafkaefohaaGreatDoorCkM19
namespace Go.Proofs.YthehpafkaefohaaGreatDoor
open Go.RowKit
/-- a list of the call's own that grows is none of the log's -/
theorem LStep.grown {d l : Nat} {S : List Nat} {dk : DkSt} {lg : LgSt} {w w1 w2 : World} {row : Option Nat} (h : LStep d l S dk lg w w1) (hg : w1.grownBy w2 row) (hr : ∀ k, row = some k → w.heap.size ≤ k ∧ ∃ cs, w1.heap[k]? = some (.cells cs 9)) : LStep d l S dk lg w w2 := by
  obtain ⟨S', h1, h2⟩ := h
  have hc : ChgS row.toList w1 w2 := (ChgS.refl _ _).grown hg (fun k hk => .inl (by rw [hk]; simp))
  have hno : ∀ x ∈ row.toList, x ∉ S' ∧ ∃ cs, w1.heap[x]? = some (.cells cs 9) := fun x hx => by
    have e : row = some x := by simpa using hx
    obtain ⟨_, cs, h3⟩ := hr x e
    exact ⟨h1.out h3 (by decide), cs, h3⟩
  obtain ⟨v, u, k1, k2, rfl⟩ := h1
  refine ⟨dkS d v ++ (l :: u.ownBlock.toList), ⟨v, u, k1.keep hc (fun x hx hm => (hno x hx).1 (List.mem_append_left _ hm)) (fun x hx cs T fr hh => ?_), k2.keep hc (fun x hx => ?_), rfl⟩, h2.chg.trans hc (fun x hx => ?_), h2.sub⟩
  · obtain ⟨_, cs', h5⟩ := hno x hx
    rw [h5] at hh
    injection hh with hh
    injection hh with _ hh
    rw [← hh]; decide
  · have h6 := (hno x hx).1
    refine ⟨fun e => h6 (List.mem_append_right _ (by rw [e]; exact List.mem_cons_self ..)), fun e => h6 (List.mem_append_right _ (List.mem_cons_of_mem _ (by rw [← e]; simp)))⟩
  · exact .inr (hr x (by simpa using hx)).1
/-- the row of firsts is read from one place on -/
theorem LStep.tail {d l : Nat} {S : List Nat} {dk : DkSt} {lg : LgSt} {w w1 : World} (h : LStep d l S dk lg w w1) {a : Int} {r : List Int} (hf : lg.firsts = a :: r) {g o n c : Nat} (hc : w1.cell? ⟨l, 2, none⟩ = some (.slice (some ⟨g, o, none⟩) n c)) :
    LStep d l S dk { lg with firsts := r } w (w1.setCell ⟨l, 2, none⟩ (.slice (some ⟨g, o + 1, none⟩) (n - 1) (c - 1))) := by
  obtain ⟨S', h1, h2⟩ := h
  obtain ⟨v, u, k1, k2, rfl⟩ := h1
  have hu := k2.cells.2.2.1
  rw [hc] at hu
  injection hu with hu
  subst hu
  have ho := k2.own
  rw [hf] at ho
  exact LStep.trans h2 (LStep.firsts k1 k2 (ChgS.refl _ _) ho.tail (fun k hk => .inl hk))
theorem rm_step {b : Int} {k : Nat} {n : Int} {segs : List Sg} {dk : DkSt} {lg : LgSt} (ht : TrI b k n segs dk lg) (hb : 0 ≤ b) (hb2 : b ≤ 1000000000) (hk : k ≤ 60) {t : Nat} {a : Int} {r : List Int} (hd : lg.firsts.drop t = a :: r) :
    (dRemove (rmT t dk lg).1 (nameL a)).2 = 0 ∧ rmT (t + 1) dk lg = ((dRemove (rmT t dk lg).1 (nameL a)).1, { (rmT t dk lg).2 with firsts := r }) := by
  have hlen : t < segs.length := by
    have := congrArg List.length hd
    rw [List.length_drop, ht.fi, List.length_map, List.length_cons] at this
    omega
  have h1 := ht.at hb hb2 hk t (by omega)
  obtain ⟨s, hs⟩ : ∃ s, segs[t]? = some s := ⟨_, List.getElem?_eq_getElem hlen⟩
  have hd2 : segs.drop t = s :: segs.drop (t + 1) := by
    obtain ⟨hlt, he⟩ := List.getElem?_eq_some_iff.1 hs
    rw [List.drop_eq_getElem_cons hlt, he]
  rw [hd2] at h1
  have hf := (rmT_facts t dk lg).1
  have hsa : s.1 = a := by
    have := h1.fi
    rw [hf, hd, List.map_cons] at this
    injection this with this
    exact this.symm
  obtain ⟨_, h3, _⟩ := h1.rm hb hb2 hk
  rw [hsa] at h3
  refine ⟨h3, ?_⟩
  show ((dRemove (rmT t dk lg).1 (nameL ((rmT t dk lg).2.firsts.headD 0))).1, _) = _
  rw [hf, hd]
  rfl
/-- an append of one element, its run -/
theorem push_runL {α : Type} {T t : TypeId} {m : Mv α} {w : World} {bytes : Nat} {z : Value} (hE : Elem T t m.n bytes z) (hm : m.Lawful) (hT : T ∉ m.ts) (base : Nat) (v : Value) (xs : List α) (y : α) (us : List Value) (b : Nat) (hown : LOwn T m base w v xs) {U : TypeId} (hc : w.heap[b]? = some (.cells us.toArray U)) (hy : m.own base w us y)
    (hl : xs.length + 1 ≤ 100000000000) (hby : bytes ≤ 1000) (hb : base ≤ w.heap.size) (ty : TypeId) :
    ∃ v' w', (Builtin.append_ #[t, t] ty #[v, .slice (some ⟨b, 0, none⟩) 1 1]).run Tryz.prog w = .ok v' w' ∧ LOwn T m base w' v' (xs ++ [y]) ∧ w.grownBy w' v.ownBlock ∧ (v'.ownBlock = v.ownBlock ∨ v'.ownBlock = some w.heap.size) := by
  obtain ⟨i0, hi, hz0, hz1, hz2⟩ := info_parts hE.info
  obtain ⟨cells, ho1, he⟩ := hown
  have hul := hm.olen hy
  obtain ⟨v', w', hr, h1, h2, _, h3⟩ := run_append_own_at (P := Tryz.prog) w base t ty T i0 z m.n bytes hE.ut hi hz0 hz1 hz2 hE.zs hm.pos v xs.length cells ho1 ⟨b, 0, none⟩ 1 1 us (by omega) (fun j x hj => by
    rw [addr_add, blk_cell hc]
    simpa using hj) (hm.cell hy) (by simp only [maxLen]; omega) (by
    have : (xs.length + 1) * bytes ≤ 100000000000 * 1000 := Nat.mul_le_mul hl hby
    omega) hb
  exact ⟨v', w', hr, LOwn.push hm hT ho1 he hy h1 h2, h2, h3⟩
theorem grown_blk {w w' : World} {row : Option Nat} {b : Nat} {cs : Array Value} {T : TypeId} (hg : w.grownBy w' row) (hr : ∀ k, row = some k → ∃ cs, w.heap[k]? = some (.cells cs 9)) (hb : w.heap[b]? = some (.cells cs T)) (hT : T ≠ 9) : w'.heap[b]? = some (.cells cs T) :=
  (hg.block b (blk_lt hb) (fun e => by
    obtain ⟨cs', h⟩ := hr b e.symm
    rw [hb] at h
    injection h with h
    injection h with _ h
    exact hT h)).trans hb
def lenV : Value → Nat
  | .slice _ n _ => n
  | _ => 0
def TrimP (d l : Nat) (S : List Nat) (G : Nat) (dk : DkSt) (lg : LgSt) (w : World) (e : Ending) (w' : World) : Prop :=
  ∃ z, e = .returned (.tuple #[z, .int .i64 0]) ∧ LOwn 9 mS w.heap.size w' z ((lFiles lg).take G) ∧ LStep d l S (rmT G dk lg).1 (rmT G dk lg).2 w w'
set_option maxRecDepth 20000 in
set_option maxHeartbeats 4000000 in
theorem trim_go {w : World} {d l : Nat} {S : List Nat} {dk : DkSt} {lg : LgSt} {b : Int} {k : Nat} {n : Int} {segs : List Sg} (h : LB w d l dk lg S) (ht : TrI b k n segs dk lg) (hg : GB S w) (hb : 0 ≤ b) (hb2 : b ≤ 1000000000) (hk : k ≤ 60) (below : Int) :
    Calls Tryz.prog 15 #[.pointer (some ⟨l, 0, none⟩), .int .i64 below] w (TrimP d l S (goneN below lg.firsts) dk lg w) := by
  obtain ⟨W1, hW1⟩ : ∃ x, w.alloc (.cells #[.pointer (some ⟨l, 0, none⟩)] 23) = x := ⟨_, rfl⟩
  have hb1 : Below w.heap.size w W1 := by rw [← hW1]; exact below1 w _
  have hU := up_any (h.below hb1)
  rw [show upE lg = 0 by unfold upE; rw [if_neg (by simp [ht.i.over])]] at hU
  have HU := Lib.hid hU
  have k1 : W1.heap[w.heap.size]? = some (.cells #[.pointer (some ⟨l, 0, none⟩)] 23) := by rw [← hW1]; exact alloc_at _ _
  have e1 := blk_cell k1 0
  simp at e1
  have HL1 : Hid (LStep d l S (rmT 0 dk lg).1 (rmT 0 dk lg).2 w W1) := (LStep.refl h).below hb1
  have HK1 := Lib.hid k1
  have HTR := Lib.hid ht
  have HGB := Lib.hid hg
  obtain ⟨G, hG⟩ : ∃ G, goneN below lg.firsts = G := ⟨_, rfl⟩
  have HG0 : Hid (goneN below (lg.firsts.drop 0) + 0 = G) := by show _ = _; rw [List.drop_zero, hG]; rfl
  rw [hG]
  have HBK := Lib.hid (And.intro hb (And.intro hb2 hk))
  have hnf : lg.firsts.length ≤ 60 := by have := ht.i.nfew; omega
  have HNF := Lib.hid hnf
  clear h ht hg hb hb2 hk hb1 hU k1 hG hnf
  go_enter Tryz.func15, Tryz.ntmps15
  go_upto_region 1 with fail
  clear hW1
  go_wp2_with fail
  refine HU.out.mono ?_
  rintro e w2 ⟨rfl, hw⟩
  subst hw
  go_wp2_with fail
  go_loopw [7] (fun u wr => ∃ (t : Nat) (A' : Option Addr) (c' : Nat), u = .slice A' t c' ∧ Hid (goneN below (lg.firsts.drop t) + t = G) ∧ Hid (LOwn 9 mS w.heap.size wr u ((lFiles lg).take t)) ∧ Hid (LStep d l S (rmT t dk lg).1 (rmT t dk lg).2 w wr) ∧ Hid (wr.heap[w.heap.size]? = some (.cells #[.pointer (some ⟨l, 0, none⟩)] 23))) (fun u _ => G - lenV u)
  case atStart => exact ⟨0, none, 0, rfl, HG0, Lib.hid (LOwn.nil _ _), HL1, HK1⟩
  case round =>
    obtain ⟨t, A', c', rfl, HG, HO, HL, HK⟩ := hrel
    obtain ⟨S', hlb, hnx⟩ := HL.out
    obtain ⟨uf, hbl, hfo⟩ := hlb.cells
    have hff := (rmT_facts t dk lg).1
    rw [hff] at hfo
    have e1 := blk_cell HK.out 0
    have c2 := blk_cell hbl 2
    have f2 := blk_free hbl 2
    simp at e1 c2
    rcases goneN_more below (lg.firsts.drop t) with ⟨a, b', r, hd, hle, hgn⟩ | ⟨h0, hstop⟩
    · rw [hd] at hfo
      obtain ⟨g, o, c, rfl, d1, _, hlc, hcm⟩ := first_at hfo (i := 1) (x := b') rfl
      obtain ⟨g', o', c'', he, d0, _, _, _⟩ := first_at hfo (i := 0) (x := a) rfl
      injection he with he
      injection he with he
      injection he with he he2
      subst he; subst he2
      obtain ⟨M, hM⟩ : ∃ M, r.length = M := ⟨_, rfl⟩
      have hlen : (a :: b' :: r).length = M + 2 := by simp [hM]
      rw [hlen] at c2 hlc
      rw [Nat.add_zero] at d0
      have hgt : (1 : Int) < ((M + 2 : Nat) : Int) := by omega
      have i1 : (1 : Int) < (M : Int) + 2 := by omega
      have i0 : (0 : Int) < (M : Int) + 2 := by omega
      have HNM := Lib.hid (name_any a wr (HGB.out.nx hnx).gok)
      obtain ⟨nm, hnm⟩ : ∃ nm, nameL a = nm := ⟨_, rfl⟩
      rw [hnm] at HNM
      have HD := Lib.hid hd
      have HLE := Lib.hid hgn
      have HNAME := Lib.hid hnm
      clear hd hgn hnm hfo
      go_wp2_with fail
      refine HNM.out.mono ?_
      rintro e w5 ⟨rfl, hb5⟩
      go_upto_region 7 with fail
      obtain ⟨W5, hW5⟩ : ∃ x, w5.alloc (.cells #[.string nm] 9) = x := ⟨_, rfl⟩
      have kn5 : W5.heap[w5.heap.size]? = some (.cells #[.string nm] 9) := by rw [← hW5]; exact alloc_at _ _
      have hb15 : Below wr.heap.size wr W5 := by rw [← hW5]; exact hb5.trans ((below1 w5 _).mono hb5.size)
      have hbn := hb5.size
      obtain ⟨bn, hbe⟩ : ∃ x, w5.heap.size = x := ⟨_, rfl⟩
      rw [hW5, hbe]
      rw [hbe] at kn5 hbn
      have xbl : w.heap.size ∉ S' := hlb.out HK.out (by decide)
      have xbn : bn ∉ S' := hlb.fresh hbn
      have hb6 := below1 W5 (.cells #[.func (.func 69) #[] #[.pointer (some ⟨w.heap.size, 0, none⟩), .pointer (some ⟨bn, 0, none⟩)]] 35)
      have hb16 := hb15.trans (hb6.mono hb15.size)
      have htr := HTR.out.at HBK.out.1 HBK.out.2.1 HBK.out.2.2 t (by
        have h1 := congrArg List.length HD.out
        rw [List.length_drop, HTR.out.fi, List.length_map] at h1
        simp at h1
        omega)
      have x1 : W5.cell? ⟨w.heap.size, 0, none⟩ = some (.pointer (some ⟨l, 0, none⟩)) := cell_later hb15 e1
      have x2 : W5.cell? ⟨bn, 0, none⟩ = some (.string nm) := by rw [blk_cell kn5]; rfl
      have HA := Lib.hid (all_trim (l := l) (lg := (rmT t dk lg).2) (S := S') (r := dRemove (rmT t dk lg).1 nm) W5.heap.size w.heap.size bn (by rw [blk_cell (alloc_at W5 _)]; rfl) (trim1_any (hlb.below hb16) htr.i.ok (by have := htr.i.fuse; omega) w.heap.size bn nm (cell_later hb6 x1) xbl (cell_later hb6 x2) xbn))
      obtain ⟨r1, r2⟩ := rm_step HTR.out HBK.out.1 HBK.out.2.1 HBK.out.2.2 HD.out
      rw [HNAME.out] at r1 r2
      rw [r1] at HA
      rw [show ovr (rmT t dk lg).2 0 = (rmT t dk lg).2 from rfl] at HA
      obtain ⟨dk1, hdk1⟩ : ∃ x, (dRemove (rmT t dk lg).1 nm).1 = x := ⟨_, rfl⟩
      rw [hdk1] at HA r2
      obtain ⟨lgt, hlgt⟩ : ∃ x, (rmT t dk lg).2 = x := ⟨_, rfl⟩
      rw [hlgt] at HA r2 hff
      have HR2 := Lib.hid r2
      have HFF := Lib.hid hff
      have HNX := Lib.hid (hnx.below hb16)
      have HS6 := Lib.hid hb16
      have HKN := Lib.hid (blk_below hb6 kn5)
      have HXB := Lib.hid (And.intro xbl xbn)
      have hkb6 := blk_below hb16 HK.out
      have HKB := Lib.hid hkb6
      have HST : Hid (∀ x ∈ S', ∀ cs T fr, (W5.alloc (.cells #[.func (.func 69) #[] #[.pointer (some ⟨w.heap.size, 0, none⟩), .pointer (some ⟨bn, 0, none⟩)]] 35)).heap[x]? = some (.cells cs T fr) → T ≠ 9) := fun x hx cs T fr hh => by
        obtain ⟨cs', T', h3, h4⟩ := (hlb.below hb16).types4 x hx
        rw [h3] at hh
        injection hh with hh
        injection hh with _ hh
        subst hh
        rcases h4 with rfl | rfl | rfl | rfl <;> decide
      have HROW : Hid (∀ q, Value.ownBlock (.slice A' t c') = some q → q < bn) := fun q hq => Nat.lt_of_lt_of_le (HO.out.rowT q hq).1 hbn
      have hon6 := HO.out.keep mS_law ((Stay.below hb15).trans (Stay.below hb6))
      have HO6 := Lib.hid hon6
      clear hW5 hbe hb5 hb6 hb15 hb16 htr r1 r2 hdk1 hlgt hff hnx hlb hbl xbl xbn hkb6 hon6 c2 f2 d1 d0 e1 hle hlc hcm hgt i0 hlen hM HNM HL
      go_wp2_with fail
      refine HA.out.mono ?_
      rintro e w7 ⟨rfl, hl⟩
      have HL7 : Hid (LStep d l S dk1 lgt w w7) := LStep.trans HNX.out hl
      obtain ⟨S7, hl7, hn7⟩ := hl
      have y1 := hn7.chg.blk HKB.out HXB.out.1
      have y2 := hn7.chg.blk HKN.out HXB.out.2
      have hl7' : LStep d l S' dk1 lgt (W5.alloc (.cells #[.func (.func 69) #[] #[.pointer (some ⟨w.heap.size, 0, none⟩), .pointer (some ⟨bn, 0, none⟩)]] 35)) w7 := ⟨S7, hl7, hn7⟩
      obtain ⟨uf7, hbl7, hf7⟩ := hl7.cells
      rw [HFF.out, HD.out] at hf7
      obtain ⟨g7, o7, c7, rfl, _, _, hlc7, _⟩ := first_at hf7 (i := 1) (x := b') rfl
      obtain ⟨M, hM⟩ : ∃ M, r.length = M := ⟨_, rfl⟩
      have hlen : (a :: b' :: r).length = M + 2 := by simp [hM]
      rw [hlen] at hbl7 hlc7
      have z1 : w7.cell? ⟨w.heap.size, 0, none⟩ = some (.pointer (some ⟨l, 0, none⟩)) := by rw [blk_cell y1]; rfl
      have z2 : w7.cell? ⟨bn, 0, none⟩ = some (.string nm) := by rw [blk_cell y2]; rfl
      have z3 : w7.cell? ⟨l, 2, none⟩ = some (.slice (some ⟨g7, o7, none⟩) (M + 2) c7) := by rw [blk_cell hbl7]; rfl
      -- the append
      have hst7 : Stay [9] (W5.alloc (.cells #[.func (.func 69) #[] #[.pointer (some ⟨w.heap.size, 0, none⟩), .pointer (some ⟨bn, 0, none⟩)]] 35)) w7 := hn7.chg.stay fun x hx cs T fr hh hT => by
        have hT : T = 9 := by simpa using hT
        exact HST.out x hx cs T fr hh hT
      have hb8 : Below w7.heap.size w7 (w7.drew.alloc (.cells #[.string nm] 9)) := (Below.refl _ _).drew.alloc (by simp) _
      have ho8 := (HO6.out.keep mS_law hst7).keep mS_law (Stay.below hb8)
      have HTL : Hid (((lFiles lg).take t).length = t) := by
        show _ = _
        have := HO.out.form
        obtain ⟨A9, c9, h9⟩ := this
        injection h9 with _ h9 _
        exact h9.symm
      have ht60 : t ≤ 60 := by
        have h1 := congrArg List.length HD.out
        rw [List.length_drop] at h1
        simp at h1
        have := HNF.out
        omega
      obtain ⟨v', w9, hr, ho9, hg9, hnb9⟩ := push_runL elS mS_law (by intro h; cases h) w.heap.size (.slice A' t c') ((lFiles lg).take t) nm [.string nm] w7.heap.size ho8 (alloc_at w7.drew _) rfl (by rw [HTL.out]; omega) (by omega) (Nat.le_trans (Nat.le_trans HNX.out.chg.size hn7.chg.size) hb8.size) 32
      have hlen9 : ((lFiles lg).take t ++ [nm]).length = t + 1 := by rw [List.length_append, HTL.out]; rfl
      obtain ⟨A9, c9, hv9⟩ := ho9.form
      rw [hlen9] at hv9
      subst hv9
      have hrow : ∀ q, Value.ownBlock (.slice A' t c') = some q → w.heap.size ≤ q ∧ ∃ cs, (w7.drew.alloc (.cells #[.string nm] 9)).heap[q]? = some (.cells cs 9) := fun q hq => ⟨ho8.lo q hq, (ho8.rowT q hq).2⟩
      have HL9 : Hid (LStep d l S dk1 lgt w w9) := (HL7.out.below hb8).grown hg9 hrow
      have yb9 := grown_blk hg9 (fun q hq => (hrow q hq).2) (blk_below hb8 y1) (by decide)
      have yl9 := grown_blk hg9 (fun q hq => (hrow q hq).2) (blk_below hb8 hbl7) (by decide)
      have yn9 := (hg9.block bn (blk_lt (blk_below hb8 y2)) (fun e => by have := HROW.out bn e.symm; omega)).trans (blk_below hb8 y2)
      have q1 : w9.cell? ⟨w.heap.size, 0, none⟩ = some (.pointer (some ⟨l, 0, none⟩)) := by rw [blk_cell yb9]; rfl
      have q2 : w9.cell? ⟨bn, 0, none⟩ = some (.string nm) := by rw [blk_cell yn9]; rfl
      have q3 : w9.cell? ⟨l, 2, none⟩ = some (.slice (some ⟨g7, o7, none⟩) (M + 2) c7) := by rw [blk_cell yl9]; rfl
      have q4 : w9.frozen? ⟨l, 2, none⟩ = false := blk_free yl9 2
      have hfs9 : lgt.firsts = a :: b' :: r := by rw [HFF.out, HD.out]
      have HLF := Lib.hid (HL9.out.tail hfs9 q3)
      have hbl9 := blk_set (w := w9) yl9 2 (.slice (some ⟨g7, o7 + 1, none⟩) (M + 2 - 1) (c7 - 1))
      have HKF : Hid ((w9.setCell ⟨l, 2, none⟩ (.slice (some ⟨g7, o7 + 1, none⟩) (M + 2 - 1) (c7 - 1))).heap[w.heap.size]? = some (.cells #[.pointer (some ⟨l, 0, none⟩)] 23)) := by
        refine (Below.heap_setCell _ _ _ _ ?_).trans yb9
        intro e
        rw [e] at yb9
        rw [yl9] at yb9
        injection yb9 with yb9
        injection yb9 with _ yb9
        exact absurd yb9 (by decide)
      have hd1 : lg.firsts.drop (t + 1) = b' :: r := by rw [← List.tail_drop, HD.out]; rfl
      have hn1 : (lFiles lg).take (t + 1) = (lFiles lg).take t ++ [nm] := by
        have h1 : lg.firsts[t]? = some a := by
          have := congrArg (fun x => x[0]?) HD.out
          rw [List.getElem?_drop] at this
          simpa using this
        rw [List.take_add_one]
        congr 1
        unfold lFiles
        rw [List.getElem?_map, h1, Option.map_some, HNAME.out]
        rfl
      have HOF : Hid (LOwn 9 mS w.heap.size (w9.setCell ⟨l, 2, none⟩ (.slice (some ⟨g7, o7 + 1, none⟩) (M + 2 - 1) (c7 - 1))) (.slice A9 (t + 1) c9) ((lFiles lg).take (t + 1))) := by
        show LOwn _ _ _ _ _ _
        rw [hn1]
        refine ho9.keep mS_law fun k cs T fr hT hh => (Below.heap_setCell _ _ _ _ ?_).trans hh
        intro e
        subst e
        rw [yl9] at hh
        injection hh with hh
        injection hh with _ hh
        subst hh
        exact absurd hT (by decide)
      have HG1 : Hid (goneN below (lg.firsts.drop (t + 1)) + (t + 1) = G) := by
        show _ = _
        have := HG.out
        rw [HLE.out] at this
        rw [hd1]
        omega
      have HLF2 : Hid (LStep d l S (rmT (t + 1) dk lg).1 (rmT (t + 1) dk lg).2 w (w9.setCell ⟨l, 2, none⟩ (.slice (some ⟨g7, o7 + 1, none⟩) (M + 2 - 1) (c7 - 1)))) := by
        show LStep _ _ _ _ _ _ _
        rw [HR2.out]
        exact HLF.out
      have htG : t < G := by have := HG1.out; omega
      have hc71 : ¬ c7 = 1 := by omega
      have h1M : (1 : Int) ≤ (M : Int) + 2 := by omega
      clear hl7 hl7' hf7 hbl7 hbl9 yb9 yl9 yn9 hrow hg9 ho9 ho8 hst7 hnb9 hn7 y1 y2 hlen9 hlen hfs9 hd1 hn1 hM
      go_upto_region 10 with fail
      refine wp_region_last (fun w' => w'.cell? ⟨w.heap.size, 0, none⟩ = some (.pointer (some ⟨l, 0, none⟩)) ∧ w'.cell? ⟨bn, 0, none⟩ = some (.string nm) ∧ w'.cell? ⟨l, 2, none⟩ = some (.slice (some ⟨g7, o7, none⟩) (M + 2) c7)) 13 (by kernel_rfl) (by kernel_rfl) ⟨z1, z2, z3⟩ (fun hHeld => ?_)
      refine takeL (i := 0) (v := ?_) rfl (by kernel_rfl) (by kernel_rfl) (by kernel_rfl) (fun _ _ _ h => h) (.inl ⟨by rfl, ?_⟩) (by assumption) ?_
      rotate_left
      · (intro w hSw; (try dsimp only at hSw); go_simp; (first | done | with_reducible rfl))
      try simp only [Act.put, List.setIfInBounds_toArray, List.set_cons_zero, List.set_cons_succ]
      refine takeL (i := 1) (v := ?_) rfl (by kernel_rfl) (by kernel_rfl) (by kernel_rfl) (fun _ _ _ h => h) (.inl ⟨by rfl, ?_⟩) (by assumption) ?_
      rotate_left
      · (intro w hSw; (try dsimp only at hSw); go_simp; (first | done | with_reducible rfl))
      try simp only [Act.put, List.setIfInBounds_toArray, List.set_cons_zero, List.set_cons_succ]
      refine takeL (i := 2) (v := ?_) rfl (by kernel_rfl) (by kernel_rfl) (by kernel_rfl) (fun _ _ _ h => h) (.inl ⟨by rfl, ?_⟩) (by assumption) ?_
      rotate_left
      · (intro w hSw; (try dsimp only at hSw); go_simp; (first | done | with_reducible rfl))
      try simp only [Act.put, List.setIfInBounds_toArray, List.set_cons_zero, List.set_cons_succ]
      refine takeL (i := 5) (v := ?_) rfl (by kernel_rfl) (by kernel_rfl) (by kernel_rfl) (fun _ _ _ h => h) (.inl ⟨by rfl, ?_⟩) (by assumption) ?_
      rotate_left
      · (intro w hSw; (try dsimp only at hSw); go_simp; (first | done | with_reducible rfl))
      try simp only [Act.put, List.setIfInBounds_toArray, List.set_cons_zero, List.set_cons_succ]
      refine takeL (i := 6) (v := ?_) rfl (by kernel_rfl) (by kernel_rfl) (by kernel_rfl) (fun _ _ _ h => h) (.inl ⟨by rfl, ?_⟩) (by assumption) ?_
      rotate_left
      · (intro w hSw; (try dsimp only at hSw); go_simp; (first | done | with_reducible rfl))
      try simp only [Act.put, List.setIfInBounds_toArray, List.set_cons_zero, List.set_cons_succ]
      refine takeL (i := 7) (v := ?_) rfl (by kernel_rfl) (by kernel_rfl) (by kernel_rfl) (fun _ _ _ h => h) (.inl ⟨by rfl, ?_⟩) (by assumption) ?_
      rotate_left
      · (intro w hSw; (try dsimp only at hSw); go_simp; (first | done | with_reducible rfl))
      try simp only [Act.put, List.setIfInBounds_toArray, List.set_cons_zero, List.set_cons_succ]
      refine takeL (i := 8) (v := ?_) rfl (by kernel_rfl) (by kernel_rfl) (by kernel_rfl) (fun _ _ _ h => h) (.inl ⟨by rfl, ?_⟩) (by assumption) ?_
      rotate_left
      · (intro w hSw; (try dsimp only at hSw); go_simp; (first | done | with_reducible rfl))
      try simp only [Act.put, List.setIfInBounds_toArray, List.set_cons_zero, List.set_cons_succ]
      refine takeL (i := 9) (v := ?_) rfl (by kernel_rfl) (by kernel_rfl) (by kernel_rfl) (fun _ _ _ h => h) (.inl ⟨by rfl, ?_⟩) (by assumption) ?_
      rotate_left
      · (intro w hSw; (try dsimp only at hSw); go_simp; (first | done | with_reducible rfl))
      try simp only [Act.put, List.setIfInBounds_toArray, List.set_cons_zero, List.set_cons_succ]
      refine stepL (i := 3) rfl (by kernel_rfl) (fun K hK => ?_)
      go_simp
      refine hK.out _ _ ⟨cell_later hb8 z1, cell_later hb8 z2, cell_later hb8 z3⟩ (fun hHeld => ?_)
      clear hK K
      try simp only [Act.put, List.setIfInBounds_toArray, List.set_cons_zero, List.set_cons_succ]
      refine stepL (i := 4) rfl (by kernel_rfl) (fun K hK => ?_)
      refine step_append_runI rfl _ _ 32 32 rfl (.slice A' t c') (.slice (some ⟨w7.heap.size, 0, none⟩) 1 1) (by simp [Act.eval]) (by simp [Act.eval]) hr ?_
      refine hK.out _ _ ⟨q1, q2, q3⟩ (fun hHeld => ?_)
      clear hK K
      try simp only [Act.put, List.setIfInBounds_toArray, List.set_cons_zero, List.set_cons_succ]
      refine stepL (i := 10) rfl (by kernel_rfl) (fun K hK => ?_)
      go_simp
      refine hK.out _ _ ⟨q1, q2, q3⟩ (fun hHeld => ?_)
      clear hK K
      try simp only [Act.put, List.setIfInBounds_toArray, List.set_cons_zero, List.set_cons_succ]
      refine takeL (i := 11) (v := ?_) rfl (by kernel_rfl) (by kernel_rfl) (by kernel_rfl) (fun _ _ _ h => h) (.inl ⟨by rfl, ?_⟩) (by assumption) ?_
      rotate_left
      · (intro w hSw; (try dsimp only at hSw); go_simp; (first | done | with_reducible rfl))
      try simp only [Act.put, List.setIfInBounds_toArray, List.set_cons_zero, List.set_cons_succ]
      refine takeL (i := 12) (v := ?_) rfl (by kernel_rfl) (by kernel_rfl) (by kernel_rfl) (fun _ _ _ h => h) (.inl ⟨by rfl, ?_⟩) (by assumption) ?_
      rotate_left
      · (intro w hSw; (try dsimp only at hSw); go_simp; (first | done | with_reducible rfl))
      try simp only [Act.put, List.setIfInBounds_toArray, List.set_cons_zero, List.set_cons_succ]
      refine wpAnyH_done (by kernel_rfl) ?_ _
      refine doneL rfl (fun K hK => ?_)
      go_simp
      refine hK.out _ _ ?_
      clear hK K hHeld
      go_wp2
      exact ⟨⟨t + 1, A9, c9, rfl, HG1, HOF, HLF2, HKF⟩, by show G - (t + 1) < G - t; omega⟩
    · obtain ⟨A, c, rfl⟩ := hfo.form
      have htG : t = G := by have := HG.out; omega
      subst htG
      have hfin : ∀ (w9 : World), Below wr.heap.size wr w9 → TrimP d l S t dk lg w (.returned (.tuple #[.slice A' t c', .int .i64 0])) w9 := fun w9 hb9 => ⟨_, rfl, HO.out.keep mS_law (Stay.below hb9), HL.out.below hb9⟩
      have HFIN := Lib.hid hfin
      rcases hstop with hshort | ⟨a, b', r, hd, hlt⟩
      · obtain ⟨N, hN⟩ : ∃ N, (lg.firsts.drop t).length = N := ⟨_, rfl⟩
        rw [hN] at c2 hshort
        have hn1 : ¬ (1 : Int) < (N : Int) := by omega
        clear hfo hbl hN hlb hnx h0 hfin
        go_wp2
        exact bodyPost_ret (v := .tuple #[.slice A' t c', .int .i64 0]) (by simp [results]) rfl (HFIN.out _ (Below.refl _ _))
      · rw [hd] at hfo
        obtain ⟨g, o, c9, he, d1, _, _, _⟩ := first_at hfo (i := 1) (x := b') rfl
        injection he with he
        subst he
        obtain ⟨M, hM⟩ : ∃ M, r.length = M := ⟨_, rfl⟩
        rw [hd, show (a :: b' :: r).length = M + 2 by simp [hM]] at c2
        have i1 : (1 : Int) < (M : Int) + 2 := by omega
        have hnle : ¬ b' ≤ below := by omega
        clear hfo hbl hM hlb hnx h0 hfin hd
        go_wp2
        exact bodyPost_ret (v := .tuple #[.slice A' t c', .int .i64 0]) (by simp [results]) rfl (HFIN.out _ (Below.refl _ _))
end Go.Proofs.YthehpafkaefohaaGreatDoor

/- The writer's methods: ints, numbers, texts, flags, done. Conditions: sizes a machine can have. -/
import Derived.Test.YtckooioikcenmaaGreatCkM1
import Derived.Lib.ConvBytes
import Derived.Lib.SmallJoins
namespace Go.Proofs.YtckooioikcenmaaGreat
open Go.RowKit
theorem Bytes.form {base : Nat} {w : World} {v : Value} {xs : List UInt8} (h : Bytes base w v xs) : ∃ A n c, v = .slice A n c := by
  rcases h.2 with ⟨rfl, _⟩ | ⟨g, cap, cur, rfl, _⟩
  · exact ⟨_, _, _, rfl⟩
  · exact ⟨_, _, _, rfl⟩
theorem Bytes.set {base : Nat} {w : World} {v : Value} {xs : List UInt8} (h : Bytes base w v xs) {a : Addr} (ha : some a.block ≠ v.ownBlock) (u : Value) : Bytes base (w.setCell a u) v xs := by
  refine ⟨h.1, ?_⟩
  rcases h.2 with h2 | ⟨g, cap, cur, rfl, hb, hh, hr⟩
  · exact .inl h2
  · exact .inr ⟨g, cap, cur, rfl, hb, blk_set_ne hh u (fun e => ha (by rw [← e]; rfl)), hr⟩
theorem far_T {base k : Nat} {w : World} {v : Value} {ys : List UInt8} {cs : Array Value} {T : TypeId} {fr : Nat × Nat} (hT : T ≠ 5) (hc : w.heap[k]? = some (.cells cs T fr)) (h : Bytes base w v ys) : some k ≠ v.ownBlock := by
  intro e
  rcases h.2 with ⟨rfl, _⟩ | ⟨g, cap, cur, rfl, _, hh, _⟩
  · cases e
  · have : k = g := by simpa [Value.ownBlock] using e
    subst this
    rw [hh] at hc
    injection hc with hc
    injection hc with _ hc
    exact hT hc.symm
/-- the types of the blocks that writing turns -/
def isWr (t : TypeId) : Bool := t == 5 || t == 70
theorem Keep.isB_isWr {B : Nat} {w w' : World} (h : Keep isB B w w') : Keep isWr B w w' := h.types (fun t ht => by simp [isB, isWr] at ht ⊢; exact .inl ht)
/-- a writer at p: what it has written, and whether a text was too long -/
def WSt (p base : Nat) (w : World) (xs : List UInt8) (bad : Bool) : Prop := ∃ v, w.heap[p]? = some (.cells #[v, .bool bad] 70) ∧ Bytes base w v xs
theorem WSt.below {p base : Nat} {w w' : World} {xs : List UInt8} {bad : Bool} (h : WSt p base w xs bad) (hb : Below w.heap.size w w') : WSt p base w' xs bad := by
  obtain ⟨v, h1, h2⟩ := h
  exact ⟨v, blk_below hb h1, h2.below hb⟩
theorem WSt.alloc {p base : Nat} {w : World} {xs : List UInt8} {bad : Bool} (h : WSt p base w xs bad) (o : Obj) : WSt p base (w.alloc o) xs bad := h.below ((Below.refl _ _).alloc (Nat.le_refl _) o)
theorem WSt.lt {p base : Nat} {w : World} {xs : List UInt8} {bad : Bool} (h : WSt p base w xs bad) : p < w.heap.size := by
  obtain ⟨v, h1, h2⟩ := h
  exact blk_lt h1
/-- values that lie in a block -/
def ElemsAt (w : World) (b : Nat) (T : TypeId) (vs : List Value) : Prop := ∃ cs, w.heap[b]? = some (.cells cs T) ∧ ∀ (k : Nat) (v : Value), vs[k]? = some v → cs[k]? = some v
theorem elems_alloc (w : World) (T : TypeId) (vs : List Value) : ElemsAt (w.alloc (.cells vs.toArray T)) w.heap.size T vs := ⟨_, alloc_at _ _, fun k v h => by simpa using h⟩
theorem ElemsAt.keep {w w' : World} {b : Nat} {T : TypeId} {vs : List Value} {B : Nat} (h : ElemsAt w b T vs) (hk : Keep isWr B w w') (hT : isWr T = false) : ElemsAt w' b T vs := by
  obtain ⟨cs, h1, h2⟩ := h
  exact ⟨cs, hk.blk h1 hT, h2⟩
theorem ElemsAt.cell {w : World} {b : Nat} {T : TypeId} {vs : List Value} (h : ElemsAt w b T vs) {k : Nat} {v : Value} (hv : vs[k]? = some v) : w.cell? ⟨b, k, none⟩ = some v := by
  obtain ⟨cs, h1, h2⟩ := h
  rw [blk_cell h1]; exact h2 k v hv
def WPost (p base : Nat) (w : World) (xs : List UInt8) (bad : Bool) (e : Ending) (w' : World) : Prop := e = .returned (.tuple #[]) ∧ WSt p base w' xs bad ∧ Keep isWr base w w'
/-- behind the store of what has grown -/
theorem WSt.store {p base : Nat} {w w' : World} {v v' : Value} {ys xs : List UInt8} {bad : Bool} (h1 : w.heap[p]? = some (.cells #[v, .bool bad] 70)) (h2 : Bytes base w v ys) (hown : Bytes base w' v' xs) (hext : Ext w w' v v') (hp : base ≤ p) :
    w'.heap[p]? = some (.cells #[v, .bool bad] 70) ∧ WSt p base (w'.setCell ⟨p, 0, none⟩ v') xs bad ∧ Keep isWr base w (w'.setCell ⟨p, 0, none⟩ v') := by
  have e1 := hext.blk h1 (far_T (by decide) h1 h2)
  exact ⟨e1, ⟨v', blk_set e1 0 _, hown.set (far_T (by decide) e1 hown) _⟩, ((hext.keep h2 rfl).isB_isWr).setCell e1 hp rfl _⟩
set_option maxRecDepth 20000 in
set_option maxHeartbeats 1000000 in
theorem ints_any (p base b : Nat) (ns : List Int) (ln : Nat) (hln : ns.length = ln) (xs : List UInt8) (bad : Bool) (w : World) (hs : WSt p base w xs bad) (hn : ElemsAt w b 3 (ns.map (Value.int .i64))) (hr : ∀ n ∈ ns, I64 n) (hb : base ≤ p)
    (h4 : ln ≤ 1000) (hlen : xs.length + (ns.flatMap iv).length + 10 ≤ 140737488355328) :
    Calls Tryz.prog 18 #[.pointer (some ⟨p, 0, none⟩), .slice (some ⟨b, 0, none⟩) ln ln] w (WPost p base w (xs ++ ns.flatMap iv) bad) := by
  have HLN := Lib.hid hln
  have HS := Lib.hid hs
  have HN := Lib.hid hn
  have HR := Lib.hid hr
  have HLEN := Lib.hid hlen
  have hB : base ≤ w.heap.size := by have := hs.lt; omega
  clear hln hs hn hr hlen
  go_enter Tryz.func18, Tryz.ntmps18
  go_wp2
  go_loopw [5, 8] (fun _ i wr => ∃ (k : Nat), i = .int .i64 k ∧ k ≤ ln ∧ Hid (WSt p base wr (xs ++ (ns.take k).flatMap iv) bad) ∧ Hid (Keep isWr base w wr)) (fun _ i _ => ln - (intOf i).toNat)
  case atStart => exact ⟨0, rfl, by omega, by show WSt _ _ _ _ _; simpa using HS.out, Keep.refl _ _ _⟩
  case round =>
    obtain ⟨k, rfl, hk, HST, HK⟩ := hrel
    by_cases hk4 : k < ln
    · obtain ⟨n, hnk⟩ : ∃ n, ns[k]? = some n := ⟨ns[k]'(by rw [HLN.out]; exact hk4), List.getElem?_eq_getElem _⟩
      have hn64 := HR.out n (List.mem_of_getElem? hnk)
      have HTK := Lib.hid (show (ns.take (k + 1)).flatMap iv = (ns.take k).flatMap iv ++ iv n by rw [List.take_add_one, hnk]; simp)
      have d0 := (HN.out.keep HK.out rfl).cell (k := k) (v := .int .i64 n) (by rw [List.getElem?_map, hnk]; rfl)
      obtain ⟨v1, hc1, ho1⟩ := HST.out
      have o0 : wr.cell? ⟨p, 0, none⟩ = some v1 := by rw [blk_cell hc1]; rfl
      have hsz : Hid ((xs ++ (ns.take k).flatMap iv).length + 10 ≤ 140737488355328) := by
        show _ ≤ _
        have h8 := HLEN.out
        have h9 : (ns.flatMap iv).length = ((ns.take k).flatMap iv).length + ((ns.drop k).flatMap iv).length := by
          rw [← List.length_append, ← List.flatMap_append, List.take_append_drop]
        rw [List.length_append]
        omega
      have HC := Lib.hid (int_any v1 (xs ++ (ns.take k).flatMap iv) n wr base hn64.1 hn64.2 ho1 (Nat.le_trans hB HK.out.size) hsz.out)
      have HC1 := Lib.hid hc1
      have HO1 := Lib.hid ho1
      clear hnk hc1 ho1
      go_wp2_with fail
      refine HC.out.mono ?_
      rintro e w2 ⟨v2, rfl, hown, hext⟩
      obtain ⟨A2, n2, c2, e2⟩ := hown.form
      subst e2
      obtain ⟨q1, q2, q3⟩ := WSt.store HC1.out HO1.out hown hext hb
      have e3 := blk_cell q1 0
      have e4 := blk_free q1 0
      simp at e3
      have HQ2 := Lib.hid q2
      have HQ3 := Lib.hid q3
      clear q1 q2 q3 hown hext
      go_wp2
      go_roundw
      case rel => exact ⟨k + 1, by go_num, by omega, by show WSt _ _ _ _ _; rw [HTK.out, ← List.append_assoc]; exact HQ2.out, HK.out.trans HQ3.out⟩
      case measure => simp [intOf]; omega
    · obtain rfl : k = ln := by omega
      have HF : Hid (WSt p base wr (xs ++ ns.flatMap iv) bad) := by
        have := HST.out
        rwa [List.take_of_length_le (by rw [HLN.out]; exact Nat.le_refl _)] at this
      go_wp2
      exact bodyPost_ret (v := .tuple #[]) (by simp [results]) rfl ⟨rfl, HF.out, HK.out⟩
set_option maxRecDepth 20000 in
set_option maxHeartbeats 1000000 in
theorem numbers_any (p base b : Nat) (ns : List Int) (ln : Nat) (hln : ns.length = ln) (xs : List UInt8) (bad : Bool) (w : World) (hs : WSt p base w xs bad) (hn : ElemsAt w b 2 (ns.map (Value.int .i64))) (hr : ∀ n ∈ ns, I64 n) (hb : base ≤ p)
    (h4 : ln ≤ 1000) (hlen : xs.length + (ns.flatMap iv).length + 10 ≤ 140737488355328) :
    Calls Tryz.prog 20 #[.pointer (some ⟨p, 0, none⟩), .slice (some ⟨b, 0, none⟩) ln ln] w (WPost p base w (xs ++ ns.flatMap iv) bad) := by
  have HLN := Lib.hid hln
  have HS := Lib.hid hs
  have HN := Lib.hid hn
  have HR := Lib.hid hr
  have HLEN := Lib.hid hlen
  have hB : base ≤ w.heap.size := by have := hs.lt; omega
  clear hln hs hn hr hlen
  go_enter Tryz.func20, Tryz.ntmps20
  go_wp2
  go_loopw [5, 8] (fun _ i wr => ∃ (k : Nat), i = .int .i64 k ∧ k ≤ ln ∧ Hid (WSt p base wr (xs ++ (ns.take k).flatMap iv) bad) ∧ Hid (Keep isWr base w wr)) (fun _ i _ => ln - (intOf i).toNat)
  case atStart => exact ⟨0, rfl, by omega, by show WSt _ _ _ _ _; simpa using HS.out, Keep.refl _ _ _⟩
  case round =>
    obtain ⟨k, rfl, hk, HST, HK⟩ := hrel
    by_cases hk4 : k < ln
    · obtain ⟨n, hnk⟩ : ∃ n, ns[k]? = some n := ⟨ns[k]'(by rw [HLN.out]; exact hk4), List.getElem?_eq_getElem _⟩
      have hn64 := HR.out n (List.mem_of_getElem? hnk)
      have HTK := Lib.hid (show (ns.take (k + 1)).flatMap iv = (ns.take k).flatMap iv ++ iv n by rw [List.take_add_one, hnk]; simp)
      have d0 := (HN.out.keep HK.out rfl).cell (k := k) (v := .int .i64 n) (by rw [List.getElem?_map, hnk]; rfl)
      obtain ⟨v1, hc1, ho1⟩ := HST.out
      have o0 : wr.cell? ⟨p, 0, none⟩ = some v1 := by rw [blk_cell hc1]; rfl
      have hsz : Hid ((xs ++ (ns.take k).flatMap iv).length + 10 ≤ 140737488355328) := by
        show _ ≤ _
        have h8 := HLEN.out
        have h9 : (ns.flatMap iv).length = ((ns.take k).flatMap iv).length + ((ns.drop k).flatMap iv).length := by
          rw [← List.length_append, ← List.flatMap_append, List.take_append_drop]
        rw [List.length_append]
        omega
      have HC := Lib.hid (int_any v1 (xs ++ (ns.take k).flatMap iv) n wr base hn64.1 hn64.2 ho1 (Nat.le_trans hB HK.out.size) hsz.out)
      have HC1 := Lib.hid hc1
      have HO1 := Lib.hid ho1
      clear hnk hc1 ho1
      go_wp2_with fail
      refine HC.out.mono ?_
      rintro e w2 ⟨v2, rfl, hown, hext⟩
      obtain ⟨A2, n2, c2, e2⟩ := hown.form
      subst e2
      obtain ⟨q1, q2, q3⟩ := WSt.store HC1.out HO1.out hown hext hb
      have e3 := blk_cell q1 0
      have e4 := blk_free q1 0
      simp at e3
      have HQ2 := Lib.hid q2
      have HQ3 := Lib.hid q3
      clear q1 q2 q3 hown hext
      go_wp2
      go_roundw
      case rel => exact ⟨k + 1, by go_num, by omega, by show WSt _ _ _ _ _; rw [HTK.out, ← List.append_assoc]; exact HQ2.out, HK.out.trans HQ3.out⟩
      case measure => simp [intOf]; omega
    · obtain rfl : k = ln := by omega
      have HF : Hid (WSt p base wr (xs ++ ns.flatMap iv) bad) := by
        have := HST.out
        rwa [List.take_of_length_le (by rw [HLN.out]; exact Nat.le_refl _)] at this
      go_wp2
      exact bodyPost_ret (v := .tuple #[]) (by simp [results]) rfl ⟨rfl, HF.out, HK.out⟩
theorem conv_run (w : World) (s : ByteArray) : Sem.run Tryz.prog (convert 9 36 (.string s)) w = .ok (.slice (some ⟨w.heap.size, 0, none⟩) s.size (grownCap w s.size 0 5)) (Lib.bytesWorld w 5 s) :=
  Lib.run_convert_string_bytes w 9 36 5 s Tryz.underlying9 Tryz.underlying36 Tryz.underlying5
theorem conv_read (w : World) (s : ByteArray) (hs : s.size ≤ 30000) : RdB (Lib.bytesWorld w 5 s) (.slice (some ⟨w.heap.size, 0, none⟩) s.size (grownCap w s.size 0 5)) s.data.toList := by
  have hl : s.data.toList.length = s.size := rfl
  refine .inr ⟨w.heap.size, 0, grownCap w s.size 0 5, by rw [hl], by rw [hl]; exact grownCap_ge _ _ _ _, grownCap_le_maxLen _ _ _ _ (by simp only [maxLen]; omega), by rw [Lib.bytesWorld_size]; omega, fun j x hx => ?_⟩
  have hj := (List.getElem?_eq_some_iff.1 hx).1
  have := Lib.bytesWorld_cell w 5 s j (by omega)
  rw [Nat.zero_add, this]
  simp only [List.getD_eq_getElem?_getD, hx, Option.getD_some]
theorem conv_below (B : Nat) (w : World) (s : ByteArray) (h : B ≤ w.heap.size) : Below B w (Lib.bytesWorld w 5 s) := Joins.below_bytesWorld B w 5 s h
theorem own_lt {base k : Nat} {w : World} {v : Value} {ys : List UInt8} (h : Bytes base w v ys) (e : some k = v.ownBlock) : k < w.heap.size := by
  rcases h.2 with ⟨rfl, _⟩ | ⟨g, cap, cur, rfl, _, hh, _⟩
  · cases e
  · have : k = g := by simpa [Value.ownBlock] using e
    subst this
    exact blk_lt hh
/-- Blob of a text that has just been laid -/
theorem blob_text {base : Nat} {w : World} {v : Value} {ys : List UInt8} (h : Bytes base w v ys) (s : ByteArray) (hs : s.size ≤ 30000) (hb : base ≤ w.heap.size) (hl : ys.length + s.data.toList.length + 10 ≤ 140737488355328) :
    Calls Tryz.prog 50 #[v, .slice (some ⟨w.heap.size, 0, none⟩) s.size (grownCap w s.size 0 5)] (Lib.bytesWorld w 5 s) fun e w' => ∃ v', e = .returned v' ∧ Bytes base w' v' (ys ++ blobB s.data.toList) ∧ Ext w w' v v' := by
  have hcb := conv_below w.heap.size w s (Nat.le_refl _)
  have hB := own_below hcb h
  refine (blob_any _ _ _ s.data.toList _ base hB (conv_read w s hs) (by intro k9 h9 h8; injection h9 with h9; subst h9; exact absurd (own_lt h h8) (Nat.lt_irrefl _)) (by rw [Lib.bytesWorld_size]; omega) hl).mono ?_
  rintro e w13 ⟨v13, rfl, hown, hext⟩
  exact ⟨v13, rfl, hown, ((Ext.refl w v).below hcb).trans hext⟩
def shortB (ss : List ByteArray) : Bool := ss.all fun s => decide (s.size ≤ 100)
def blobs (ss : List ByteArray) : List UInt8 := ss.flatMap fun s => blobB s.data.toList
set_option maxRecDepth 20000 in
set_option maxHeartbeats 1000000 in
theorem texts_any (p base b : Nat) (ss : List ByteArray) (ln : Nat) (hln : ss.length = ln) (xs : List UInt8) (bad : Bool) (w : World) (hs : WSt p base w xs bad) (hn : ElemsAt w b 9 (ss.map Value.string)) (hr : ∀ s ∈ ss, s.size ≤ 30000) (hb : base ≤ p)
    (h4 : ln ≤ 1000) (hlen : xs.length + (blobs ss).length + 10 ≤ 140737488355328) :
    Calls Tryz.prog 19 #[.pointer (some ⟨p, 0, none⟩), .slice (some ⟨b, 0, none⟩) ln ln] w (WPost p base w (xs ++ blobs ss) (bad || !shortB ss)) := by
  have HLN := Lib.hid hln
  have HS := Lib.hid hs
  have HN := Lib.hid hn
  have HR := Lib.hid hr
  have HLEN := Lib.hid hlen
  have hB : base ≤ w.heap.size := by have := hs.lt; omega
  clear hln hs hn hr hlen
  go_enter Tryz.func19, Tryz.ntmps19
  go_wp2
  go_loopw [5, 8] (fun _ i wr => ∃ (k : Nat), i = .int .i64 k ∧ k ≤ ln ∧ Hid (WSt p base wr (xs ++ blobs (ss.take k)) (bad || !shortB (ss.take k))) ∧ Hid (Keep isWr base w wr)) (fun _ i _ => ln - (intOf i).toNat)
  case atStart => exact ⟨0, rfl, by omega, by show WSt _ _ _ _ _; simpa [blobs, shortB] using HS.out, Keep.refl _ _ _⟩
  case round =>
    obtain ⟨k, rfl, hk, HST, HK⟩ := hrel
    by_cases hk4 : k < ln
    · obtain ⟨s, hnk⟩ : ∃ n, ss[k]? = some n := ⟨ss[k]'(by rw [HLN.out]; exact hk4), List.getElem?_eq_getElem _⟩
      have hs3 := HR.out s (List.mem_of_getElem? hnk)
      have HTK := Lib.hid (show blobs (ss.take (k + 1)) = blobs (ss.take k) ++ blobB s.data.toList by unfold blobs; rw [List.take_add_one, hnk]; simp)
      have HTB := Lib.hid (show (bad || !shortB (ss.take (k + 1))) = ((bad || !shortB (ss.take k)) || decide (100 < s.size)) by
        unfold shortB; rw [List.take_add_one, hnk]
        simp only [Option.toList_some, List.all_append, List.all_cons, List.all_nil, Bool.and_true, Bool.not_and, Bool.or_assoc]
        congr 2
        by_cases h : s.size ≤ 100
        · simp [h]
        · simp [h]; omega)
      have d0 := (HN.out.keep HK.out rfl).cell (k := k) (v := .string s) (by rw [List.getElem?_map, hnk]; rfl)
      obtain ⟨v1, hc1, ho1⟩ := HST.out
      have hsz : Hid ((xs ++ blobs (ss.take k)).length + s.data.toList.length + 10 ≤ 140737488355328) := by
        show _ ≤ _
        have h8 := HLEN.out
        have h9 : (blobs ss).length = (blobs (ss.take (k + 1))).length + (blobs (ss.drop (k + 1))).length := by
          unfold blobs
          rw [← List.length_append, ← List.flatMap_append, List.take_append_drop]
        rw [HTK.out] at h9
        unfold blobB at h9
        simp only [List.length_append] at h9 ⊢
        omega
      generalize (bad || !shortB (ss.take k)) = bd at *
      have HSET := Lib.hid (blk_set hc1 1 (.bool (bd || decide (100 < s.size))))
      have hC := (blob_text (ho1.set (a := ⟨p, 1, none⟩) (far_T (by decide) hc1 ho1) (.bool (bd || decide (100 < s.size)))) s hs3 (by have := HK.out.size; simp [World.setCell]; omega) hsz.out)
      rw [show (wr.setCell ⟨p, 1, none⟩ (.bool (bd || decide (100 < s.size)))).heap.size = wr.heap.size by simp [World.setCell]] at hC
      have HC := Lib.hid hC
      clear hC
      have HOS := Lib.hid (ho1.set (a := ⟨p, 1, none⟩) (far_T (by decide) hc1 ho1) (.bool (bd || decide (100 < s.size))))
      have HKS := Lib.hid (HK.out.setCell (o := 1) hc1 hb rfl (.bool (bd || decide (100 < s.size))))
      have o1 := blk_cell hc1 1
      have f1 := blk_free hc1 1
      have o0 := blk_cell hc1 0
      simp at o0 o1
      obtain ⟨A1, n1, c1, e1⟩ := ho1.form
      subst e1
      clear hnk hc1 ho1
      have hcv := conv_run
      by_cases hgt : 100 < s.size
      · have hd : decide (100 < s.size) = true := decide_eq_true hgt
        have hd2 : decide ((100 : Int) < (s.size : Int)) = true := decide_eq_true (by omega)
        rw [hd] at HSET HC HOS HKS HTB
        simp only [Bool.or_true] at HSET HC HOS HKS HTB
        cases bd with
        | true =>
          go_wp2_with fail
          refine HC.out.mono ?_
          rintro e w2 ⟨v2, rfl, hown, hext⟩
          obtain ⟨A2, n2, c2, e2⟩ := hown.form
          subst e2
          obtain ⟨q1, q2, q3⟩ := WSt.store HSET.out HOS.out hown hext hb
          have e3 := blk_cell q1 0
          have e4 := blk_free q1 0
          simp at e3
          have HQ2 := Lib.hid q2
          have HQ3 := Lib.hid q3
          clear q1 q2 q3 hown hext
          go_wp2
          go_roundw
          case rel => exact ⟨k + 1, by go_num, by omega, by show WSt _ _ _ _ _; rw [HTK.out, HTB.out, ← List.append_assoc]; exact HQ2.out, HKS.out.trans HQ3.out⟩
          case measure => simp [intOf]; omega
        | false =>
          go_wp2_with fail
          refine HC.out.mono ?_
          rintro e w2 ⟨v2, rfl, hown, hext⟩
          obtain ⟨A2, n2, c2, e2⟩ := hown.form
          subst e2
          obtain ⟨q1, q2, q3⟩ := WSt.store HSET.out HOS.out hown hext hb
          have e3 := blk_cell q1 0
          have e4 := blk_free q1 0
          simp at e3
          have HQ2 := Lib.hid q2
          have HQ3 := Lib.hid q3
          clear q1 q2 q3 hown hext
          go_wp2
          go_roundw
          case rel => exact ⟨k + 1, by go_num, by omega, by show WSt _ _ _ _ _; rw [HTK.out, HTB.out, ← List.append_assoc]; exact HQ2.out, HKS.out.trans HQ3.out⟩
          case measure => simp [intOf]; omega
      · have hd : decide (100 < s.size) = false := decide_eq_false hgt
        have hd2 : decide ((100 : Int) < (s.size : Int)) = false := decide_eq_false (by omega)
        rw [hd] at HSET HC HOS HKS HTB
        simp only [Bool.or_false] at HSET HC HOS HKS HTB
        cases bd with
        | true =>
          go_wp2_with fail
          refine HC.out.mono ?_
          rintro e w2 ⟨v2, rfl, hown, hext⟩
          obtain ⟨A2, n2, c2, e2⟩ := hown.form
          subst e2
          obtain ⟨q1, q2, q3⟩ := WSt.store HSET.out HOS.out hown hext hb
          have e3 := blk_cell q1 0
          have e4 := blk_free q1 0
          simp at e3
          have HQ2 := Lib.hid q2
          have HQ3 := Lib.hid q3
          clear q1 q2 q3 hown hext
          go_wp2
          go_roundw
          case rel => exact ⟨k + 1, by go_num, by omega, by show WSt _ _ _ _ _; rw [HTK.out, HTB.out, ← List.append_assoc]; exact HQ2.out, HKS.out.trans HQ3.out⟩
          case measure => simp [intOf]; omega
        | false =>
          go_wp2_with fail
          refine HC.out.mono ?_
          rintro e w2 ⟨v2, rfl, hown, hext⟩
          obtain ⟨A2, n2, c2, e2⟩ := hown.form
          subst e2
          obtain ⟨q1, q2, q3⟩ := WSt.store HSET.out HOS.out hown hext hb
          have e3 := blk_cell q1 0
          have e4 := blk_free q1 0
          simp at e3
          have HQ2 := Lib.hid q2
          have HQ3 := Lib.hid q3
          clear q1 q2 q3 hown hext
          go_wp2
          go_roundw
          case rel => exact ⟨k + 1, by go_num, by omega, by show WSt _ _ _ _ _; rw [HTK.out, HTB.out, ← List.append_assoc]; exact HQ2.out, HKS.out.trans HQ3.out⟩
          case measure => simp [intOf]; omega
    · obtain rfl : k = ln := by omega
      have HF : Hid (WSt p base wr (xs ++ blobs ss) (bad || !shortB ss)) := by
        have := HST.out
        rwa [List.take_of_length_le (by rw [HLN.out]; exact Nat.le_refl _)] at this
      go_wp2
      exact bodyPost_ret (v := .tuple #[]) (by simp [results]) rfl ⟨rfl, HF.out, HK.out⟩
end Go.Proofs.YtckooioikcenmaaGreat
namespace Go.Proofs.YtckooioikcenmaaGreat
open Go.RowKit
def flagsB (bs : List Bool) : List UInt8 := bs.flatMap fun b => iv (boolI b)
theorem boolI_nat (b : Bool) : boolI b = 0 ∨ boolI b = 1 := by unfold boolI; split <;> simp
set_option maxRecDepth 20000 in
set_option maxHeartbeats 1000000 in
theorem flags_any (p base b : Nat) (bs : List Bool) (ln : Nat) (hln : bs.length = ln) (xs : List UInt8) (bad : Bool) (w : World) (hs : WSt p base w xs bad) (hn : ElemsAt w b 4 (bs.map Value.bool)) (hb : base ≤ p)
    (h4 : ln ≤ 1000) (hlen : xs.length + (flagsB bs).length + 10 ≤ 140737488355328) :
    Calls Tryz.prog 30 #[.pointer (some ⟨p, 0, none⟩), .slice (some ⟨b, 0, none⟩) ln ln] w (WPost p base w (xs ++ flagsB bs) bad) := by
  have HLN := Lib.hid hln
  have HS := Lib.hid hs
  have HN := Lib.hid hn
  have HLEN := Lib.hid hlen
  clear hln hs hn hlen
  go_enter Tryz.func30, Tryz.ntmps30
  go_wp2
  go_loopw [5, 6, 9] (fun _ _ i wr => ∃ (k : Nat), i = .int .i64 k ∧ k ≤ ln ∧ Hid (WSt p base wr (xs ++ flagsB (bs.take k)) bad) ∧ Hid (Keep isWr base w wr)) (fun _ _ i _ => ln - (intOf i).toNat)
  case atStart => exact ⟨0, rfl, by omega, by show WSt _ _ _ _ _; simpa [flagsB] using HS.out, Keep.refl _ _ _⟩
  case round =>
    obtain ⟨k, rfl, hk, HST, HK⟩ := hrel
    by_cases hk4 : k < ln
    · obtain ⟨x, hnk⟩ : ∃ n, bs[k]? = some n := ⟨bs[k]'(by rw [HLN.out]; exact hk4), List.getElem?_eq_getElem _⟩
      have HTK := Lib.hid (show flagsB (bs.take (k + 1)) = flagsB (bs.take k) ++ iv (boolI x) by unfold flagsB; rw [List.take_add_one, hnk]; simp)
      have d0 := (HN.out.keep HK.out rfl).cell (k := k) (v := .bool x) (by rw [List.getElem?_map, hnk]; rfl)
      have hsz : Hid ((xs ++ flagsB (bs.take k)).length + (iv (boolI x)).length + 10 ≤ 140737488355328) := by
        show _ ≤ _
        have h8 := HLEN.out
        have h9 : (flagsB bs).length = (flagsB (bs.take (k + 1))).length + (flagsB (bs.drop (k + 1))).length := by
          unfold flagsB
          rw [← List.length_append, ← List.flatMap_append, List.take_append_drop]
        rw [HTK.out] at h9
        simp only [List.length_append] at h9 ⊢
        omega
      clear hnk
      cases x with
      | true =>
        have HSA := Lib.hid (HST.out.alloc (.cells #[.int .i64 1] 3))
        have HEL : Hid (ElemsAt (wr.alloc (.cells #[.int .i64 1] 3)) wr.heap.size 3 [.int .i64 1]) := elems_alloc _ _ _
        go_wp2_with fail
        refine (ints_any p base _ [1] 1 rfl _ bad _ HSA.out HEL.out (by intro n hn; simp at hn; subst hn; unfold I64; omega) hb (by omega) (by have := hsz.out; simpa [boolI] using this)).mono ?_
        rintro e w2 ⟨rfl, hst, hk2⟩
        have HS2 := Lib.hid hst
        have HK2 := Lib.hid ((HK.out.alloc _).trans hk2)
        clear hst hk2
        go_wp2
        go_roundw
        case rel => exact ⟨k + 1, by go_num, by omega, by show WSt _ _ _ _ _; rw [HTK.out, ← List.append_assoc]; simpa [boolI] using HS2.out, HK2.out⟩
        case measure => simp [intOf]; omega
      | false =>
        have HSA := Lib.hid (HST.out.alloc (.cells #[.int .i64 0] 3))
        have HEL : Hid (ElemsAt (wr.alloc (.cells #[.int .i64 0] 3)) wr.heap.size 3 [.int .i64 0]) := elems_alloc _ _ _
        go_wp2_with fail
        refine (ints_any p base _ [0] 1 rfl _ bad _ HSA.out HEL.out (by intro n hn; simp at hn; subst hn; unfold I64; omega) hb (by omega) (by have := hsz.out; simpa [boolI] using this)).mono ?_
        rintro e w2 ⟨rfl, hst, hk2⟩
        have HS2 := Lib.hid hst
        have HK2 := Lib.hid ((HK.out.alloc _).trans hk2)
        clear hst hk2
        go_wp2
        go_roundw
        case rel => exact ⟨k + 1, by go_num, by omega, by show WSt _ _ _ _ _; rw [HTK.out, ← List.append_assoc]; simpa [boolI] using HS2.out, HK2.out⟩
        case measure => simp [intOf]; omega
    · obtain rfl : k = ln := by omega
      have HF : Hid (WSt p base wr (xs ++ flagsB bs) bad) := by
        have := HST.out
        rwa [List.take_of_length_le (by rw [HLN.out]; exact Nat.le_refl _)] at this
      go_wp2
      exact bodyPost_ret (v := .tuple #[]) (by simp [results]) rfl ⟨rfl, HF.out, HK.out⟩
/-- what done answers -/
def DonePost (_p base : Nat) (w : World) (xs : List UInt8) (bad : Bool) (e : Ending) (w' : World) : Prop :=
  w = w' ∧ (if bad = true then e = .returned (.tuple #[.slice none 0 0, .int .i64 2]) else ∃ v, e = .returned (.tuple #[v, .int .i64 0]) ∧ Bytes base w v xs)
set_option maxRecDepth 20000 in
theorem done_any (p base : Nat) (xs : List UInt8) (bad : Bool) (w : World) (hs : WSt p base w xs bad) : Calls Tryz.prog 21 #[.pointer (some ⟨p, 0, none⟩)] w (DonePost p base w xs bad) := by
  obtain ⟨v, hc, ho⟩ := hs
  have c0 := blk_cell hc 0
  have c1 := blk_cell hc 1
  simp at c0 c1
  obtain ⟨A, n, c, e1⟩ := ho.form
  subst e1
  have HO := Lib.hid ho
  clear hc ho
  cases bad with
  | true =>
    go_enter Tryz.func21, Tryz.ntmps21
    go_wp2
    go_ret2
    exact ⟨rfl, by rw [if_pos rfl]; rfl⟩
  | false =>
    go_enter Tryz.func21, Tryz.ntmps21
    go_wp2
    go_ret2
    exact ⟨rfl, by rw [if_neg (by simp)]; exact ⟨_, rfl, HO.out⟩⟩
theorem WSt.cast {p base : Nat} {w : World} {xs xs' : List UInt8} {bad bad' : Bool} (h : WSt p base w xs bad) (hx : xs = xs') (hb : bad = bad') : WSt p base w xs' bad' := by subst hx; subst hb; exact h
theorem all1 {α : Type} {P : α → Prop} {a : α} (h : P a) : ∀ n ∈ [a], P n := by intro n hn; simp at hn; subst hn; exact h
theorem all2 {α : Type} {P : α → Prop} {a b : α} (h : P a) (k : P b) : ∀ n ∈ [a, b], P n := by
  intro n hn; simp at hn; rcases hn with rfl | rfl
  · exact h
  · exact k
theorem all3 {α : Type} {P : α → Prop} {a b c : α} (h : P a) (k : P b) (l : P c) : ∀ n ∈ [a, b, c], P n := by
  intro n hn; simp at hn; rcases hn with rfl | rfl | rfl
  · exact h
  · exact k
  · exact l
theorem all4 {α : Type} {P : α → Prop} {a b c d : α} (h : P a) (k : P b) (l : P c) (m : P d) : ∀ n ∈ [a, b, c, d], P n := by
  intro n hn; simp at hn; rcases hn with rfl | rfl | rfl | rfl
  · exact h
  · exact k
  · exact l
  · exact m
theorem small64 {n : Int} (h : 0 ≤ n ∧ n ≤ 255) : I64 n := by unfold I64; omega
theorem two_alloc (w : World) (o1 o2 : Obj) : ((w.alloc o1).alloc o2).heap[w.heap.size]? = some o1 ∧ ((w.alloc o1).alloc o2).heap[w.heap.size + 1]? = some o2 := by
  refine ⟨blk_alloc (alloc_at _ _) _, ?_⟩
  have := alloc_at (w.alloc o1) o2
  rw [show (w.alloc o1).heap.size = w.heap.size + 1 by simp] at this
  exact this
end Go.Proofs.YtckooioikcenmaaGreat

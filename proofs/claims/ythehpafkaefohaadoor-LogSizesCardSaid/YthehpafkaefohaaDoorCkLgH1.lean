/- Walks: the chapter's example. Conditions: the library's variables read as they are laid. -/
import Derived.Test.YthehpafkaefohaaDoorCkM22
import Derived.Test.YthehpafkaefohaaDoorCkLgG8
import Derived.Test.YthehpafkaefohaaDoorCkM15
namespace Go.Proofs.YthehpafkaefohaaDoor
open Go.RowKit
/-- a disk and its log that a law has made -/
structure AX (w w' : World) (d l : Nat) (dk : DkSt) (lg : LgSt) (S : List Nat) : Prop where
  gk : GOK w
  lb : LB w' d l dk lg S
  be : Below w.heap.size w w'
  ge : ∀ x ∈ S, w.heap.size ≤ x
theorem AX.below {w w1 w2 : World} {d l : Nat} {dk : DkSt} {lg : LgSt} {S : List Nat} (h : AX w w1 d l dk lg S) (hb : Below w1.heap.size w1 w2) : AX w w2 d l dk lg S :=
  ⟨h.gk, h.lb.below hb, h.be.trans (hb.mono h.be.size), h.ge⟩
theorem AX.gb {w w1 : World} {d l : Nat} {dk : DkSt} {lg : LgSt} {S : List Nat} (h : AX w w1 d l dk lg S) : GB S w1 := ⟨w, h.gk, h.be, h.ge⟩
theorem AX.step {w w1 w2 : World} {d l : Nat} {dk dk' : DkSt} {lg lg' : LgSt} {S : List Nat} (h : AX w w1 d l dk lg S) (hs : LStep d l S dk' lg' w1 w2) : ∃ S', AX w w2 d l dk' lg' S' := by
  obtain ⟨S', h1, h2⟩ := hs
  refine ⟨S', h.gk, h1, h.be.trans (h2.chg.below h.ge h.be.size), fun x hx => ?_⟩
  rcases h2.sub x hx with h3 | h3
  · exact h.ge x h3
  · exact Nat.le_trans h.be.size h3
theorem AX.size {w w1 : World} {d l : Nat} {dk : DkSt} {lg : LgSt} {S : List Nat} (h : AX w w1 d l dk lg S) (ok : DkOk dk) (n : ByteArray) : Calls Tryd.prog 9 #[.pointer (some ⟨d, 0, none⟩), .string n] w1 fun e w' => e = .returned (.int .i64 (sizeF dk n)) ∧ Below w1.heap.size w1 w' := by
  obtain ⟨v, u, h1, _, _⟩ := h.lb
  exact size_any h1 ok n
theorem AX.synced {w w1 : World} {d l : Nat} {dk : DkSt} {lg : LgSt} {S : List Nat} (h : AX w w1 d l dk lg S) (ok : DkOk dk) (n : ByteArray) : Calls Tryd.prog 36 #[.pointer (some ⟨d, 0, none⟩), .string n] w1 fun e w' => e = .returned (.int .i64 (lookF dk.fs n).sf) ∧ Below w1.heap.size w1 w' := by
  obtain ⟨v, u, h1, _, _⟩ := h.lb
  exact synced_any h1 ok n
theorem AX.start {w w1 w2 : World} {st : DkSt} {lg : LgSt} {l : Nat} {S : List Nat} (hg : GOK w) (hb1 : Below w.heap.size w w1) (hlb : LB w2 w.heap.size l st lg S) (hsub : ∀ x ∈ S, x ∈ dkS w.heap.size (.slice none 0 0) ∨ w1.heap.size ≤ x) (hc : ChgS (dkS w.heap.size (.slice none 0 0)) w1 w2) : AX w w2 w.heap.size l st lg S := by
  have hd : ∀ x ∈ dkS w.heap.size (.slice none 0 0), w.heap.size ≤ x := fun x hx => by
    have : x = w.heap.size := by simpa [dkS, Value.ownBlock] using hx
    omega
  refine ⟨hg, hlb, hb1.trans (hc.below hd hb1.size), fun x hx => ?_⟩
  rcases hsub x hx with h | h
  · exact hd x h
  · exact Nat.le_trans hb1.size h
theorem AX.row {w w1 : World} {d l : Nat} {dk : DkSt} {lg : LgSt} {S : List Nat} (h : AX w w1 d l dk lg S) {v : Value} {xs : List UInt8} (hr : RbOwn w1 v xs) : ∀ k, Value.readBlock v = some k → k ∉ S := fun k hk hm => by
  obtain ⟨cs, T, h1, h2⟩ := h.lb.types k hm
  obtain ⟨cs', fr, hh⟩ := hr.2 k hk
  rw [h1] at hh
  injection hh with hh
  injection hh with _ hh
  exact h2 hh
/-- bytes stay where a log's step is done -/
theorem AX.keepR {w w1 w2 : World} {d l : Nat} {dk dk' : DkSt} {lg lg' : LgSt} {S : List Nat} (h : AX w w1 d l dk lg S) {v : Value} {xs : List UInt8} (hr : RbOwn w1 v xs) (hs : LStep d l S dk' lg' w1 w2) : RbOwn w2 v xs := by
  obtain ⟨S', _, hn⟩ := hs
  refine ⟨hr.1.chgS hn.chg (h.row hr), fun k hk => ?_⟩
  obtain ⟨cs, fr, hh⟩ := hr.2 k hk
  exact ⟨cs, fr, (hn.chg.block k (blk_lt hh) (h.row hr k hk)).trans hh⟩
theorem RbOwn.below {w w' : World} {v : Value} {xs : List UInt8} (h : RbOwn w v xs) (hb : Below w.heap.size w w') : RbOwn w' v xs := h.stay (Stay.below hb)
theorem rb_bytes {base : Nat} {w : World} {v : Value} {xs : List UInt8} (h : Bytes base w v xs) : RbOwn w v xs := ⟨h.reads, fun k hk => by
  rcases h.2 with ⟨h9, _⟩ | ⟨g, cap, cur, h9, _, hh, _⟩
  · rw [h9] at hk; cases hk
  · rw [h9] at hk
    injection hk with hk
    have hk : g = k := hk
    subst hk
    exact ⟨cur, _, hh⟩⟩
theorem aFirst : firstL ⟨#[119, 48, 55]⟩ = (0, false) := by decide +kernel
theorem aSize : sizeF aW1.1 w1N = 19 := by unfold sizeF; rw [aw1.2.2.2.1]; rfl
theorem lit_strings (w : World) (b : ByteArray) (c : ByteArray) : ∀ (k : Nat) (s : ByteArray), [b, c][k]? = some s → (w.alloc (.cells #[.string b, .string c] 9)).cell? ⟨w.heap.size, k, none⟩ = some (.string s) := by
  intro k s hs
  rw [blk_cell (alloc_at w _)]
  match k, hs with
  | 0, hs => simp at hs; subst hs; rfl
  | 1, hs => simp at hs; subst hs; rfl
  | k + 2, hs => simp at hs
theorem lit_string (w : World) (b : ByteArray) : ∀ (k : Nat) (s : ByteArray), [b][k]? = some s → (w.alloc (.cells #[.string b] 9)).cell? ⟨w.heap.size, k, none⟩ = some (.string s) := by
  intro k s hs
  rw [blk_cell (alloc_at w _)]
  match k, hs with
  | 0, hs => simp at hs; subst hs; rfl
  | k + 1, hs => simp at hs
set_option maxRecDepth 20000 in
set_option maxHeartbeats 4000000 in
theorem awake_any (w : World) (hg : GOK w) : Calls Tryd.prog 16 #[] w fun e w' => e = .returned (.bool true) ∧ Below w.heap.size w w' := by
  have HG := Lib.hid hg
  clear hg
  go_enter Tryd.func16, Tryd.ntmps16
  go_wp2_with fail
  refine (new_any 1000 w (by omega) (by omega)).mono ?_
  rintro e w1 ⟨rfl, hd, hb1⟩
  have HD := Lib.hid hd
  have HB1 := Lib.hid hb1
  clear hd hb1
  go_wp2_with fail
  refine (begin_ok HD.out (new_ok 1000 (by omega) (by omega)) (by simp [newSt]) 64 0 (by omega) (by omega) (by omega) (by omega)).mono ?_
  rintro e w2 ⟨l, S0, rfl, _, hlb, hsub, hc⟩
  have H0 : Hid (AX w w2 w.heap.size l aD0 aL0 S0) := AX.start HG.out HB1.out hlb hsub hc
  clear hlb hsub hc
  go_wp2_with fail
  refine (recs_any w2.heap.size [⟨#[97]⟩, ⟨#[]⟩] _ (lit_strings w2 _ _) (by intro s hs; simp at hs; rcases hs with rfl | rfl <;> simp [ByteArray.size]) (by simp)).mono ?_
  rintro e w3 ⟨v3, rfl, hr3, hb3⟩
  have hr3 : RdL w3 v3 aR1 := hr3
  obtain ⟨A3, c3, rfl, _, _⟩ := hr3.form
  have H3 := Lib.hid ((H0.out.below (below1 w2 _)).below hb3)
  have HR3 := Lib.hid hr3
  clear hr3 hb3 H0
  go_wp2_with fail
  refine (write_any H3.out.lb aOk0 (by simp [aD0]) H3.out.gb (by simp [aL0]) (by simp [aL0]) (by simp [aL0]) _ aR1 HR3.out (by intro y hy; simp [aR1] at hy; rcases hy with rfl | rfl <;> simp)).mono ?_
  rintro e w4 ⟨rfl, hl4⟩
  obtain ⟨S4, h4⟩ := H3.out.step hl4
  have H4 : Hid (AX w w4 w.heap.size l aW1.1 aW1.2.1 S4) := h4
  rw [show (lWrite aD0 aL0 aR1).2.2.1 = 1 from by have := aw1.1; exact congrArg Prod.fst this, show (lWrite aD0 aL0 aR1).2.2.2 = 0 from by have := aw1.1; exact congrArg Prod.snd this]
  clear hl4 h4 H3 HR3
  go_wp2_with fail
  refine (acked_any H4.out.lb).mono ?_
  rintro e w' ⟨rfl, hw⟩
  subst hw
  rw [aw1.2.1]
  go_wp2_with fail
  refine (last_any H4.out.lb).mono ?_
  rintro e w' ⟨rfl, hw⟩
  subst hw
  rw [aw1.2.2.1]
  go_wp2_with fail
  refine (H4.out.size aOk1 w1N).mono ?_
  rintro e w5 ⟨rfl, hb⟩
  rw [aSize]
  have H5 := Lib.hid (H4.out.below hb)
  clear hb H4
  go_wp2_with fail
  refine (logsync_any H5.out.lb aOk1 (by rw [aFu1]; omega) H5.out.gb).mono ?_
  rintro e w6 ⟨rfl, hl6⟩
  obtain ⟨S6, h6⟩ := H5.out.step hl6
  have H6 : Hid (AX w w6 w.heap.size l aS1.1 aS1.2.1 S6) := h6
  rw [show (lSync aW1.1 aW1.2.1).2.2 = 0 from as1.1]
  clear hl6 h6 H5
  go_wp2_with fail
  refine (acked_any H6.out.lb).mono ?_
  rintro e w' ⟨rfl, hw⟩
  subst hw
  rw [as1.2.1]
  go_wp2_with fail
  refine (H6.out.synced aOkS w1N).mono ?_
  rintro e w7 ⟨rfl, hb⟩
  rw [as1.2.2.1]
  have H7 := Lib.hid (H6.out.below hb)
  clear hb H6
  go_wp2_with fail
  refine (recs_any w7.heap.size [⟨#[97]⟩, ⟨#[]⟩] _ (lit_strings w7 _ _) (by intro s hs; simp at hs; rcases hs with rfl | rfl <;> simp [ByteArray.size]) (by simp)).mono ?_
  rintro e w8 ⟨v8, rfl, hr8, hb8⟩
  have hr8 : RdL w8 v8 aR1 := hr8
  obtain ⟨A8, c8, rfl, _, _⟩ := hr8.form
  have H8 := Lib.hid ((H7.out.below (below1 w7 _)).below hb8)
  have HR8 := Lib.hid hr8
  clear hr8 hb8 H7
  go_wp2_with fail
  refine (bytes_any 1 _ aR1 w8 HR8.out (by intro y hy; simp [aR1] at hy; rcases hy with rfl | rfl <;> simp)).mono ?_
  rintro e w9 ⟨v9, rfl, hby, hb9⟩
  rw [abytes.2] at hby ⊢
  rw [if_pos rfl, show (1 : Int).toNat = 1 from rfl, abytes.1] at hby
  have HBY := Lib.hid (rb_bytes hby)
  obtain ⟨A9, c9, rfl, _, _⟩ := hby.reads.form
  have H9 := Lib.hid (H8.out.below hb9)
  clear hby hb9 H8 HR8
  go_wp2_with fail
  refine (recs_any w9.heap.size [⟨#[48, 49, 50, 51, 52, 53, 54, 55, 56, 57, 48, 49, 50, 51, 52, 53, 54, 55, 56, 57, 48, 49, 50, 51, 52, 53, 54, 55, 56, 57, 48, 49, 50, 51, 52, 53, 54, 55, 56, 57, 48, 49, 50, 51, 52, 53]⟩] _ (lit_string w9 _) (by intro s hs; simp at hs; subst hs; simp [ByteArray.size]) (by simp)).mono ?_
  rintro e w10 ⟨v10, rfl, hr10, hb10⟩
  have hr10 : RdL w10 v10 aR2 := hr10
  obtain ⟨A10, c10, rfl, _, _⟩ := hr10.form
  have H10 := Lib.hid ((H9.out.below (below1 w9 _)).below hb10)
  have HY10 := Lib.hid ((HBY.out.below (below1 w9 _)).below hb10)
  have HR10 := Lib.hid hr10
  clear hr10 hb10 H9 HBY
  go_wp2_with fail
  refine (write_any H10.out.lb aOkS (by rw [aFuS]; omega) H10.out.gb (by rw [aLs.1]; omega) (by rw [aLs.1]; omega) (by rw [aLs.2]; simp) _ aR2 HR10.out (by intro y hy; simp [aR2] at hy; subst hy; simp)).mono ?_
  rintro e w11 ⟨rfl, hl11⟩
  have HY11 := Lib.hid (H10.out.keepR HY10.out hl11)
  obtain ⟨S11, h11⟩ := H10.out.step hl11
  have H11 : Hid (AX w w11 w.heap.size l aW2.1 aW2.2.1 S11) := h11
  rw [show (lWrite aS1.1 aS1.2.1 aR2).2.2.1 = 2 from congrArg Prod.fst aw2.1, show (lWrite aS1.1 aS1.2.1 aR2).2.2.2 = 0 from congrArg Prod.snd aw2.1]
  clear hl11 h11 H10 HR10 HY10
  go_wp2_with fail
  refine (recs_any w11.heap.size [⟨#[99]⟩] _ (lit_string w11 _) (by intro s hs; simp at hs; subst hs; simp [ByteArray.size]) (by simp)).mono ?_
  rintro e w12 ⟨v12, rfl, hr12, hb12⟩
  have hr12 : RdL w12 v12 aR3 := hr12
  obtain ⟨A12, c12, rfl, _, _⟩ := hr12.form
  have H12 := Lib.hid ((H11.out.below (below1 w11 _)).below hb12)
  have HY12 := Lib.hid ((HY11.out.below (below1 w11 _)).below hb12)
  have HR12 := Lib.hid hr12
  clear hr12 hb12 H11 HY11
  go_wp2_with fail
  refine (write_any H12.out.lb aOk2 (by rw [aFu2]; omega) H12.out.gb (by rw [aL2.1]; omega) (by rw [aL2.1]; omega) (by rw [aL2.2]; simp) _ aR3 HR12.out (by intro y hy; simp [aR3] at hy; subst hy; simp)).mono ?_
  rintro e w13 ⟨rfl, hl13⟩
  have HY13 := Lib.hid (H12.out.keepR HY12.out hl13)
  obtain ⟨S13', h13⟩ := H12.out.step hl13
  have H13 : Hid (AX w w13 w.heap.size l aW3.1 aW3.2.1 S13') := h13
  rw [show (lWrite aW2.1 aW2.2.1 aR3).2.2.1 = 3 from congrArg Prod.fst aw3.1, show (lWrite aW2.1 aW2.2.1 aR3).2.2.2 = 0 from congrArg Prod.snd aw3.1]
  clear hl13 h13 H12 HR12 HY12
  go_wp2_with fail
  refine (write_bad H13.out.lb aw3.2.1 (by rw [aw3.2.2.2.2]; omega) (by rw [aw3.2.2.2.2]; omega) (.slice none 0 0) [] (.inl ⟨none, 0, rfl, Nat.zero_le _, rfl⟩) (by intro y hy; simp at hy) (by rw [aE4]; decide)).mono ?_
  rintro e w14 ⟨rfl, hl14⟩
  rw [aW4] at hl14 ⊢
  obtain ⟨S14, h14⟩ := H13.out.step hl14
  have H14 := Lib.hid h14
  have HY14 := Lib.hid (H13.out.keepR HY13.out hl14)
  clear hl14 h14 H13 HY13
  go_wp2_with fail
  refine (first_any ⟨#[119, 48, 55]⟩ w14 (by simp [ByteArray.size]) H14.out.gb.gok).mono ?_
  rintro e w15 ⟨rfl, hb15⟩
  rw [aFirst]
  have H15 := Lib.hid (H14.out.below hb15)
  have HY15 := Lib.hid (HY14.out.below hb15)
  clear hb15 H14 HY14
  have hlit : RdB (w15.alloc (.cells #[.int .u8 1, .int .u8 2, .int .u8 1, .int .u8 97, .int .u8 0] 5)) (.slice (some ⟨w15.heap.size, 0, none⟩) 5 5) [1, 2, 1, 97, 0] := by
    have := (lit_bytes w15 [1, 2, 1, 97, 0] (by simp [maxLen])).reads
    simp only [Lib.byteCells, List.map_cons, List.map_nil] at this
    exact this
  have HLIT := Lib.hid hlit
  have H16 := Lib.hid (H15.out.below (below1 w15 (.cells #[.int .u8 1, .int .u8 2, .int .u8 1, .int .u8 97, .int .u8 0] 5)))
  have HY16 := Lib.hid (HY15.out.below (below1 w15 (.cells #[.int .u8 1, .int .u8 2, .int .u8 1, .int .u8 97, .int .u8 0] 5)))
  clear hlit H15 HY15
  go_wp2_with fail
  refine (sameBytes_any _ _ [1, 2, 1, 97, 0] [1, 2, 1, 97, 0] _ HY16.out.1 HLIT.out).mono ?_
  rintro e w' ⟨rfl, hw⟩
  subst hw
  rw [show decide (([1, 2, 1, 97, 0] : List UInt8) = [1, 2, 1, 97, 0]) = true from by simp]
  clear HY16 HLIT
  go_wp2_with fail
  refine (files_any H16.out.lb H16.out.gb (by rw [aw3.2.2.1]; simp)).mono ?_
  rintro e w17 ⟨v17, rfl, ho17, hb17⟩
  rw [aL3] at ho17
  obtain ⟨A17, c17, rfl⟩ := ho17.form
  have H17 := Lib.hid ((H16.out.below hb17).below (below1 w17 (.cells #[.string w1N, .string w3N] 9)))
  have HT17 := Lib.hid (rdT_own (ho17.keep mS_law (Stay.below (below1 w17 (.cells #[.string w1N, .string w3N] 9)))))
  have HL17 : Hid (RdT (w17.alloc (.cells #[.string w1N, .string w3N] 9)) (.slice (some ⟨w17.heap.size, 0, none⟩) 2 2) [w1N, w3N]) := .inr ⟨w17.heap.size, 0, 2, rfl, by simp, by simp [maxLen], fun j s hs => by rw [Nat.zero_add]; exact lit_strings w17 w1N w3N j s hs⟩
  clear ho17 hb17 H16
  go_wp2_with fail
  refine (sameTexts_any _ _ [w1N, w3N] [w1N, w3N] _ HT17.out HL17.out).mono ?_
  rintro e w18 ⟨rfl, hb18⟩
  rw [show decide (([w1N, w3N] : List ByteArray) = [w1N, w3N]) = true from by simp]
  have H18 := Lib.hid (H17.out.below hb18)
  clear hb18 H17 HT17 HL17
  go_wp2_with fail
  refine (acked_any H18.out.lb).mono ?_
  rintro e w' ⟨rfl, hw⟩
  subst hw
  rw [aw3.2.2.2.1]
  go_wp2_with fail
  refine (name_any 7 w18 H18.out.gb.gok).mono ?_
  rintro e w19 ⟨rfl, hb19⟩
  rw [aname.1]
  have HB19 := Lib.hid (H18.out.be.trans (hb19.mono H18.out.be.size))
  clear hb19 H18
  go_wp2
  exact bodyPost_ret (v := .bool true) (by simp [results]) rfl ⟨rfl, HB19.out⟩
end Go.Proofs.YthehpafkaefohaaDoor

/- The law LogNumbers walked. Conditions: the library's variables read as they are laid. -/
import Derived.Test.YthehpafkaefohaaGreatDoorCkLgU4
import Derived.Test.YthehpafkaefohaaGreatDoorCkLgH1
import Derived.Test.YthehpafkaefohaaGreatDoorCkM26
namespace Go.Proofs.YthehpafkaefohaaGreatDoor
open Go.RowKit
/-- a disk that a law has made -/
structure DX (w w1 : World) (d : Nat) (st : DkSt) (v : Value) : Prop where
  gk : GOK w
  dk : DkAt w1 d st v
  be : Below w.heap.size w w1
  ge : ∀ x ∈ dkS d v, w.heap.size ≤ x
theorem DX.below {w w1 w2 : World} {d : Nat} {st : DkSt} {v : Value} (h : DX w w1 d st v) (hb : Below w1.heap.size w1 w2) : DX w w2 d st v := ⟨h.gk, h.dk.below hb, h.be.trans (hb.mono h.be.size), h.ge⟩
theorem DX.bad {w w1 w2 : World} {d : Nat} {st : DkSt} {v v' : Value} (h : DX w w1 d st v) (hd : DkAt w2 d st v') (hc : ChgS (dkS d v) w1 w2) (hn : NR v v' w1) : DX w w2 d st v' :=
  ⟨h.gk, hd, h.be.trans (hc.below h.ge h.be.size), fun x hx => by
    rcases dkS_sub hn x hx with h1 | h1
    · exact h.ge x h1
    · exact Nat.le_trans h.be.size h1⟩
def badPairs : List (Int × Int) := [(63, 0), (16777217, 0), (64, -1), (64, 576460752303423489)]
theorem badPairs_no : ∀ p ∈ badPairs, mayE p.1 p.2 ≠ 0 := by
  intro p hp
  have : badPairs.all (fun p => decide (mayE p.1 p.2 ≠ 0)) = true := by decide +kernel
  simpa using List.all_eq_true.1 this p hp
def badFirsts : List (List Int) := [[], [0], [2, 2], [3, 2], [7]]
theorem badFirsts_no : ∀ p ∈ badFirsts, resB p 5 = true ∧ p.length ≤ 10 := by
  intro p hp
  have : badFirsts.all (fun p => resB p 5 && decide (p.length ≤ 10)) = true := by decide +kernel
  simpa using List.all_eq_true.1 this p hp
theorem elU : Elem 5 53 1 1 (.int .u8 0) := ⟨by kernel_rfl, by kernel_rfl, by kernel_rfl⟩
theorem made_cellsU (n : Nat) : madeCells (Value.int .u8 0).cells (n * 1) = (List.replicate n (Value.int .u8 0)).toArray := by
  apply Array.ext
  · simp [madeCells]
  · intro i h1 h2
    simp [madeCells, Value.cells, Nat.mod_one]
theorem made_cellsB (n : Nat) : madeCells (Value.slice none 0 0).cells (n * 1) = (List.replicate n (Value.slice none 0 0)).toArray := by
  apply Array.ext
  · simp [madeCells]
  · intro i h1 h2
    simp [madeCells, Value.cells, Nat.mod_one]
theorem bytes_zeros (n : Nat) : Lib.byteCells (List.replicate n 0) = List.replicate n (Value.int .u8 0) := by
  unfold Lib.byteCells
  rw [List.map_replicate]
  rfl
theorem make_bytes (w : World) (n : Nat) (hn : n ≤ 16000000) : Sem.run Tryz.prog (Instr.makeSlice 53 (.int .i64 n) (.int .i64 n)) w = .ok (.slice (some ⟨w.heap.size, 0, none⟩) n n) (w.alloc (.cells (Lib.byteCells (List.replicate n 0)).toArray 5)) := by
  obtain ⟨i0, hi, hz0, hz1, hz2⟩ := info_parts elU.info
  have := run_makeSlice (P := Tryz.prog) w 53 5 i0 _ elU.ut hi hz0 .i64 .i64 (n : Int) (n : Int) (by omega) (by omega) (by rw [hz1, Int.toNat_natCast]; omega) (by rw [hz2]; omega) (by omega)
  rw [this, hz1, Int.toNat_natCast, made_cellsU, bytes_zeros]
theorem make_rows (w : World) (n : Nat) (hn : n ≤ 1000000) : Sem.run Tryz.prog (Instr.makeSlice 22 (.int .i64 n) (.int .i64 n)) w = .ok (.slice (some ⟨w.heap.size, 0, none⟩) n n) (w.alloc (.cells (List.replicate n (Value.slice none 0 0)).toArray 53)) := by
  obtain ⟨i0, hi, hz0, hz1, hz2⟩ := info_parts elB.info
  have := run_makeSlice (P := Tryz.prog) w 22 53 i0 _ elB.ut hi hz0 .i64 .i64 (n : Int) (n : Int) (by omega) (by omega) (by rw [hz1, Int.toNat_natCast]; omega) (by rw [hz2]; omega) (by omega)
  rw [this, hz1, Int.toNat_natCast, made_cellsB]
def eL (ra rb rc rd : Nat) : List (Value × List Int) := [(.slice none 0 0, []), (.slice (some ⟨ra, 0, none⟩) 1 1, [0]), (.slice (some ⟨rb, 0, none⟩) 2 2, [2, 2]), (.slice (some ⟨rc, 0, none⟩) 2 2, [3, 2]), (.slice (some ⟨rd, 0, none⟩) 1 1, [7])]
structure RW (w : World) (ra rb rc rd : Nat) : Prop where
  a : w.heap[ra]? = some (.cells #[.int .i64 0] 3)
  b : w.heap[rb]? = some (.cells #[.int .i64 2, .int .i64 2] 3)
  c : w.heap[rc]? = some (.cells #[.int .i64 3, .int .i64 2] 3)
  d : w.heap[rd]? = some (.cells #[.int .i64 7] 3)
theorem rdI_row {w : World} {r : Nat} {xs : List Int} (h : w.heap[r]? = some (.cells (xs.map (Value.int .i64)).toArray 3)) (hl : xs.length ≤ 1000) : RdI w (.slice (some ⟨r, 0, none⟩) xs.length xs.length) xs :=
  .inr ⟨r, 0, xs.length, rfl, Nat.le_refl _, by simp only [maxLen]; omega, blk_lt h, fun j x hj => by
    rw [Nat.zero_add, blk_cell h, List.getElem?_toArray, List.getElem?_map, hj]
    rfl⟩
theorem RW.at {w : World} {ra rb rc rd k : Nat} {v : Value} {fs : List Int} (h : RW w ra rb rc rd) (hk : (eL ra rb rc rd)[k]? = some (v, fs)) : RdI w v fs ∧ (∀ b, v.ownBlock = some b → ∃ cs, w.heap[b]? = some (.cells cs 3)) ∧ fs ∈ badFirsts := by
  match k, hk with
  | 0, hk =>
    simp [eL] at hk
    obtain ⟨rfl, rfl⟩ := hk
    exact ⟨.inl ⟨none, 0, rfl, rfl⟩, fun b hb => by simp [Value.ownBlock] at hb, by simp [badFirsts]⟩
  | 1, hk =>
    simp [eL] at hk
    obtain ⟨rfl, rfl⟩ := hk
    exact ⟨rdI_row (xs := [0]) h.a (by simp), fun b hb => by simp [Value.ownBlock] at hb; subst hb; exact ⟨_, h.a⟩, by simp [badFirsts]⟩
  | 2, hk =>
    simp [eL] at hk
    obtain ⟨rfl, rfl⟩ := hk
    exact ⟨rdI_row (xs := [2, 2]) h.b (by simp), fun b hb => by simp [Value.ownBlock] at hb; subst hb; exact ⟨_, h.b⟩, by simp [badFirsts]⟩
  | 3, hk =>
    simp [eL] at hk
    obtain ⟨rfl, rfl⟩ := hk
    exact ⟨rdI_row (xs := [3, 2]) h.c (by simp), fun b hb => by simp [Value.ownBlock] at hb; subst hb; exact ⟨_, h.c⟩, by simp [badFirsts]⟩
  | 4, hk =>
    simp [eL] at hk
    obtain ⟨rfl, rfl⟩ := hk
    exact ⟨rdI_row (xs := [7]) h.d (by simp), fun b hb => by simp [Value.ownBlock] at hb; subst hb; exact ⟨_, h.d⟩, by simp [badFirsts]⟩
  | k + 5, hk => simp [eL] at hk
theorem RW.keep {w w' : World} {ra rb rc rd d : Nat} {st : DkSt} {v : Value} (h : RW w ra rb rc rd) (hd : DkAt w d st v) (hc : ChgS (dkS d v) w w') : RW w' ra rb rc rd :=
  ⟨hc.blk h.a (hd.box h.a (by decide)), hc.blk h.b (hd.box h.b (by decide)), hc.blk h.c (hd.box h.c (by decide)), hc.blk h.d (hd.box h.d (by decide))⟩
theorem AX.from {w w1 w2 : World} {d l : Nat} {st : DkSt} {v : Value} {lg : LgSt} {S : List Nat} (h : DX w w1 d st v) (hlb : LB w2 d l st lg S) (hsub : ∀ x ∈ S, x ∈ dkS d v ∨ w1.heap.size ≤ x) (hc : ChgS (dkS d v) w1 w2) : AX w w2 d l st lg S :=
  ⟨h.gk, hlb, h.be.trans (hc.below h.ge h.be.size), fun x hx => by
    rcases hsub x hx with h1 | h1
    · exact h.ge x h1
    · exact Nat.le_trans h.be.size h1⟩
theorem rdL_one {w : World} {b n c : Nat} {y : List UInt8} {T : TypeId} (hb : w.heap[b]? = some (.cells #[.slice (some ⟨n, 0, none⟩) y.length c] T)) (hr : RdB w (.slice (some ⟨n, 0, none⟩) y.length c) y) : RdL w (.slice (some ⟨b, 0, none⟩) 1 1) [y] :=
  .inr ⟨b, 0, 1, rfl, Nat.le_refl _, by simp [maxLen], blk_lt hb, fun j z hj => by
    match j, hj with
    | 0, hj =>
      have hj : y = z := by simpa using hj
      subst hj
      exact ⟨_, blk_cell hb 0, .inl hr⟩
    | j + 1, hj => simp at hj⟩
theorem rdL_nils {w : World} {b n : Nat} {T : TypeId} (hn : n ≤ 1000000) (hb : w.heap[b]? = some (.cells (List.replicate n (Value.slice none 0 0)).toArray T)) : RdL w (.slice (some ⟨b, 0, none⟩) n n) (List.replicate n []) :=
  .inr ⟨b, 0, n, by rw [List.length_replicate], by rw [List.length_replicate]; exact Nat.le_refl _, by simp only [maxLen]; omega, blk_lt hb, fun j z hj => by
    rw [List.getElem?_replicate] at hj
    split at hj
    · rename_i hlt
      injection hj with hj
      subst hj
      refine ⟨.slice none 0 0, ?_, .inl (.inl ⟨rfl, rfl⟩)⟩
      rw [Nat.zero_add, blk_cell hb, List.getElem?_toArray, List.getElem?_replicate, if_pos hlt]
    · cases hj⟩
set_option maxRecDepth 20000 in
set_option maxHeartbeats 8000000 in
theorem logNumbers_any (w : World) (hg : GOK w) : Calls Tryz.prog 9 #[] w fun e w' => e = .returned (.bool true) ∧ Below w.heap.size w w' := by
  have HG := Lib.hid hg
  clear hg
  go_enter Tryz.func9, Tryz.ntmps9
  go_wp2_with fail
  refine (new_any 100 w (by omega) (by omega)).mono ?_
  rintro e w1 ⟨rfl, hd, hb1⟩
  have H1 : Hid (DX w w1 w.heap.size nD0 (.slice none 0 0)) := ⟨HG.out, hd, hb1, fun x hx => by
    have : x = w.heap.size := by simpa [dkS, Value.ownBlock] using hx
    omega⟩
  clear hd hb1
  obtain ⟨W1, hW1⟩ : ∃ x, w1.alloc (.cells #[.int .i64 63, .int .i64 0, .int .i64 16777217, .int .i64 0, .int .i64 64, .int .i64 (-1), .int .i64 64, .int .i64 576460752303423489] 79) = x := ⟨_, rfl⟩
  have hbW : Below w1.heap.size w1 W1 := by rw [← hW1]; exact below1 w1 _
  have kW : W1.heap[w1.heap.size]? = some (.cells (badPairs.flatMap fun p => [Value.int .i64 p.1, .int .i64 p.2]).toArray 79) := by rw [← hW1]; exact alloc_at _ _
  have HW := Lib.hid (H1.out.below hbW)
  have HK := Lib.hid kW
  obtain ⟨R, hR⟩ : ∃ x, w1.heap.size = x := ⟨_, rfl⟩
  rw [hR] at HK
  clear hbW kW H1
  go_wp2_with fail
  clear hW1 hR
  go_loopw [55] (fun i wr => ∃ (k : Nat) (v : Value), i = .int .i64 k ∧ k ≤ 4 ∧ Hid (DX w wr w.heap.size nD0 v) ∧ Hid (wr.heap[R]? = some (.cells (badPairs.flatMap fun p => [Value.int .i64 p.1, .int .i64 p.2]).toArray 79))) (fun i _ => 4 - (intOf i).toNat)
  case atStart => exact ⟨0, _, rfl, Nat.zero_le _, HW, HK⟩
  case round =>
    obtain ⟨k, v, rfl, hk, HX, HKr⟩ := hrel
    by_cases hlt : k < 4
    · obtain ⟨⟨a, b⟩, hp⟩ : ∃ p, badPairs[k]? = some p := ⟨_, List.getElem?_eq_getElem (show k < badPairs.length from hlt)⟩
      have hbad := badPairs_no _ (List.mem_of_getElem? hp)
      have hcell : ∀ j : Nat, (j = 0 → wr.cell? ⟨R, k * 2 + j, none⟩ = some (.int .i64 a)) ∧ (j = 1 → wr.cell? ⟨R, k * 2 + j, none⟩ = some (.int .i64 b)) := by
        intro j
        constructor
        · rintro rfl
          rw [blk_cell HKr.out]
          match k, hlt, hp with
          | 0, _, hp => simp [badPairs] at hp ⊢; exact hp.1
          | 1, _, hp => simp [badPairs] at hp ⊢; exact hp.1
          | 2, _, hp => simp [badPairs] at hp ⊢; exact hp.1
          | 3, _, hp => simp [badPairs] at hp ⊢; exact hp.1
        · rintro rfl
          rw [blk_cell HKr.out]
          match k, hlt, hp with
          | 0, _, hp => simp [badPairs] at hp ⊢; exact hp.2
          | 1, _, hp => simp [badPairs] at hp ⊢; exact hp.2
          | 2, _, hp => simp [badPairs] at hp ⊢; exact hp.2
          | 3, _, hp => simp [badPairs] at hp ⊢; exact hp.2
      have d0 := (hcell 0).1 rfl
      have d1 := (hcell 1).2 rfl
      rw [Nat.add_zero] at d0
      have hki : (k : Int) < 4 := by omega
      obtain ⟨W2, hW2⟩ : ∃ x, wr.alloc (.cells #[.int .i64 0, .int .i64 0] 79) = x := ⟨_, rfl⟩
      have hb2 : Below wr.heap.size wr W2 := by rw [← hW2]; exact below1 wr _
      have k2 : W2.heap[wr.heap.size]? = some (.cells #[.int .i64 0, .int .i64 0] 79) := by rw [← hW2]; exact alloc_at _ _
      have f0 := blk_free k2 0
      have f1 := blk_free k2 1
      have c0 := blk_cell k2 0
      have c1 := blk_cell k2 1
      simp at c0 c1
      have d0' := cell_later hb2 d0
      have d1' := cell_later hb2 d1
      have HB9 := Lib.hid (below_set (below_set hb2 (Nat.le_refl _) 0 (.int .i64 a)) (Nat.le_refl _) 1 (.int .i64 b))
      clear hp hcell k2 hb2
      go_wp2_with fail
      have HX3 := Lib.hid (HX.out.below HB9.out)
      have HK3 := Lib.hid (blk_below HB9.out HKr.out)
      refine (begin_bad HX3.out.dk nOk0 (by simp [nD0]) a b hbad).mono ?_
      rintro e w4 ⟨v4, rfl, hd4, hc4, hn4⟩
      have HX4 := Lib.hid (HX3.out.bad hd4 hc4 hn4)
      have HK4 := Lib.hid (hc4.blk HK3.out (HX3.out.dk.box HK3.out (by decide)))
      clear hd4 hc4 hn4
      go_wp2
      first
      | exact ⟨⟨k + 1, v4, by go_num, by omega, HX4, HK4⟩, by simp [intOf]; omega⟩
      | (go_roundw
         case rel => exact ⟨k + 1, v4, by go_num, by omega, HX4, HK4⟩
         case measure => simp [intOf]; omega)
    · obtain rfl : k = 4 := by omega
      go_upto_region 11 with fail
      clear HK HW HKr
      obtain ⟨Wa, hWa⟩ : ∃ x, wr.alloc (.cells #[.int .i64 0] 3) = x := ⟨_, rfl⟩
      obtain ⟨Wb, hWb⟩ : ∃ x, Wa.alloc (.cells #[.int .i64 2, .int .i64 2] 3) = x := ⟨_, rfl⟩
      obtain ⟨Wc, hWc⟩ : ∃ x, Wb.alloc (.cells #[.int .i64 3, .int .i64 2] 3) = x := ⟨_, rfl⟩
      obtain ⟨Wd, hWd⟩ : ∃ x, Wc.alloc (.cells #[.int .i64 7] 3) = x := ⟨_, rfl⟩
      obtain ⟨We, hWe⟩ : ∃ x, Wd.alloc (.cells #[.slice none 0 0, .slice (some ⟨wr.heap.size, 0, none⟩) 1 1, .slice (some ⟨Wa.heap.size, 0, none⟩) 2 2, .slice (some ⟨Wb.heap.size, 0, none⟩) 2 2, .slice (some ⟨Wc.heap.size, 0, none⟩) 1 1] 25) = x := ⟨_, rfl⟩
      have hba : Below wr.heap.size wr Wa := by rw [← hWa]; exact below1 _ _
      have hbb : Below Wa.heap.size Wa Wb := by rw [← hWb]; exact below1 _ _
      have hbc : Below Wb.heap.size Wb Wc := by rw [← hWc]; exact below1 _ _
      have hbd : Below Wc.heap.size Wc Wd := by rw [← hWd]; exact below1 _ _
      have hbe : Below Wd.heap.size Wd We := by rw [← hWe]; exact below1 _ _
      have ka : Wa.heap[wr.heap.size]? = some (.cells #[.int .i64 0] 3) := by rw [← hWa]; exact alloc_at _ _
      have kb : Wb.heap[Wa.heap.size]? = some (.cells #[.int .i64 2, .int .i64 2] 3) := by rw [← hWb]; exact alloc_at _ _
      have kc : Wc.heap[Wb.heap.size]? = some (.cells #[.int .i64 3, .int .i64 2] 3) := by rw [← hWc]; exact alloc_at _ _
      have kd : Wd.heap[Wc.heap.size]? = some (.cells #[.int .i64 7] 3) := by rw [← hWd]; exact alloc_at _ _
      have HK2 : Hid (We.heap[Wd.heap.size]? = some (.cells #[.slice none 0 0, .slice (some ⟨wr.heap.size, 0, none⟩) 1 1, .slice (some ⟨Wa.heap.size, 0, none⟩) 2 2, .slice (some ⟨Wb.heap.size, 0, none⟩) 2 2, .slice (some ⟨Wc.heap.size, 0, none⟩) 1 1] 25)) := by show _ = _; rw [← hWe]; exact alloc_at _ _
      have hbd' := hbd.trans (hbe.mono hbd.size)
      have hbc' := hbc.trans (hbd'.mono hbc.size)
      have hbb' := hbb.trans (hbc'.mono hbb.size)
      have hba' := hba.trans (hbb'.mono hba.size)
      have ka' := blk_below hbb' ka
      have kb' := blk_below hbc' kb
      have kc' := blk_below hbd' kc
      have kd' := blk_below hbe kd
      have HXe := Lib.hid (HX.out.below hba')
      obtain ⟨ra, hra⟩ : ∃ x, wr.heap.size = x := ⟨_, rfl⟩
      obtain ⟨rb, hrb⟩ : ∃ x, Wa.heap.size = x := ⟨_, rfl⟩
      obtain ⟨rc, hrc⟩ : ∃ x, Wb.heap.size = x := ⟨_, rfl⟩
      obtain ⟨rd, hrd⟩ : ∃ x, Wc.heap.size = x := ⟨_, rfl⟩
      obtain ⟨re, hre⟩ : ∃ x, Wd.heap.size = x := ⟨_, rfl⟩
      rw [hra, hrb, hrc, hrd, hre] at HK2
      rw [hra] at ka'
      rw [hrb] at kb'
      rw [hrc] at kc'
      rw [hrd] at kd'
      have HKS : Hid (RW We ra rb rc rd) := ⟨ka', kb', kc', kd'⟩
      have HK2' : Hid (We.heap[re]? = some (.cells ((eL ra rb rc rd).map Prod.fst).toArray 25)) := HK2.out
      rw [hra, hrb, hrc, hrd] at hWe
      clear hba hbb hbc hbd hbe ka kb kc kd hbd' hbc' hbb' hba' ka' kb' kc' kd' HX HK2
      go_upto_region 12 with fail
      clear hWa hWb hWc hWd hWe hra hrb hrc hrd hre hlt hk
      refine wp_loop_rounds 6 ?_
      have HXw0 := HXe
      have HKw0 := HKS
      have HRw0 := HK2'
      obtain ⟨x0, hx0⟩ : ∃ x, We = x := ⟨_, rfl⟩
      rw [hx0] at HXw0 HKw0 HRw0 ⊢
      clear hx0 HXe HKS HK2'
      rw [rounds_succ]
      obtain ⟨hr, hty, hmem⟩ := HKw0.out.at (k := 0) (v := .slice none 0 0) (fs := []) rfl
      obtain ⟨hbad, hlen⟩ := badFirsts_no _ hmem
      have d0 : x0.cell? ⟨re, 0, none⟩ = some (.slice none 0 0) := by
        rw [blk_cell HRw0.out]
        rfl
      have hres := resume_any HXw0.out.dk nOk0 (by simp [nD0]) 64 5 _ _ hr (fun b hb hm => by
        obtain ⟨cs, h1⟩ := hty b hb
        exact HXw0.out.dk.box h1 (by decide) hm) (by omega)
      have hpost : ∀ e w', ResP w.heap.size v nD0 64 5 [] x0 e w' → BadP w.heap.size v nD0 2 x0 e w' := fun e w' h => by
        unfold ResP at h
        rwa [if_neg (by rw [hbad]; simp)] at h
      have HRES := Lib.hid (hres.mono hpost)
      clear hr hty hmem hbad hlen hres hpost
      go_wp2_with fail
      refine HRES.out.mono ?_
      rintro e x1 ⟨v1, rfl, hd4, hc4, hn4⟩
      have HXw1 := Lib.hid (HXw0.out.bad hd4 hc4 hn4)
      have HKw1 := Lib.hid (HKw0.out.keep HXw0.out.dk hc4)
      have HRw1 := Lib.hid (hc4.blk HRw0.out (HXw0.out.dk.box HRw0.out (by decide)))
      clear hd4 hc4 hn4 HRES HXw0 HKw0 HRw0 d0
      go_wp2
      rw [rounds_succ]
      obtain ⟨hr, hty, hmem⟩ := HKw1.out.at (k := 1) (v := .slice (some ⟨ra, 0, none⟩) 1 1) (fs := [0]) rfl
      obtain ⟨hbad, hlen⟩ := badFirsts_no _ hmem
      have d0 : x1.cell? ⟨re, 1, none⟩ = some (.slice (some ⟨ra, 0, none⟩) 1 1) := by
        rw [blk_cell HRw1.out]
        rfl
      have hres := resume_any HXw1.out.dk nOk0 (by simp [nD0]) 64 5 _ _ hr (fun b hb hm => by
        obtain ⟨cs, h1⟩ := hty b hb
        exact HXw1.out.dk.box h1 (by decide) hm) (by omega)
      have hpost : ∀ e w', ResP w.heap.size v1 nD0 64 5 [0] x1 e w' → BadP w.heap.size v1 nD0 2 x1 e w' := fun e w' h => by
        unfold ResP at h
        rwa [if_neg (by rw [hbad]; simp)] at h
      have HRES := Lib.hid (hres.mono hpost)
      clear hr hty hmem hbad hlen hres hpost
      go_wp2_with fail
      refine HRES.out.mono ?_
      rintro e x2 ⟨v2, rfl, hd4, hc4, hn4⟩
      have HXw2 := Lib.hid (HXw1.out.bad hd4 hc4 hn4)
      have HKw2 := Lib.hid (HKw1.out.keep HXw1.out.dk hc4)
      have HRw2 := Lib.hid (hc4.blk HRw1.out (HXw1.out.dk.box HRw1.out (by decide)))
      clear hd4 hc4 hn4 HRES HXw1 HKw1 HRw1 d0
      go_wp2
      rw [rounds_succ]
      obtain ⟨hr, hty, hmem⟩ := HKw2.out.at (k := 2) (v := .slice (some ⟨rb, 0, none⟩) 2 2) (fs := [2, 2]) rfl
      obtain ⟨hbad, hlen⟩ := badFirsts_no _ hmem
      have d0 : x2.cell? ⟨re, 2, none⟩ = some (.slice (some ⟨rb, 0, none⟩) 2 2) := by
        rw [blk_cell HRw2.out]
        rfl
      have hres := resume_any HXw2.out.dk nOk0 (by simp [nD0]) 64 5 _ _ hr (fun b hb hm => by
        obtain ⟨cs, h1⟩ := hty b hb
        exact HXw2.out.dk.box h1 (by decide) hm) (by omega)
      have hpost : ∀ e w', ResP w.heap.size v2 nD0 64 5 [2, 2] x2 e w' → BadP w.heap.size v2 nD0 2 x2 e w' := fun e w' h => by
        unfold ResP at h
        rwa [if_neg (by rw [hbad]; simp)] at h
      have HRES := Lib.hid (hres.mono hpost)
      clear hr hty hmem hbad hlen hres hpost
      go_wp2_with fail
      refine HRES.out.mono ?_
      rintro e x3 ⟨v3, rfl, hd4, hc4, hn4⟩
      have HXw3 := Lib.hid (HXw2.out.bad hd4 hc4 hn4)
      have HKw3 := Lib.hid (HKw2.out.keep HXw2.out.dk hc4)
      have HRw3 := Lib.hid (hc4.blk HRw2.out (HXw2.out.dk.box HRw2.out (by decide)))
      clear hd4 hc4 hn4 HRES HXw2 HKw2 HRw2 d0
      go_wp2
      rw [rounds_succ]
      obtain ⟨hr, hty, hmem⟩ := HKw3.out.at (k := 3) (v := .slice (some ⟨rc, 0, none⟩) 2 2) (fs := [3, 2]) rfl
      obtain ⟨hbad, hlen⟩ := badFirsts_no _ hmem
      have d0 : x3.cell? ⟨re, 3, none⟩ = some (.slice (some ⟨rc, 0, none⟩) 2 2) := by
        rw [blk_cell HRw3.out]
        rfl
      have hres := resume_any HXw3.out.dk nOk0 (by simp [nD0]) 64 5 _ _ hr (fun b hb hm => by
        obtain ⟨cs, h1⟩ := hty b hb
        exact HXw3.out.dk.box h1 (by decide) hm) (by omega)
      have hpost : ∀ e w', ResP w.heap.size v3 nD0 64 5 [3, 2] x3 e w' → BadP w.heap.size v3 nD0 2 x3 e w' := fun e w' h => by
        unfold ResP at h
        rwa [if_neg (by rw [hbad]; simp)] at h
      have HRES := Lib.hid (hres.mono hpost)
      clear hr hty hmem hbad hlen hres hpost
      go_wp2_with fail
      refine HRES.out.mono ?_
      rintro e x4 ⟨v4, rfl, hd4, hc4, hn4⟩
      have HXw4 := Lib.hid (HXw3.out.bad hd4 hc4 hn4)
      have HKw4 := Lib.hid (HKw3.out.keep HXw3.out.dk hc4)
      have HRw4 := Lib.hid (hc4.blk HRw3.out (HXw3.out.dk.box HRw3.out (by decide)))
      clear hd4 hc4 hn4 HRES HXw3 HKw3 HRw3 d0
      go_wp2
      rw [rounds_succ]
      obtain ⟨hr, hty, hmem⟩ := HKw4.out.at (k := 4) (v := .slice (some ⟨rd, 0, none⟩) 1 1) (fs := [7]) rfl
      obtain ⟨hbad, hlen⟩ := badFirsts_no _ hmem
      have d0 : x4.cell? ⟨re, 4, none⟩ = some (.slice (some ⟨rd, 0, none⟩) 1 1) := by
        rw [blk_cell HRw4.out]
        rfl
      have hres := resume_any HXw4.out.dk nOk0 (by simp [nD0]) 64 5 _ _ hr (fun b hb hm => by
        obtain ⟨cs, h1⟩ := hty b hb
        exact HXw4.out.dk.box h1 (by decide) hm) (by omega)
      have hpost : ∀ e w', ResP w.heap.size v4 nD0 64 5 [7] x4 e w' → BadP w.heap.size v4 nD0 2 x4 e w' := fun e w' h => by
        unfold ResP at h
        rwa [if_neg (by rw [hbad]; simp)] at h
      have HRES := Lib.hid (hres.mono hpost)
      clear hr hty hmem hbad hlen hres hpost
      go_wp2_with fail
      refine HRES.out.mono ?_
      rintro e x5 ⟨v5, rfl, hd4, hc4, hn4⟩
      have HXw5 := Lib.hid (HXw4.out.bad hd4 hc4 hn4)
      have HKw5 := Lib.hid (HKw4.out.keep HXw4.out.dk hc4)
      have HRw5 := Lib.hid (hc4.blk HRw4.out (HXw4.out.dk.box HRw4.out (by decide)))
      clear hd4 hc4 hn4 HRES HXw4 HKw4 HRw4 d0
      go_wp2
      rw [rounds_succ]
      have HX := HXw5
      clear HKw5 HRw5
      go_wp2_with fail
      refine (begin_nil x5).mono ?_
      rintro e w5 ⟨rfl, hb5⟩
      have HX5 := Lib.hid (HX.out.below hb5)
      clear hb5 HX
      obtain ⟨W5, hW5⟩ : ∃ x, w5.alloc (.cells #[.slice none 0 0, .int .i64 0, .int .i64 0, .bool false, .nilFunc] 85) = x := ⟨_, rfl⟩
      have hb5 : Below w5.heap.size w5 W5 := by rw [← hW5]; exact below1 _ _
      have k5 : W5.heap[w5.heap.size]? = some (.cells #[.slice none 0 0, .int .i64 0, .int .i64 0, .bool false, .nilFunc] 85) := by rw [← hW5]; exact alloc_at _ _
      have HRZ := Lib.hid (resume_zero (W5.alloc (.cells #[.int .i64 1] 3)) w5.heap.size (cell_later (below1 W5 _) (by rw [blk_cell k5]; rfl)) (.slice (some ⟨W5.heap.size, 0, none⟩) 1 1) (some ⟨W5.heap.size, 0, none⟩) 1 1 rfl)
      have HX6 := Lib.hid ((HX5.out.below hb5).below (below1 W5 (.cells #[.int .i64 1] 3)))
      clear hb5 k5 HX5
      go_wp2_with fail
      refine HRZ.out.mono ?_
      rintro e w6 ⟨rfl, hb6⟩
      have HX7 := Lib.hid (HX6.out.below hb6)
      clear hb6 HX6 HRZ hW5
      go_wp2_with fail
      refine (head_any 0 w6).mono ?_
      rintro e w7 ⟨A7, c7, rfl, _, hb7⟩
      rw [nhead.1, show ([] : List UInt8).length = 0 from rfl, if_neg (by unfold inL; omega)]
      have HX8 := Lib.hid (HX7.out.below hb7)
      clear hb7 HX7
      go_wp2_with fail
      refine (head_any 1152921504606846977 w7).mono ?_
      rintro e w8 ⟨A8, c8, rfl, _, hb8⟩
      rw [nhead.2.1, show ([] : List UInt8).length = 0 from rfl, if_neg (by unfold inL; omega)]
      have HX9 := Lib.hid (HX8.out.below hb8)
      clear hb8 HX8
      go_wp2_with fail
      refine (head_any 1 w8).mono ?_
      rintro e w9 ⟨A9, c9, rfl, hby, hb9⟩
      rw [nhead.2.2.1, if_pos (by unfold inL; omega)]
      rw [nhead.2.2.1] at hby
      have HX10 := Lib.hid (HX9.out.below hb9)
      obtain ⟨b9, o9, rfl, d1, d2⟩ : ∃ b o, A9 = some ⟨b, o, none⟩ ∧ w9.cell? ⟨b, o + 1, none⟩ = some (.int .u8 0) ∧ w9.cell? ⟨b, o + 2, none⟩ = some (.int .u8 1) := by
        rcases hby.reads with ⟨_, h⟩ | ⟨b, o, c, h, _, _, _, h4⟩
        · have := congrArg List.length h
          rw [nhead.2.2.1] at this
          cases this
        · injection h with h
          exact ⟨b, o, h, h4 1 0 nhead.2.2.2.1, h4 2 1 nhead.2.2.2.2⟩
      clear hb9 HX9 hby
      go_upto_region 25 with fail
      clear d1 d2
      go_wp2_with fail
      refine (bytes_any 1 (.slice none 0 0) [] w9 (.inl ⟨none, 0, rfl, Nat.zero_le _, rfl⟩) (by intro y hy; cases hy)).mono ?_
      rintro e w10 ⟨z10, rfl, hby, hb⟩
      rw [nbatch.1] at hby ⊢
      obtain ⟨A10, c10, rfl⟩ := bytes_form hby
      have HX11 := Lib.hid (HX10.out.below hb)
      clear hby hb HX10
      go_wp2_with fail
      refine (recs_any w10.heap.size [⟨#[97]⟩] _ (lit_string w10 _) (by intro s hs; simp at hs; subst hs; simp [ByteArray.size]) (by simp)).mono ?_
      rintro e w11 ⟨v11, rfl, hr11, hb⟩
      have hr11 : RdL w11 v11 [[97]] := hr11
      obtain ⟨A11, c11, rfl, _, _⟩ := hr11.form
      have HX12 := Lib.hid ((HX11.out.below (below1 w10 _)).below hb)
      have HB11 := Lib.hid (bytes_any 0 _ [[97]] w11 hr11 (by intro y hy; simp at hy; subst hy; simp))
      clear hr11 hb HX11
      go_wp2_with fail
      refine HB11.out.mono ?_
      rintro e w12 ⟨z12, rfl, hby, hb⟩
      rw [nbatch.2.1] at hby ⊢
      obtain ⟨A12, c12, rfl⟩ := bytes_form hby
      have HX13 := Lib.hid (HX12.out.below hb)
      clear hby hb HX12 HB11
      have hmk := make_rows w12 1001 (by omega)
      obtain ⟨R1, hR1⟩ : ∃ x, (List.replicate 1001 (Value.slice none 0 0)).toArray = x := ⟨_, rfl⟩
      rw [hR1] at hmk
      obtain ⟨W13, hW13⟩ : ∃ x, w12.alloc (.cells R1 53) = x := ⟨_, rfl⟩
      have hmk : Sem.run Tryz.prog (Instr.makeSlice 22 (.int .i64 1001) (.int .i64 1001)) w12 = .ok (.slice (some ⟨w12.heap.size, 0, none⟩) 1001 1001) W13 := by rw [← hW13]; exact hmk
      have hk13 : W13.heap[w12.heap.size]? = some (.cells (List.replicate 1001 (Value.slice none 0 0)).toArray 53) := by rw [← hW13, hR1]; exact alloc_at _ _
      have HB13 := Lib.hid (bytes_any 1 _ _ W13 (rdL_nils (by omega) hk13) (by intro y hy; rw [List.eq_of_mem_replicate hy]; simp))
      have HX14 : Hid (DX w W13 w.heap.size nD0 v5) := Lib.hid (HX13.out.below (by rw [← hW13]; exact below1 _ _))
      clear hR1 hW13 hk13 HX13
      go_wp2_with fail
      refine HB13.out.mono ?_
      rintro e w14 ⟨z14, rfl, hby, hb⟩
      rw [nbatch.2.2.1] at hby ⊢
      obtain ⟨A14, c14, rfl⟩ := bytes_form hby
      have HX15 := Lib.hid (HX14.out.below hb)
      clear hby hb HX14 HB13 hmk
      have hmk := make_bytes w14 1048572 (by omega)
      obtain ⟨X, hX⟩ : ∃ x, List.replicate 1048572 (0 : UInt8) = x := ⟨_, rfl⟩
      have hXl : X.length = 1048572 := by rw [← hX, List.length_replicate]
      have hE := nbatch.2.2.2.1
      rw [hX] at hE hmk
      have hkr := (lit_bytes w14 X (by rw [hXl]; simp [maxLen])).reads
      rw [hXl] at hkr
      obtain ⟨V15, hV⟩ : ∃ x, w14.alloc (.cells (Lib.byteCells X).toArray 5) = x := ⟨_, rfl⟩
      rw [hV] at hkr
      have hmk : Sem.run Tryz.prog (Instr.makeSlice 53 (.int .i64 1048572) (.int .i64 1048572)) w14 = .ok (.slice (some ⟨w14.heap.size, 0, none⟩) 1048572 1048572) V15 := by rw [← hV]; exact hmk
      have hbV : Below w14.heap.size w14 V15 := by rw [← hV]; exact below1 _ _
      have hrl : RdL (V15.alloc (.cells #[.slice (some ⟨w14.heap.size, 0, none⟩) 1048572 1048572] 53)) (.slice (some ⟨V15.heap.size, 0, none⟩) 1 1) [X] := rdL_one (y := X) (n := w14.heap.size) (c := 1048572) (by rw [hXl]; exact alloc_at _ _) (by rw [hXl]; exact hkr.below (below1 _ _))
      have HB15 := Lib.hid (bytes_any 1 _ [X] _ hrl (by intro y hy; simp at hy; subst hy; rw [hXl]; omega))
      have HX16 := Lib.hid ((HX15.out.below hbV).below (below1 V15 (.cells #[.slice (some ⟨w14.heap.size, 0, none⟩) 1048572 1048572] 53)))
      clear hX hXl hkr hbV hrl hV HX15
      go_wp2_with fail
      refine HB15.out.mono ?_
      rintro e w15 ⟨z15, rfl, hby, hb⟩
      rw [hE] at hby ⊢
      obtain ⟨A15, c15, rfl⟩ := bytes_form hby
      have HX16b := Lib.hid (HX16.out.below hb)
      clear hby hb HX16 HB15 hmk hE
      have hmk := make_bytes w15 1048571 (by omega)
      obtain ⟨X, hX⟩ : ∃ x, List.replicate 1048571 (0 : UInt8) = x := ⟨_, rfl⟩
      have hXl : X.length = 1048571 := by rw [← hX, List.length_replicate]
      have hE := nbatch.2.2.2.2
      rw [hX] at hE hmk
      have hkr := (lit_bytes w15 X (by rw [hXl]; simp [maxLen])).reads
      rw [hXl] at hkr
      obtain ⟨V16, hV⟩ : ∃ x, w15.alloc (.cells (Lib.byteCells X).toArray 5) = x := ⟨_, rfl⟩
      rw [hV] at hkr
      have hmk : Sem.run Tryz.prog (Instr.makeSlice 53 (.int .i64 1048571) (.int .i64 1048571)) w15 = .ok (.slice (some ⟨w15.heap.size, 0, none⟩) 1048571 1048571) V16 := by rw [← hV]; exact hmk
      have hbV : Below w15.heap.size w15 V16 := by rw [← hV]; exact below1 _ _
      have hrl : RdL (V16.alloc (.cells #[.slice (some ⟨w15.heap.size, 0, none⟩) 1048571 1048571] 53)) (.slice (some ⟨V16.heap.size, 0, none⟩) 1 1) [X] := rdL_one (y := X) (n := w15.heap.size) (c := 1048571) (by rw [hXl]; exact alloc_at _ _) (by rw [hXl]; exact hkr.below (below1 _ _))
      have HB16 := Lib.hid (bytes_any 1 _ [X] _ hrl (by intro y hy; simp at hy; subst hy; rw [hXl]; omega))
      have HX17 := Lib.hid ((HX16b.out.below hbV).below (below1 V16 (.cells #[.slice (some ⟨w15.heap.size, 0, none⟩) 1048571 1048571] 53)))
      clear hX hXl hkr hbV hrl hV HX16b
      go_wp2_with fail
      refine HB16.out.mono ?_
      rintro e w16 ⟨z16, rfl, hby, hb⟩
      rw [hE] at hby ⊢
      obtain ⟨A16, c16, rfl⟩ := bytes_form hby
      have HX17b := Lib.hid (HX17.out.below hb)
      clear hby hb HX17 HB16 hmk hE
      -- obtain ⟨L16, hL16⟩ : ∃ n, (if (0 : Int) = 0 then batchB (1 : Int).toNat [X] else []).length = n := ⟨_, rfl⟩
      go_wp2_with fail
      refine (none_any (.slice none 0 0) [] w16 (.inl ⟨rfl, rfl⟩) (by simp) nparse.1).mono ?_
      rintro e w17 ⟨rfl, hb⟩
      have HX18 := Lib.hid (HX17b.out.below hb)
      clear hb HX17b
      have hlit : RdB (w17.alloc (.cells #[.int .u8 0, .int .u8 1, .int .u8 0] 5)) (.slice (some ⟨w17.heap.size, 0, none⟩) 3 3) [0, 1, 0] := (lit_bytes w17 [0, 1, 0] (by simp [maxLen])).reads
      have HN := Lib.hid (none_any _ [0, 1, 0] _ hlit (by simp) nparse.2.1)
      have HX18a := Lib.hid (HX18.out.below (below1 w17 (.cells #[.int .u8 0, .int .u8 1, .int .u8 0] 5)))
      clear hlit HX18
      go_wp2_with fail
      refine HN.out.mono ?_
      rintro e w18 ⟨rfl, hb⟩
      have HX19 := Lib.hid (HX18a.out.below hb)
      clear hb HN HX18a
      have hlit : RdB (w18.alloc (.cells #[.int .u8 1, .int .u8 0] 5)) (.slice (some ⟨w18.heap.size, 0, none⟩) 2 2) [1, 0] := (lit_bytes w18 [1, 0] (by simp [maxLen])).reads
      have HN := Lib.hid (none_any _ [1, 0] _ hlit (by simp) nparse.2.2.1)
      have HX19a := Lib.hid (HX19.out.below (below1 w18 (.cells #[.int .u8 1, .int .u8 0] 5)))
      clear hlit HX19
      go_wp2_with fail
      refine HN.out.mono ?_
      rintro e w19 ⟨rfl, hb⟩
      have HX20 := Lib.hid (HX19a.out.below hb)
      clear hb HN HX19a
      have hlit : RdB (w19.alloc (.cells #[.int .u8 1, .int .u8 1] 5)) (.slice (some ⟨w19.heap.size, 0, none⟩) 2 2) [1, 1] := (lit_bytes w19 [1, 1] (by simp [maxLen])).reads
      have HN := Lib.hid (none_any _ [1, 1] _ hlit (by simp) nparse.2.2.2.1)
      have HX20a := Lib.hid (HX20.out.below (below1 w19 (.cells #[.int .u8 1, .int .u8 1] 5)))
      clear hlit HX20
      go_wp2_with fail
      refine HN.out.mono ?_
      rintro e w20 ⟨rfl, hb⟩
      have HX21 := Lib.hid (HX20a.out.below hb)
      clear hb HN HX20a
      have hlit : RdB (w20.alloc (.cells #[.int .u8 1, .int .u8 1, .int .u8 1] 5)) (.slice (some ⟨w20.heap.size, 0, none⟩) 3 3) [1, 1, 1] := (lit_bytes w20 [1, 1, 1] (by simp [maxLen])).reads
      have HN := Lib.hid (none_any _ [1, 1, 1] _ hlit (by simp) nparse.2.2.2.2.1)
      have HX21a := Lib.hid (HX21.out.below (below1 w20 (.cells #[.int .u8 1, .int .u8 1, .int .u8 1] 5)))
      clear hlit HX21
      go_wp2_with fail
      refine HN.out.mono ?_
      rintro e w21 ⟨rfl, hb⟩
      have HX22 := Lib.hid (HX21a.out.below hb)
      clear hb HN HX21a
      have hlit : RdB (w21.alloc (.cells #[.int .u8 1, .int .u8 1, .int .u8 0, .int .u8 0] 5)) (.slice (some ⟨w21.heap.size, 0, none⟩) 4 4) [1, 1, 0, 0] := (lit_bytes w21 [1, 1, 0, 0] (by simp [maxLen])).reads
      have HN := Lib.hid (none_any _ [1, 1, 0, 0] _ hlit (by simp) nparse.2.2.2.2.2.1)
      have HX22a := Lib.hid (HX22.out.below (below1 w21 (.cells #[.int .u8 1, .int .u8 1, .int .u8 0, .int .u8 0] 5)))
      clear hlit HX22
      go_wp2_with fail
      refine HN.out.mono ?_
      rintro e w22 ⟨rfl, hb⟩
      have HX23 := Lib.hid (HX22a.out.below hb)
      clear hb HN HX22a
      have hlit : RdB (w22.alloc (.cells #[.int .u8 129, .int .u8 0, .int .u8 1, .int .u8 0] 5)) (.slice (some ⟨w22.heap.size, 0, none⟩) 4 4) [129, 0, 1, 0] := (lit_bytes w22 [129, 0, 1, 0] (by simp [maxLen])).reads
      have HN := Lib.hid (none_any _ [129, 0, 1, 0] _ hlit (by simp) nparse.2.2.2.2.2.2)
      have HX23a := Lib.hid (HX23.out.below (below1 w22 (.cells #[.int .u8 129, .int .u8 0, .int .u8 1, .int .u8 0] 5)))
      clear hlit HX23
      go_wp2_with fail
      refine HN.out.mono ?_
      rintro e w23 ⟨rfl, hb⟩
      have HX24 := Lib.hid (HX23a.out.below hb)
      clear hb HN HX23a
      go_wp2_with fail
      refine (begin_ok HX24.out.dk nOk0 (by simp [nD0]) 64 4 (by omega) (by omega) (by omega) (by omega)).mono ?_
      rintro e w24 ⟨l, S0, rfl, _, hlb, hsub, hc⟩
      have H24 : Hid (AX w w24 w.heap.size l nD0 nL0 S0) := AX.from HX24.out hlb hsub hc
      clear hlb hsub hc HX24
      go_wp2_with fail
      refine (recs_any w24.heap.size [⟨#[120]⟩] _ (lit_string w24 _) (by intro s hs; simp at hs; subst hs; simp [ByteArray.size]) (by simp)).mono ?_
      rintro e w25 ⟨v25, rfl, hr25, hb⟩
      have hr25 : RdL w25 v25 nR1 := hr25
      obtain ⟨A25, c25, rfl, _, _⟩ := hr25.form
      have H25 := Lib.hid ((H24.out.below (below1 w24 _)).below hb)
      have HR25 := Lib.hid hr25
      clear hr25 hb H24
      go_wp2_with fail
      refine (write_any H25.out.lb nOk0 (by simp [nD0]) H25.out.gb (by simp [nL0]) (by simp [nL0]) (by simp [nL0]) _ nR1 HR25.out (by intro y hy; simp [nR1] at hy; subst hy; simp)).mono ?_
      rintro e w26 ⟨rfl, hl26⟩
      obtain ⟨S26, h26⟩ := H25.out.step hl26
      have H26 : Hid (AX w w26 w.heap.size l nW1.1 nW1.2.1 S26) := h26
      rw [show (lWrite nD0 nL0 nR1).2.2.1 = 5 from congrArg Prod.fst nw1.1, show (lWrite nD0 nL0 nR1).2.2.2 = 0 from congrArg Prod.snd nw1.1]
      clear hl26 h26 H25 HR25
      have hmk := make_bytes w26 90 (by omega)
      obtain ⟨X, hX⟩ : ∃ x, List.replicate 90 (0 : UInt8) = x := ⟨_, rfl⟩
      have hXl : X.length = 90 := by rw [← hX, List.length_replicate]
      have hnr : nR2 = [X] := by rw [← hX]; rfl
      rw [hX] at hmk
      have hkr := (lit_bytes w26 X (by rw [hXl]; simp [maxLen])).reads
      rw [hXl] at hkr
      obtain ⟨V26, hV⟩ : ∃ x, w26.alloc (.cells (Lib.byteCells X).toArray 5) = x := ⟨_, rfl⟩
      rw [hV] at hkr
      have hmk : Sem.run Tryz.prog (Instr.makeSlice 53 (.int .i64 90) (.int .i64 90)) w26 = .ok (.slice (some ⟨w26.heap.size, 0, none⟩) 90 90) V26 := by rw [← hV]; exact hmk
      have hbV : Below w26.heap.size w26 V26 := by rw [← hV]; exact below1 _ _
      have hrl : RdL (V26.alloc (.cells #[.slice (some ⟨w26.heap.size, 0, none⟩) 90 90] 53)) (.slice (some ⟨V26.heap.size, 0, none⟩) 1 1) nR2 := by
        rw [hnr]
        exact rdL_one (y := X) (n := w26.heap.size) (c := 90) (by rw [hXl]; exact alloc_at _ _) (by rw [hXl]; exact hkr.below (below1 _ _))
      have H27 := Lib.hid ((H26.out.below hbV).below (below1 V26 (.cells #[.slice (some ⟨w26.heap.size, 0, none⟩) 90 90] 53)))
      have hnl : nW1.2.1.last = 5 ∧ nW1.2.1.firsts = [5] := ⟨nw1.2.2.1, nw1.2.2.2.2⟩
      have HWR := Lib.hid (write_any H27.out.lb nOk1 (by rw [nw1.2.2.2.1]; omega) H27.out.gb (by rw [hnl.1]; omega) (by rw [hnl.1]; omega) (by rw [hnl.2]; simp) _ nR2 hrl (by rw [hnr]; intro y hy; simp at hy; subst hy; rw [hXl]; omega))
      clear hX hXl hnr hkr hbV hrl hV hnl H26
      go_wp2_with fail
      refine HWR.out.mono ?_
      rintro e w28 ⟨rfl, hl28⟩
      obtain ⟨S28, h28⟩ := H27.out.step hl28
      have H28 : Hid (AX w w28 w.heap.size l nW2.1 nW2.2.1 S28) := h28
      rw [show (lWrite nW1.1 nW1.2.1 nR2).2.2.1 = 0 from congrArg Prod.fst nw2.1, show (lWrite nW1.1 nW1.2.1 nR2).2.2.2 = 5 from congrArg Prod.snd nw2.1]
      clear hl28 h28 H27 HWR hmk
      go_wp2_with fail
      refine (recs_any w28.heap.size [⟨#[121]⟩] _ (lit_string w28 _) (by intro s hs; simp at hs; subst hs; simp [ByteArray.size]) (by simp)).mono ?_
      rintro e w29 ⟨v29, rfl, hr29, hb⟩
      have hr29 : RdL w29 v29 [[121]] := hr29
      obtain ⟨A29, c29, rfl, _, _⟩ := hr29.form
      have H29 := Lib.hid ((H28.out.below (below1 w28 _)).below hb)
      clear hr29 hb H28
      have hov : nW2.2.1.over = true := nw2.2.1
      have HOV := Lib.hid hov
      clear hov
      go_wp2_with fail
      refine (write_ov H29.out.lb HOV.out _).mono ?_
      rintro e w30 ⟨rfl, hb⟩
      have H30 := Lib.hid (H29.out.below hb)
      clear hb H29
      go_wp2_with fail
      refine (logsync_ov H30.out.lb HOV.out).mono ?_
      rintro e w31 ⟨rfl, hb⟩
      have H31 := Lib.hid (H30.out.below hb)
      clear hb H30
      go_wp2_with fail
      refine (trim_over H31.out.lb HOV.out 9).mono ?_
      rintro e w32 ⟨rfl, hb⟩
      have H32 := Lib.hid (H31.out.below hb)
      clear hb H31
      go_wp2_with fail
      refine (over_any H32.out.lb).mono ?_
      rintro e w' ⟨rfl, hw⟩
      subst hw
      rw [HOV.out]
      go_wp2_with fail
      refine (last_any H32.out.lb).mono ?_
      rintro e w' ⟨rfl, hw⟩
      subst hw
      rw [nw2.2.2.1]
      go_wp2_with fail
      refine (acked_any H32.out.lb).mono ?_
      rintro e w' ⟨rfl, hw⟩
      subst hw
      rw [nw2.2.2.2.1]
      go_wp2_with fail
      refine (files_any H32.out.lb H32.out.gb (by rw [nw2.2.2.2.2.1]; simp)).mono ?_
      rintro e w33 ⟨v33, rfl, ho33, hb33⟩
      rw [nfiles] at ho33
      obtain ⟨A33, c33, rfl⟩ := ho33.form
      have H33 := Lib.hid ((H32.out.below hb33).below (below1 w33 (.cells #[.string w5N] 9)))
      have HT33 := Lib.hid (rdT_own (ho33.keep mS_law (Stay.below (below1 w33 (.cells #[.string w5N] 9)))))
      have HL33 : Hid (RdT (w33.alloc (.cells #[.string w5N] 9)) (.slice (some ⟨w33.heap.size, 0, none⟩) 1 1) [w5N]) := .inr ⟨w33.heap.size, 0, 1, rfl, by simp, by simp [maxLen], fun j s hs => by rw [Nat.zero_add]; exact lit_string w33 w5N j s hs⟩
      clear ho33 hb33 H32
      go_wp2_with fail
      refine (sameTexts_any _ _ [w5N] [w5N] _ HT33.out HL33.out).mono ?_
      rintro e w34 ⟨rfl, hb34⟩
      rw [show decide (([w5N] : List ByteArray) = [w5N]) = true from by simp]
      have H34 := Lib.hid (H33.out.below hb34)
      clear hb34 H33 HT33 HL33
      go_wp2_with fail
      refine (names_any w34 H34.out.gb.gok).mono ?_
      rintro e w35 ⟨rfl, hb35⟩
      have H35 := Lib.hid (H34.out.below hb35)
      clear hb35 H34
      go_wp2_with fail
      refine (awake_any w35 H35.out.gb.gok).mono ?_
      rintro e w36 ⟨rfl, hb36⟩
      have HB36 := Lib.hid (H35.out.be.trans (hb36.mono H35.out.be.size))
      clear hb36 H35
      go_wp2_with fail
      exact bodyPost_ret (v := .bool true) (by simp [results]) rfl ⟨rfl, HB36.out⟩
end Go.Proofs.YthehpafkaefohaaGreatDoor

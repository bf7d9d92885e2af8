/- The law LogForms walked: what it holds against one another. Conditions: the library's variables read as they are laid. -/
import Derived.Test.YthehpafkaefohaaGreatDoorCkM24
import Derived.Test.YthehpafkaefohaaGreatDoorCkLgH1
import Derived.Test.YthehpafkaefohaaGreatDoorCkLgG8
namespace Go.Proofs.YthehpafkaefohaaGreatDoor
open Go.RowKit
theorem firstL_name (n : Int) : firstL (nameL n) = if inL n then (n, true) else (0, false) := by
  by_cases h : inL n
  · rw [if_pos h]
    have hd := nameL_data h
    have hn : 1 ≤ n ∧ n ≤ 1152921504606846976 := h
    have hsz : (nameL n).size = (Lib.itoa n).length + 1 := by
      show (nameL n).data.size = _
      rw [← Array.length_toList, hd]; rfl
    have h1 : ((nameL n).extract 0 1).data.toList = [119] := by
      rw [ByteArray.data_extract, Array.toList_extract, hd]
      simp
    have h2 : ((nameL n).extract 1 (nameL n).size).data.toList = Lib.itoa n := by
      rw [ByteArray.data_extract, Array.toList_extract, hd, hsz]
      simp
    have hc : cutW (nameL n) = ((nameL n).extract 1 (nameL n).size, true) := by
      unfold cutW
      rw [if_pos ⟨by omega, by rw [ByteArray.toList_eq, h1]⟩]
    unfold firstL
    rw [hc]
    simp only
    rw [h2, atoi_itoa (by omega) (by omega)]
    simp
  · rw [if_neg h]
    have hn : nameL n = ⟨#[]⟩ := by unfold nameL; rw [if_neg h]
    have hc : cutW (nameL n) = (nameL n, false) := by
      unfold cutW
      rw [if_neg (fun h => by rw [hn] at h; simp [ByteArray.size] at h)]
    unfold firstL
    rw [hc]
    simp only
    split <;> simp
theorem smallV_iff (yss : List (List UInt8)) : smallV yss = true ↔ yss.length ≤ 20 ∧ ∀ y ∈ yss, y.length ≤ 60 := by
  unfold smallV
  simp
theorem batchE_zero {n : Int} {l : List (List UInt8)} (h : batchE n l = 0) : 1 ≤ n ∧ n ≤ 1152921504606846976 ∧ 1 ≤ l.length ∧ l.length ≤ 1000 := by
  unfold batchE at h
  split at h
  · simp at h
  · omega
/-- unlike batches have unlike bytes -/
theorem batch_same {n m : Int} {a b : List (List UInt8)} (ha : batchE n a = 0) (hb : batchE m b = 0) (sa : smallV a = true) (sb : smallV b = true) : decide ((batchB n.toNat a) = (batchB m.toNat b)) = decide ([(n, a)] = [(m, b)]) := by
  obtain ⟨a1, a2, a3, a4⟩ := batchE_zero ha
  obtain ⟨b1, b2, b3, b4⟩ := batchE_zero hb
  obtain ⟨_, s1⟩ := (smallV_iff a).1 sa
  obtain ⟨_, s2⟩ := (smallV_iff b).1 sb
  by_cases h : batchB n.toNat a = batchB m.toNat b
  · obtain ⟨h1, h2⟩ := batch_inj (by omega) (by omega) (by omega) (by omega) (fun x hx => by have := s1 x hx; omega) (fun x hx => by have := s2 x hx; omega) h
    subst h2
    have : n = m := by omega
    subst this
    simp
  · rw [decide_eq_false h]
    symm
    refine decide_eq_false fun e => h ?_
    injection e with e
    injection e with e1 e2
    rw [e1, e2]
theorem parse_bytes {ys : List UInt8} {n : Nat} {l : List (List UInt8)} (h : parseB ys = some (n, l)) : batchE n l = 0 ∧ batchB n l = ys := by
  obtain ⟨h1, h2, h3, h4, h5, h6⟩ := parse_back h
  refine ⟨?_, h1.symm⟩
  unfold batchE
  rw [if_neg (by omega), Int.toNat_natCast, ← h1, if_neg (by omega)]
theorem rec_le (n : Nat) : ∀ {l : List (List UInt8)} {y : List UInt8}, y ∈ l → y.length ≤ (batchB n l).length := by
  intro l y hy
  have h : y.length ≤ (l.flatMap blobB).length := by
    induction l with
    | nil => cases hy
    | cons a l ih =>
      rw [List.flatMap_cons, List.length_append]
      rcases List.mem_cons.1 hy with rfl | hy
      · unfold blobB
        simp only [List.length_append]
        omega
      · have := ih hy
        omega
  unfold batchB
  simp only [List.length_append]
  omega
/-- a row of one batch -/
theorem bt_one {w : World} {b : Nat} {n : Int} {v : Value} {l : List (List UInt8)} (h : w.heap[b]? = some (.cells #[.int .i64 n, v] 52)) (hr : RdL w v l) : RdBt w (.slice (some ⟨b, 0, none⟩) 1 1) [(n, l)] := by
  refine .inr ⟨b, 0, 1, rfl, Nat.le_refl _, by simp only [maxLen]; omega, fun j x hj => ?_⟩
  match j, hj with
  | 0, hj =>
    have e : (n, l) = x := by simpa using hj
    subst e
    refine ⟨v, ?_, ?_, hr⟩
    · rw [show (0 : Nat) + 0 * 2 = 0 from rfl, blk_cell h 0]; rfl
    · rw [show (0 : Nat) + 0 * 2 + 1 = 1 from rfl, blk_cell h 1]; rfl
theorem bytes_some {base : Nat} {w : World} {v : Value} {x : UInt8} {xs : List UInt8} (h : Bytes base w v (x :: xs)) : ∃ g c, v = .slice (some ⟨g, 0, none⟩) (xs.length + 1) c ∧ w.cell? ⟨g, 0, none⟩ = some (.int .u8 x.toNat) ∧ base ≤ g := by
  rcases h.2 with ⟨_, h2⟩ | ⟨g, cap, cur, rfl, hb, hh, h3, h4, h5, h6⟩
  · simp at h2
  · refine ⟨g, cap, rfl, ?_, hb⟩
    have := h.reads
    rcases this with ⟨h7, _⟩ | ⟨b, o, c, hv, _, _, _, hc⟩
    · cases h7
    · injection hv with hv
      injection hv with hv
      injection hv with h8 h9
      subst h8
      subst h9
      have := hc 0 x rfl
      simpa using this
end Go.Proofs.YthehpafkaefohaaGreatDoor
namespace Go.Proofs.YthehpafkaefohaaGreatDoor
open Go.RowKit
def F1 (w : World) (u : Value) (wx : World) : Prop := u = .bool false ∧ Below w.heap.size w wx
set_option maxRecDepth 20000 in
set_option maxHeartbeats 4000000 in
theorem logForms_any (an bn first : Int) (va vb vc : Value) (ar br : List (List UInt8)) (ys : List UInt8) (w : World) (hra : RdL w va ar) (hrb : RdL w vb br) (hrc : RdB w vc ys) (hg : GOK w) :
    Calls Tryz.prog 5 #[.agg #[.int .i64 an, va], .agg #[.int .i64 bn, vb], vc, .int .i64 first] w fun e w' => e = .returned (.bool true) ∧ Below w.heap.size w w' := by
  obtain ⟨W1, hW1⟩ : ∃ x, w.alloc (.cells #[.int .i64 an, va] 52) = x := ⟨_, rfl⟩
  have hb1 : Below w.heap.size w W1 := by rw [← hW1]; exact below1 w _
  have k1 : W1.heap[w.heap.size]? = some (.cells #[.int .i64 an, va] 52) := by rw [← hW1]; exact alloc_at _ _
  obtain ⟨W2, hW2⟩ : ∃ x, W1.alloc (.cells #[.int .i64 bn, vb] 52) = x := ⟨_, rfl⟩
  have hb2 : Below W1.heap.size W1 W2 := by rw [← hW2]; exact below1 W1 _
  have k2 : W2.heap[W1.heap.size]? = some (.cells #[.int .i64 bn, vb] 52) := by rw [← hW2]; exact alloc_at _ _
  have hb3 := hb1.trans (hb2.mono hb1.size)
  have HB2 := Lib.hid hb3
  have K1 := Lib.hid (blk_below hb2 k1)
  have K2 := Lib.hid k2
  have hsa := small_any va ar W2 (hra.below hb3)
  have hsb := small_any vb br W2 (hrb.below hb3)
  have HAW := Lib.hid (awake_any W2 (hg.below hb3))
  have HRA := Lib.hid hra
  have HRB := Lib.hid hrb
  have HRC := Lib.hid hrc
  have HG := Lib.hid hg
  have hba := fun (hs : smallV ar = true) (w2 : World) (hb2 : Below w.heap.size w w2) => bytes_any an va ar w2 (hra.below hb2) (fun y hy => by have := ((smallV_iff ar).1 hs).2 y hy; omega)
  have hbb := fun (hs : smallV br = true) (w2 : World) (hb2 : Below w.heap.size w w2) => bytes_any bn vb br w2 (hrb.below hb2) (fun y hy => by have := ((smallV_iff br).1 hs).2 y hy; omega)
  unfold BPost at hba hbb
  have hsame := fun (sa : smallV ar = true) (sb : smallV br = true) (ha : batchE an ar = 0) (hb : batchE bn br = 0) => batch_same ha hb sa sb
  obtain ⟨EA, hEA⟩ : ∃ x, batchE an ar = x := ⟨_, rfl⟩
  obtain ⟨EB, hEB⟩ : ∃ x, batchE bn br = x := ⟨_, rfl⟩
  have hfst := fun (ha : batchE an ar = 0) => batch_first (n := an.toNat) (by have := batchE_zero ha; omega) ar
  rw [hEA] at hba hsame hfst
  rw [hEB] at hbb hsame
  obtain ⟨XA, hXA⟩ : ∃ x, (if EA = 0 then batchB an.toNat ar else []) = x := ⟨_, rfl⟩
  obtain ⟨XB, hXB⟩ : ∃ x, (if EB = 0 then batchB bn.toNat br else []) = x := ⟨_, rfl⟩
  rw [hXA] at hba
  rw [hXB] at hbb
  have HBA := Lib.hid hba
  have HBB := Lib.hid hbb
  have HSM := Lib.hid hsame
  have HFS := Lib.hid hfst
  have HXA := Lib.hid hXA
  have HXB := Lib.hid hXB
  clear hba hbb hsame hfst hEA hEB hXA hXB
  obtain ⟨qa, hqa⟩ : ∃ q, smallV ar = q := ⟨_, rfl⟩
  obtain ⟨qb, hqb⟩ : ∃ q, smallV br = q := ⟨_, rfl⟩
  rw [hqa] at hsa
  rw [hqb] at hsb
  have HSA := Lib.hid hsa
  have HSB := Lib.hid hsb
  have HQA := Lib.hid hqa
  have HQB := Lib.hid hqb
  obtain ⟨A, c, rfl, _, _⟩ := hra.form
  obtain ⟨B, d, rfl, _, _⟩ := hrb.form
  obtain ⟨C, f, rfl, _, _⟩ := hrc.form
  obtain ⟨La, hLa⟩ : ∃ L, ar.length = L := ⟨_, rfl⟩
  obtain ⟨Lb, hLb⟩ : ∃ L, br.length = L := ⟨_, rfl⟩
  obtain ⟨Lc, hLc⟩ : ∃ L, ys.length = L := ⟨_, rfl⟩
  have HLC := Lib.hid hLc
  rw [hLa] at hW1 K1 HSA HRA HBA ⊢
  rw [hLb] at hW2 K2 HSB HRB HBB ⊢
  rw [hLc] at HRC ⊢
  have d0 := blk_cell K1.out 0
  have d1 := blk_cell K1.out 1
  have d2 := blk_cell K2.out 0
  have d3 := blk_cell K2.out 1
  simp at d0 d1 d2 d3
  obtain ⟨pb, hpb⟩ : ∃ p, W1.heap.size = p := ⟨_, rfl⟩
  have HPB := Lib.hid hpb
  rw [hpb] at d2 d3 K2
  clear hb1 k1 hb2 k2 hb3 hsa hsb hra hrb hrc hg hqa hqb hLa hLb hLc
  go_enter Tryz.func5, Tryz.ntmps5
  go_upto_region 1 with fail
  clear hW1 hW2 hpb
  by_cases hq : qa = true ∧ qb = true ∧ Lc ≤ 1000
  case neg =>
    have hq' : qa = false ∨ (qa = true ∧ qb = false) ∨ (qa = true ∧ qb = true ∧ (1000 : Int) < Lc) := by
      cases qa
      · exact .inl rfl
      · cases qb
        · exact .inr (.inl ⟨rfl, rfl⟩)
        · exact .inr (.inr ⟨rfl, rfl, by simp at hq; omega⟩)
    clear hq
    rcases hq' with rfl | ⟨rfl, rfl⟩ | ⟨rfl, rfl, h3⟩
    all_goals (
      go_upto_region 2 with (go_at_call 24; first | ((with_reducible refine HSA.out.mono ?_); rintro e w9 ⟨rfl, hw⟩; subst hw) | ((with_reducible refine HSB.out.mono ?_); rintro e w9 ⟨rfl, hw⟩; subst hw))
      go_wp2_with (go_at_call 21; (with_reducible refine HAW.out.mono ?_); rintro e w9 ⟨rfl, hb⟩; have HB9 := Lib.hid (HB2.out.trans (hb.mono HB2.out.size)); clear hb)
      exact bodyPost_ret (v := .bool true) (by simp [results]) rfl ⟨rfl, HB9.out⟩)
  case pos =>
    obtain ⟨rfl, rfl, h3⟩ := hq
    have h3i : ¬ (1000 : Int) < Lc := by omega
    have HL : Hid (ys.length ≤ 140737488355328) := by show _ ≤ _; rw [HLC.out]; omega
    clear h3
    go_upto_region 3 with (go_at_call 24; first | ((with_reducible refine HSA.out.mono ?_); rintro e w9 ⟨rfl, hw⟩; subst hw) | ((with_reducible refine HSB.out.mono ?_); rintro e w9 ⟨rfl, hw⟩; subst hw))
    go_upto_region 4 with (go_at_call 30; refine (HBA.out HQA.out _ HB2.out).mono ?_; rintro e w3 ⟨v1, rfl, hy1, hb3⟩; obtain ⟨A1, c1, rfl⟩ := bytes_form hy1; have HY1 := Lib.hid hy1; have HB3 := Lib.hid (HB2.out.trans (hb3.mono HB2.out.size)); have K1' := Lib.hid (blk_below hb3 K1.out); have K2' := Lib.hid (blk_below hb3 K2.out); clear hy1 hb3 K1 K2 HBA HB2)
    have d0 := blk_cell K1'.out 0
    have d1 := blk_cell K1'.out 1
    have d2 := blk_cell K2'.out 0
    have d3 := blk_cell K2'.out 1
    simp at d0 d1 d2 d3
    go_upto_region 5 with (go_at_call 30; refine (HBB.out HQB.out _ HB3.out).mono ?_; rintro e w4 ⟨v2, rfl, hy2, hb4⟩; obtain ⟨A2, c2, rfl⟩ := bytes_form hy2; have HY2 := Lib.hid hy2; have HY1' := Lib.hid (HY1.out.below hb4); have HB4 := Lib.hid (HB3.out.trans (hb4.mono HB3.out.size)); have K1 := Lib.hid (blk_below hb4 K1'.out); have K2 := Lib.hid (blk_below hb4 K2'.out); clear hy2 hb4 K1' K2' HBB HB3 HY1 d0 d1 d2 d3)
    have d0 := blk_cell K1.out 0
    have d1 := blk_cell K1.out 1
    have d2 := blk_cell K2.out 0
    have d3 := blk_cell K2.out 1
    simp at d0 d1 d2 d3
    have HBW := Lib.hid (Below.refl w4.heap.size w4)
    obtain ⟨N, hN⟩ : ∃ N, XA.length = N := ⟨_, rfl⟩
    obtain ⟨M, hM⟩ : ∃ M, XB.length = M := ⟨_, rfl⟩
    have HN := Lib.hid hN
    rw [hN] at HY1' ⊢
    rw [hM] at HY2 ⊢
    clear hN hM
    go_cut [72] (fun u wx => u = .bool false ∧ Hid (Below w4.heap.size w4 wx))
    case first =>
      by_cases ea : EA = 0
      case neg =>
        have e1 : (EA == 0) = false := by simpa using ea
        refine wp_region_all (fun _ => True) 28 (by kernel_rfl) rfl trivial (fun hHeld => ?_)
        refine takeL (i := 0) (v := ?_) rfl (by kernel_rfl) (by kernel_rfl) (by kernel_rfl) (fun _ _ _ h => h) (.inl ⟨by rfl, ?_⟩) (by assumption) ?_
        rotate_left
        · (intro w hSw; (try dsimp only at hSw); go_simp; (first | done | with_reducible rfl))
        try simp only [Act.put, List.setIfInBounds_toArray, List.set_cons_zero, List.set_cons_succ]
        refine takeL (i := 1) (v := ?_) rfl (by kernel_rfl) (by kernel_rfl) (by kernel_rfl) (fun _ _ _ h => h) (.inl ⟨by rfl, ?_⟩) (by assumption) ?_
        rotate_left
        · (intro w hSw; (try dsimp only at hSw); go_simp; (first | done | with_reducible rfl))
        try simp only [Act.put, List.setIfInBounds_toArray, List.set_cons_zero, List.set_cons_succ]
        refine takeL (i := 2) (v := ?_) rfl (by kernel_rfl) (by kernel_rfl) (by kernel_rfl) (fun _ _ _ h => h) (.inl ⟨by rfl, ?_⟩) (by assumption) ?_
        rotate_left
        · (intro w hSw; (try dsimp only at hSw); go_simp; (first | done | with_reducible rfl))
        try simp only [Act.put, List.setIfInBounds_toArray, List.set_cons_zero, List.set_cons_succ]
        refine takeL (i := 3) (v := undef) rfl (by kernel_rfl) (by kernel_rfl) (by kernel_rfl) (fun _ _ _ h => h) (.inr ⟨by rfl, rfl⟩) (by assumption) ?_
        try simp only [Act.put, List.setIfInBounds_toArray, List.set_cons_zero, List.set_cons_succ]
        refine takeL (i := 4) (v := undef) rfl (by kernel_rfl) (by kernel_rfl) (by kernel_rfl) (fun _ _ _ h => h) (.inr ⟨by rfl, rfl⟩) (by assumption) ?_
        try simp only [Act.put, List.setIfInBounds_toArray, List.set_cons_zero, List.set_cons_succ]
        refine takeL (i := 5) (v := ?_) rfl (by kernel_rfl) (by kernel_rfl) (by kernel_rfl) (fun _ _ _ h => h) (.inl ⟨by rfl, ?_⟩) (by assumption) ?_
        rotate_left
        · (intro w hSw; (try dsimp only at hSw); go_simp; (first | done | with_reducible rfl))
        try simp only [Act.put, List.setIfInBounds_toArray, List.set_cons_zero, List.set_cons_succ]
        refine takeL (i := 6) (v := ?_) rfl (by kernel_rfl) (by kernel_rfl) (by kernel_rfl) (fun _ _ _ h => h) (.inl ⟨by rfl, ?_⟩) (by assumption) ?_
        rotate_left
        · (intro w hSw; (try dsimp only at hSw); go_simp; (first | done | with_reducible rfl))
        try simp only [Act.put, List.setIfInBounds_toArray, List.set_cons_zero, List.set_cons_succ]
        refine takeL (i := 7) (v := undef) rfl (by kernel_rfl) (by kernel_rfl) (by kernel_rfl) (fun _ _ _ h => h) (.inr ⟨by rfl, rfl⟩) (by assumption) ?_
        try simp only [Act.put, List.setIfInBounds_toArray, List.set_cons_zero, List.set_cons_succ]
        refine takeL (i := 8) (v := undef) rfl (by kernel_rfl) (by kernel_rfl) (by kernel_rfl) (fun _ _ _ h => h) (.inr ⟨by rfl, rfl⟩) (by assumption) ?_
        try simp only [Act.put, List.setIfInBounds_toArray, List.set_cons_zero, List.set_cons_succ]
        refine takeL (i := 9) (v := undef) rfl (by kernel_rfl) (by kernel_rfl) (by kernel_rfl) (fun _ _ _ h => h) (.inr ⟨by rfl, rfl⟩) (by assumption) ?_
        try simp only [Act.put, List.setIfInBounds_toArray, List.set_cons_zero, List.set_cons_succ]
        refine takeL (i := 10) (v := undef) rfl (by kernel_rfl) (by kernel_rfl) (by kernel_rfl) (fun _ _ _ h => h) (.inr ⟨by rfl, rfl⟩) (by assumption) ?_
        try simp only [Act.put, List.setIfInBounds_toArray, List.set_cons_zero, List.set_cons_succ]
        refine takeL (i := 11) (v := undef) rfl (by kernel_rfl) (by kernel_rfl) (by kernel_rfl) (fun _ _ _ h => h) (.inr ⟨by rfl, rfl⟩) (by assumption) ?_
        try simp only [Act.put, List.setIfInBounds_toArray, List.set_cons_zero, List.set_cons_succ]
        refine takeL (i := 12) (v := undef) rfl (by kernel_rfl) (by kernel_rfl) (by kernel_rfl) (fun _ _ _ h => h) (.inr ⟨by rfl, rfl⟩) (by assumption) ?_
        try simp only [Act.put, List.setIfInBounds_toArray, List.set_cons_zero, List.set_cons_succ]
        refine takeL (i := 13) (v := undef) rfl (by kernel_rfl) (by kernel_rfl) (by kernel_rfl) (fun _ _ _ h => h) (.inr ⟨by rfl, rfl⟩) (by assumption) ?_
        try simp only [Act.put, List.setIfInBounds_toArray, List.set_cons_zero, List.set_cons_succ]
        refine takeL (i := 14) (v := undef) rfl (by kernel_rfl) (by kernel_rfl) (by kernel_rfl) (fun _ _ _ h => h) (.inr ⟨by rfl, rfl⟩) (by assumption) ?_
        try simp only [Act.put, List.setIfInBounds_toArray, List.set_cons_zero, List.set_cons_succ]
        refine takeL (i := 15) (v := undef) rfl (by kernel_rfl) (by kernel_rfl) (by kernel_rfl) (fun _ _ _ h => h) (.inr ⟨by rfl, rfl⟩) (by assumption) ?_
        try simp only [Act.put, List.setIfInBounds_toArray, List.set_cons_zero, List.set_cons_succ]
        refine takeL (i := 16) (v := undef) rfl (by kernel_rfl) (by kernel_rfl) (by kernel_rfl) (fun _ _ _ h => h) (.inr ⟨by rfl, rfl⟩) (by assumption) ?_
        try simp only [Act.put, List.setIfInBounds_toArray, List.set_cons_zero, List.set_cons_succ]
        refine takeL (i := 17) (v := undef) rfl (by kernel_rfl) (by kernel_rfl) (by kernel_rfl) (fun _ _ _ h => h) (.inr ⟨by rfl, rfl⟩) (by assumption) ?_
        try simp only [Act.put, List.setIfInBounds_toArray, List.set_cons_zero, List.set_cons_succ]
        refine takeL (i := 18) (v := undef) rfl (by kernel_rfl) (by kernel_rfl) (by kernel_rfl) (fun _ _ _ h => h) (.inr ⟨by rfl, rfl⟩) (by assumption) ?_
        try simp only [Act.put, List.setIfInBounds_toArray, List.set_cons_zero, List.set_cons_succ]
        refine takeL (i := 19) (v := undef) rfl (by kernel_rfl) (by kernel_rfl) (by kernel_rfl) (fun _ _ _ h => h) (.inr ⟨by rfl, rfl⟩) (by assumption) ?_
        try simp only [Act.put, List.setIfInBounds_toArray, List.set_cons_zero, List.set_cons_succ]
        refine takeL (i := 20) (v := undef) rfl (by kernel_rfl) (by kernel_rfl) (by kernel_rfl) (fun _ _ _ h => h) (.inr ⟨by rfl, rfl⟩) (by assumption) ?_
        try simp only [Act.put, List.setIfInBounds_toArray, List.set_cons_zero, List.set_cons_succ]
        refine takeL (i := 21) (v := undef) rfl (by kernel_rfl) (by kernel_rfl) (by kernel_rfl) (fun _ _ _ h => h) (.inr ⟨by rfl, rfl⟩) (by assumption) ?_
        try simp only [Act.put, List.setIfInBounds_toArray, List.set_cons_zero, List.set_cons_succ]
        refine takeL (i := 22) (v := undef) rfl (by kernel_rfl) (by kernel_rfl) (by kernel_rfl) (fun _ _ _ h => h) (.inr ⟨by rfl, rfl⟩) (by assumption) ?_
        try simp only [Act.put, List.setIfInBounds_toArray, List.set_cons_zero, List.set_cons_succ]
        refine takeL (i := 23) (v := undef) rfl (by kernel_rfl) (by kernel_rfl) (by kernel_rfl) (fun _ _ _ h => h) (.inr ⟨by rfl, rfl⟩) (by assumption) ?_
        try simp only [Act.put, List.setIfInBounds_toArray, List.set_cons_zero, List.set_cons_succ]
        refine takeL (i := 24) (v := undef) rfl (by kernel_rfl) (by kernel_rfl) (by kernel_rfl) (fun _ _ _ h => h) (.inr ⟨by rfl, rfl⟩) (by assumption) ?_
        try simp only [Act.put, List.setIfInBounds_toArray, List.set_cons_zero, List.set_cons_succ]
        refine takeL (i := 25) (v := undef) rfl (by kernel_rfl) (by kernel_rfl) (by kernel_rfl) (fun _ _ _ h => h) (.inr ⟨by rfl, rfl⟩) (by assumption) ?_
        try simp only [Act.put, List.setIfInBounds_toArray, List.set_cons_zero, List.set_cons_succ]
        refine takeL (i := 26) (v := undef) rfl (by kernel_rfl) (by kernel_rfl) (by kernel_rfl) (fun _ _ _ h => h) (.inr ⟨by rfl, rfl⟩) (by assumption) ?_
        try simp only [Act.put, List.setIfInBounds_toArray, List.set_cons_zero, List.set_cons_succ]
        refine takeL (i := 27) (v := ?_) rfl (by kernel_rfl) (by kernel_rfl) (by kernel_rfl) (fun _ _ _ h => h) (.inl ⟨by rfl, ?_⟩) (by assumption) ?_
        rotate_left
        · (intro w hSw; (try dsimp only at hSw); go_simp; (first | done | with_reducible rfl))
        try simp only [Act.put, List.setIfInBounds_toArray, List.set_cons_zero, List.set_cons_succ]
        refine wpAnyH_done (by kernel_rfl) ?_ _
        clear hHeld
        go_wp2_with fail
        go_meet
        exact ⟨rfl, Lib.hid HBW.out.drew⟩
      case pos =>
        subst ea
        by_cases eb : EB = 0
        case neg =>
          have e1 : (EB == 0) = false := by simpa using eb
          refine wp_region_all (fun _ => True) 28 (by kernel_rfl) rfl trivial (fun hHeld => ?_)
          refine takeL (i := 0) (v := ?_) rfl (by kernel_rfl) (by kernel_rfl) (by kernel_rfl) (fun _ _ _ h => h) (.inl ⟨by rfl, ?_⟩) (by assumption) ?_
          rotate_left
          · (intro w hSw; (try dsimp only at hSw); go_simp; (first | done | with_reducible rfl))
          try simp only [Act.put, List.setIfInBounds_toArray, List.set_cons_zero, List.set_cons_succ]
          refine takeL (i := 1) (v := ?_) rfl (by kernel_rfl) (by kernel_rfl) (by kernel_rfl) (fun _ _ _ h => h) (.inl ⟨by rfl, ?_⟩) (by assumption) ?_
          rotate_left
          · (intro w hSw; (try dsimp only at hSw); go_simp; (first | done | with_reducible rfl))
          try simp only [Act.put, List.setIfInBounds_toArray, List.set_cons_zero, List.set_cons_succ]
          refine takeL (i := 2) (v := ?_) rfl (by kernel_rfl) (by kernel_rfl) (by kernel_rfl) (fun _ _ _ h => h) (.inl ⟨by rfl, ?_⟩) (by assumption) ?_
          rotate_left
          · (intro w hSw; (try dsimp only at hSw); go_simp; (first | done | with_reducible rfl))
          try simp only [Act.put, List.setIfInBounds_toArray, List.set_cons_zero, List.set_cons_succ]
          refine takeL (i := 3) (v := ?_) rfl (by kernel_rfl) (by kernel_rfl) (by kernel_rfl) (fun _ _ _ h => h) (.inl ⟨by rfl, ?_⟩) (by assumption) ?_
          rotate_left
          · (intro w hSw; (try dsimp only at hSw); go_simp; (first | done | with_reducible rfl))
          try simp only [Act.put, List.setIfInBounds_toArray, List.set_cons_zero, List.set_cons_succ]
          refine takeL (i := 4) (v := ?_) rfl (by kernel_rfl) (by kernel_rfl) (by kernel_rfl) (fun _ _ _ h => h) (.inl ⟨by rfl, ?_⟩) (by assumption) ?_
          rotate_left
          · (intro w hSw; (try dsimp only at hSw); go_simp; (first | done | with_reducible rfl))
          try simp only [Act.put, List.setIfInBounds_toArray, List.set_cons_zero, List.set_cons_succ]
          refine takeL (i := 5) (v := ?_) rfl (by kernel_rfl) (by kernel_rfl) (by kernel_rfl) (fun _ _ _ h => h) (.inl ⟨by rfl, ?_⟩) (by assumption) ?_
          rotate_left
          · (intro w hSw; (try dsimp only at hSw); go_simp; (first | done | with_reducible rfl))
          try simp only [Act.put, List.setIfInBounds_toArray, List.set_cons_zero, List.set_cons_succ]
          refine takeL (i := 6) (v := ?_) rfl (by kernel_rfl) (by kernel_rfl) (by kernel_rfl) (fun _ _ _ h => h) (.inl ⟨by rfl, ?_⟩) (by assumption) ?_
          rotate_left
          · (intro w hSw; (try dsimp only at hSw); go_simp; (first | done | with_reducible rfl))
          try simp only [Act.put, List.setIfInBounds_toArray, List.set_cons_zero, List.set_cons_succ]
          refine takeL (i := 7) (v := undef) rfl (by kernel_rfl) (by kernel_rfl) (by kernel_rfl) (fun _ _ _ h => h) (.inr ⟨by rfl, rfl⟩) (by assumption) ?_
          try simp only [Act.put, List.setIfInBounds_toArray, List.set_cons_zero, List.set_cons_succ]
          refine takeL (i := 8) (v := undef) rfl (by kernel_rfl) (by kernel_rfl) (by kernel_rfl) (fun _ _ _ h => h) (.inr ⟨by rfl, rfl⟩) (by assumption) ?_
          try simp only [Act.put, List.setIfInBounds_toArray, List.set_cons_zero, List.set_cons_succ]
          refine takeL (i := 9) (v := undef) rfl (by kernel_rfl) (by kernel_rfl) (by kernel_rfl) (fun _ _ _ h => h) (.inr ⟨by rfl, rfl⟩) (by assumption) ?_
          try simp only [Act.put, List.setIfInBounds_toArray, List.set_cons_zero, List.set_cons_succ]
          refine takeL (i := 10) (v := undef) rfl (by kernel_rfl) (by kernel_rfl) (by kernel_rfl) (fun _ _ _ h => h) (.inr ⟨by rfl, rfl⟩) (by assumption) ?_
          try simp only [Act.put, List.setIfInBounds_toArray, List.set_cons_zero, List.set_cons_succ]
          refine takeL (i := 11) (v := undef) rfl (by kernel_rfl) (by kernel_rfl) (by kernel_rfl) (fun _ _ _ h => h) (.inr ⟨by rfl, rfl⟩) (by assumption) ?_
          try simp only [Act.put, List.setIfInBounds_toArray, List.set_cons_zero, List.set_cons_succ]
          refine takeL (i := 12) (v := undef) rfl (by kernel_rfl) (by kernel_rfl) (by kernel_rfl) (fun _ _ _ h => h) (.inr ⟨by rfl, rfl⟩) (by assumption) ?_
          try simp only [Act.put, List.setIfInBounds_toArray, List.set_cons_zero, List.set_cons_succ]
          refine takeL (i := 13) (v := undef) rfl (by kernel_rfl) (by kernel_rfl) (by kernel_rfl) (fun _ _ _ h => h) (.inr ⟨by rfl, rfl⟩) (by assumption) ?_
          try simp only [Act.put, List.setIfInBounds_toArray, List.set_cons_zero, List.set_cons_succ]
          refine takeL (i := 14) (v := undef) rfl (by kernel_rfl) (by kernel_rfl) (by kernel_rfl) (fun _ _ _ h => h) (.inr ⟨by rfl, rfl⟩) (by assumption) ?_
          try simp only [Act.put, List.setIfInBounds_toArray, List.set_cons_zero, List.set_cons_succ]
          refine takeL (i := 15) (v := undef) rfl (by kernel_rfl) (by kernel_rfl) (by kernel_rfl) (fun _ _ _ h => h) (.inr ⟨by rfl, rfl⟩) (by assumption) ?_
          try simp only [Act.put, List.setIfInBounds_toArray, List.set_cons_zero, List.set_cons_succ]
          refine takeL (i := 16) (v := undef) rfl (by kernel_rfl) (by kernel_rfl) (by kernel_rfl) (fun _ _ _ h => h) (.inr ⟨by rfl, rfl⟩) (by assumption) ?_
          try simp only [Act.put, List.setIfInBounds_toArray, List.set_cons_zero, List.set_cons_succ]
          refine takeL (i := 17) (v := undef) rfl (by kernel_rfl) (by kernel_rfl) (by kernel_rfl) (fun _ _ _ h => h) (.inr ⟨by rfl, rfl⟩) (by assumption) ?_
          try simp only [Act.put, List.setIfInBounds_toArray, List.set_cons_zero, List.set_cons_succ]
          refine takeL (i := 18) (v := undef) rfl (by kernel_rfl) (by kernel_rfl) (by kernel_rfl) (fun _ _ _ h => h) (.inr ⟨by rfl, rfl⟩) (by assumption) ?_
          try simp only [Act.put, List.setIfInBounds_toArray, List.set_cons_zero, List.set_cons_succ]
          refine takeL (i := 19) (v := undef) rfl (by kernel_rfl) (by kernel_rfl) (by kernel_rfl) (fun _ _ _ h => h) (.inr ⟨by rfl, rfl⟩) (by assumption) ?_
          try simp only [Act.put, List.setIfInBounds_toArray, List.set_cons_zero, List.set_cons_succ]
          refine takeL (i := 20) (v := undef) rfl (by kernel_rfl) (by kernel_rfl) (by kernel_rfl) (fun _ _ _ h => h) (.inr ⟨by rfl, rfl⟩) (by assumption) ?_
          try simp only [Act.put, List.setIfInBounds_toArray, List.set_cons_zero, List.set_cons_succ]
          refine takeL (i := 21) (v := undef) rfl (by kernel_rfl) (by kernel_rfl) (by kernel_rfl) (fun _ _ _ h => h) (.inr ⟨by rfl, rfl⟩) (by assumption) ?_
          try simp only [Act.put, List.setIfInBounds_toArray, List.set_cons_zero, List.set_cons_succ]
          refine takeL (i := 22) (v := undef) rfl (by kernel_rfl) (by kernel_rfl) (by kernel_rfl) (fun _ _ _ h => h) (.inr ⟨by rfl, rfl⟩) (by assumption) ?_
          try simp only [Act.put, List.setIfInBounds_toArray, List.set_cons_zero, List.set_cons_succ]
          refine takeL (i := 23) (v := undef) rfl (by kernel_rfl) (by kernel_rfl) (by kernel_rfl) (fun _ _ _ h => h) (.inr ⟨by rfl, rfl⟩) (by assumption) ?_
          try simp only [Act.put, List.setIfInBounds_toArray, List.set_cons_zero, List.set_cons_succ]
          refine takeL (i := 24) (v := undef) rfl (by kernel_rfl) (by kernel_rfl) (by kernel_rfl) (fun _ _ _ h => h) (.inr ⟨by rfl, rfl⟩) (by assumption) ?_
          try simp only [Act.put, List.setIfInBounds_toArray, List.set_cons_zero, List.set_cons_succ]
          refine takeL (i := 25) (v := undef) rfl (by kernel_rfl) (by kernel_rfl) (by kernel_rfl) (fun _ _ _ h => h) (.inr ⟨by rfl, rfl⟩) (by assumption) ?_
          try simp only [Act.put, List.setIfInBounds_toArray, List.set_cons_zero, List.set_cons_succ]
          refine takeL (i := 26) (v := undef) rfl (by kernel_rfl) (by kernel_rfl) (by kernel_rfl) (fun _ _ _ h => h) (.inr ⟨by rfl, rfl⟩) (by assumption) ?_
          try simp only [Act.put, List.setIfInBounds_toArray, List.set_cons_zero, List.set_cons_succ]
          refine takeL (i := 27) (v := ?_) rfl (by kernel_rfl) (by kernel_rfl) (by kernel_rfl) (fun _ _ _ h => h) (.inl ⟨by rfl, ?_⟩) (by assumption) ?_
          rotate_left
          · (intro w hSw; (try dsimp only at hSw); go_simp; (first | done | with_reducible rfl))
          try simp only [Act.put, List.setIfInBounds_toArray, List.set_cons_zero, List.set_cons_succ]
          refine wpAnyH_done (by kernel_rfl) ?_ _
          clear hHeld
          go_wp2_with fail
          go_meet
          exact ⟨rfl, Lib.hid HBW.out.drew⟩
        case pos =>
          subst eb
          have hxa := HXA.out
          have hxb := HXB.out
          rw [if_pos rfl] at hxa hxb
          obtain ⟨x0, xr, hx, hx0⟩ := HFS.out rfl
          rw [hxa] at hx
          subst hx
          have hsm := HSM.out HQA.out HQB.out rfl rfl
          rw [hxa, hxb] at hsm
          obtain ⟨g, cg, hv, dg, hgl⟩ := bytes_some HY1'.out
          injection hv with hv1 hv2 hv3
          subst hv1
          subst hv3
          have hN0 : (0 : Int) < N := by rw [← HN.out]; simp
          have hN2 : 0 < N := by omega
          have hN1 : ((N : Int) == 0) = false := by simp; omega
          have hx1 : ((x0.toNat : Int) == 0) = false := by
            simp
            intro e
            exact hx0 (UInt8.toNat_inj.1 (by simpa using e))
          have hs1 := fun (w' : World) (hb : Below w4.heap.size w4 w') => sameBytes_any (.slice (some ⟨g, 0, none⟩) N c1) (.slice A2 M c2) (x0 :: xr) XB w' (HY1'.out.reads.below hb) (HY2.out.reads.below hb)
          have hs2 := fun (w' : World) (hb : Below w4.heap.size w4 w') (b1 b2 : Nat) (h1 : w'.heap[b1]? = some (.cells #[.int .i64 an, .slice A La c] 52)) (h2 : w'.heap[b2]? = some (.cells #[.int .i64 bn, .slice B Lb d] 52)) => sameBatches_any (.slice (some ⟨b1, 0, none⟩) 1 1) (.slice (some ⟨b2, 0, none⟩) 1 1) [(an, ar)] [(bn, br)] w' (bt_one h1 (HRA.out.below (HB4.out.trans (hb.mono HB4.out.size)))) (bt_one h2 (HRB.out.below (HB4.out.trans (hb.mono HB4.out.size))))
          rw [← hsm] at hs2
          obtain ⟨q, hq⟩ : ∃ q, decide ((x0 :: xr) = XB) = q := ⟨_, rfl⟩
          rw [hq] at hs1 hs2
          have HS1 := Lib.hid hs1
          have HS2A := Lib.hid (hs2 _ (below2 w4 (.cells #[.int .i64 an, .slice A La c] 52) (.cells #[.int .i64 bn, .slice B Lb d] 52)).drew w4.heap.size (w4.heap.size + 1) (blk_alloc (alloc_at w4 _) _) (alloc_at1 w4 _ _))
          have HS2B := Lib.hid (hs2 _ (below2 w4 (.cells #[.int .i64 bn, .slice B Lb d] 52) (.cells #[.int .i64 an, .slice A La c] 52)).drew (w4.heap.size + 1) w4.heap.size (alloc_at1 w4 _ _) (blk_alloc (alloc_at w4 _) _))
          have SK : ∀ w', Below w4.heap.size w4 w' → (Below w4.heap.size w4 w' ∧ w'.cell? ⟨w.heap.size, 0, none⟩ = some (.int .i64 an) ∧ w'.cell? ⟨w.heap.size, 1, none⟩ = some (.slice A La c) ∧ w'.cell? ⟨pb, 0, none⟩ = some (.int .i64 bn) ∧ w'.cell? ⟨pb, 1, none⟩ = some (.slice B Lb d) ∧ w'.cell? ⟨g, 0, none⟩ = some (.int .u8 x0.toNat)) := fun w' hb => ⟨hb, cell_later hb d0, cell_later hb d1, cell_later hb d2, cell_later hb d3, cell_later hb dg⟩
          have SKH := Lib.hid SK
          clear hxa hxb hx0 hsm hv2 hs1 hs2 hq hgl SK
          refine wp_region_all (fun w' => Below w4.heap.size w4 w' ∧ w'.cell? ⟨w.heap.size, 0, none⟩ = some (.int .i64 an) ∧ w'.cell? ⟨w.heap.size, 1, none⟩ = some (.slice A La c) ∧ w'.cell? ⟨pb, 0, none⟩ = some (.int .i64 bn) ∧ w'.cell? ⟨pb, 1, none⟩ = some (.slice B Lb d) ∧ w'.cell? ⟨g, 0, none⟩ = some (.int .u8 x0.toNat)) 28 (by kernel_rfl) rfl (SKH.out _ HBW.out.drew) (fun hHeld => ?_)
          refine takeL (i := 0) (v := ?_) rfl (by kernel_rfl) (by kernel_rfl) (by kernel_rfl) (fun _ _ _ h => h) (.inl ⟨by rfl, ?_⟩) (by assumption) ?_
          rotate_left
          · (intro w hSw; (try dsimp only at hSw); go_simp; (first | done | with_reducible rfl))
          try simp only [Act.put, List.setIfInBounds_toArray, List.set_cons_zero, List.set_cons_succ]
          refine takeL (i := 1) (v := ?_) rfl (by kernel_rfl) (by kernel_rfl) (by kernel_rfl) (fun _ _ _ h => h) (.inl ⟨by rfl, ?_⟩) (by assumption) ?_
          rotate_left
          · (intro w hSw; (try dsimp only at hSw); go_simp; (first | done | with_reducible rfl))
          try simp only [Act.put, List.setIfInBounds_toArray, List.set_cons_zero, List.set_cons_succ]
          refine takeL (i := 2) (v := ?_) rfl (by kernel_rfl) (by kernel_rfl) (by kernel_rfl) (fun _ _ _ h => h) (.inl ⟨by rfl, ?_⟩) (by assumption) ?_
          rotate_left
          · (intro w hSw; (try dsimp only at hSw); go_simp; (first | done | with_reducible rfl))
          try simp only [Act.put, List.setIfInBounds_toArray, List.set_cons_zero, List.set_cons_succ]
          refine takeL (i := 3) (v := ?_) rfl (by kernel_rfl) (by kernel_rfl) (by kernel_rfl) (fun _ _ _ h => h) (.inl ⟨by rfl, ?_⟩) (by assumption) ?_
          rotate_left
          · (intro w hSw; (try dsimp only at hSw); go_simp; (first | done | with_reducible rfl))
          try simp only [Act.put, List.setIfInBounds_toArray, List.set_cons_zero, List.set_cons_succ]
          refine takeL (i := 4) (v := ?_) rfl (by kernel_rfl) (by kernel_rfl) (by kernel_rfl) (fun _ _ _ h => h) (.inl ⟨by rfl, ?_⟩) (by assumption) ?_
          rotate_left
          · (intro w hSw; (try dsimp only at hSw); go_simp; (first | done | with_reducible rfl))
          try simp only [Act.put, List.setIfInBounds_toArray, List.set_cons_zero, List.set_cons_succ]
          refine takeL (i := 5) (v := ?_) rfl (by kernel_rfl) (by kernel_rfl) (by kernel_rfl) (fun _ _ _ h => h) (.inl ⟨by rfl, ?_⟩) (by assumption) ?_
          rotate_left
          · (intro w hSw; (try dsimp only at hSw); go_simp; (first | done | with_reducible rfl))
          try simp only [Act.put, List.setIfInBounds_toArray, List.set_cons_zero, List.set_cons_succ]
          refine takeL (i := 6) (v := ?_) rfl (by kernel_rfl) (by kernel_rfl) (by kernel_rfl) (fun _ _ _ h => h) (.inl ⟨by rfl, ?_⟩) (by assumption) ?_
          rotate_left
          · (intro w hSw; (try dsimp only at hSw); go_simp; (first | done | with_reducible rfl))
          try simp only [Act.put, List.setIfInBounds_toArray, List.set_cons_zero, List.set_cons_succ]
          refine takeL (i := 7) (v := ?_) rfl (by kernel_rfl) (by kernel_rfl) (by kernel_rfl) (fun _ _ _ h => h) (.inl ⟨by rfl, ?_⟩) (by assumption) ?_
          rotate_left
          · (intro w hSw; (try dsimp only at hSw); go_simp; (first | done | with_reducible rfl))
          try simp only [Act.put, List.setIfInBounds_toArray, List.set_cons_zero, List.set_cons_succ]
          refine takeL (i := 8) (v := ?_) rfl (by kernel_rfl) (by kernel_rfl) (by kernel_rfl) (fun _ _ _ h => h) (.inl ⟨by rfl, ?_⟩) (by assumption) ?_
          rotate_left
          · (intro w hSw; (try dsimp only at hSw); go_simp; (first | done | with_reducible rfl))
          try simp only [Act.put, List.setIfInBounds_toArray, List.set_cons_zero, List.set_cons_succ]
          refine takeL (i := 10) (v := ?_) rfl (by kernel_rfl) (by kernel_rfl) (by kernel_rfl) (fun _ _ _ h => h) (.inl ⟨by rfl, ?_⟩) (by assumption) ?_
          rotate_left
          · (intro w hSw; (try dsimp only at hSw); go_simp; (first | done | with_reducible rfl))
          try simp only [Act.put, List.setIfInBounds_toArray, List.set_cons_zero, List.set_cons_succ]
          refine takeL (i := 12) (v := ?_) rfl (by kernel_rfl) (by kernel_rfl) (by kernel_rfl) (fun _ _ _ h => h) (.inl ⟨by rfl, ?_⟩) (by assumption) ?_
          rotate_left
          · (intro w hSw; (try dsimp only at hSw); go_simp; (first | done | with_reducible rfl))
          try simp only [Act.put, List.setIfInBounds_toArray, List.set_cons_zero, List.set_cons_succ]
          refine readyL (rs := [9, 11, 13]) (by kernel_rfl) (by simp) (consL rfl (fun K hK => ?_) (consL rfl (fun K hK => ?_) (consL rfl (fun K hK => ?_) AllReadyH.nil)))
          · go_simp
            go_at_call 31
            refine (HS1.out _ hHeld.1).mono ?_
            rintro e w5 ⟨rfl, hw⟩
            subst hw
            go_wp2_with fail
            refine hK.out _ _ (SKH.out _ hHeld.1) (fun hHeld => ?_)
            clear hK K
            try simp only [Act.put, List.setIfInBounds_toArray, List.set_cons_zero, List.set_cons_succ]
            refine readyL (rs := [11, 13]) (by kernel_rfl) (by simp) (consL rfl (fun K hK => ?_) (consL rfl (fun K hK => ?_) AllReadyH.nil))
            · go_simp
              refine hK.out _ _ (SKH.out _ (hHeld.1.alloc hHeld.1.size _)) (fun hHeld => ?_)
              clear hK K
              try simp only [Act.put, List.setIfInBounds_toArray, List.set_cons_zero, List.set_cons_succ]
              refine stepL (i := 13) rfl (by kernel_rfl) (fun K hK => ?_)
              go_simp
              refine hK.out _ _ (SKH.out _ (hHeld.1.alloc hHeld.1.size _)) (fun hHeld => ?_)
              clear hK K
              try simp only [Act.put, List.setIfInBounds_toArray, List.set_cons_zero, List.set_cons_succ]
              refine stepL (i := 14) rfl (by kernel_rfl) (fun K hK => ?_)
              go_simp
              go_at_call 32
              refine HS2A.out.mono ?_
              rintro e w6 ⟨rfl, hb⟩
              have HB5 := Lib.hid (hHeld.1.trans (hb.mono hHeld.1.size))
              clear hb
              go_wp2_with fail
              refine hK.out _ _ (SKH.out _ HB5.out) (fun hHeld => ?_)
              clear hK K
              try simp only [Act.put, List.setIfInBounds_toArray, List.set_cons_zero, List.set_cons_succ]
              refine takeL (i := 15) (v := ?_) rfl (by kernel_rfl) (by kernel_rfl) (by kernel_rfl) (fun _ _ _ h => h) (.inl ⟨by rfl, ?_⟩) (by assumption) ?_
              rotate_left
              · (intro w hSw; (try dsimp only at hSw); go_simp; (first | done | with_reducible rfl))
              try simp only [Act.put, List.setIfInBounds_toArray, List.set_cons_zero, List.set_cons_succ]
              refine takeL (i := 16) (v := ?_) rfl (by kernel_rfl) (by kernel_rfl) (by kernel_rfl) (fun _ _ _ h => h) (.inl ⟨by rfl, ?_⟩) (by assumption) ?_
              rotate_left
              · (intro w hSw; (try dsimp only at hSw); go_simp; (first | done | with_reducible rfl))
              try simp only [Act.put, List.setIfInBounds_toArray, List.set_cons_zero, List.set_cons_succ]
              refine takeL (i := 17) (v := ?_) rfl (by kernel_rfl) (by kernel_rfl) (by kernel_rfl) (fun _ _ _ h => h) (.inl ⟨by rfl, ?_⟩) (by assumption) ?_
              rotate_left
              · (intro w hSw; (try dsimp only at hSw); go_simp; (first | done | with_reducible rfl))
              try simp only [Act.put, List.setIfInBounds_toArray, List.set_cons_zero, List.set_cons_succ]
              refine takeL (i := 18) (v := ?_) rfl (by kernel_rfl) (by kernel_rfl) (by kernel_rfl) (fun _ _ _ h => h) (.inl ⟨by rfl, ?_⟩) (by assumption) ?_
              rotate_left
              · (intro w hSw; (try dsimp only at hSw); go_simp; (first | done | with_reducible rfl))
              try simp only [Act.put, List.setIfInBounds_toArray, List.set_cons_zero, List.set_cons_succ]
              refine takeL (i := 19) (v := ?_) rfl (by kernel_rfl) (by kernel_rfl) (by kernel_rfl) (fun _ _ _ h => h) (.inl ⟨by rfl, ?_⟩) (by assumption) ?_
              rotate_left
              · (intro w hSw; (try dsimp only at hSw); go_simp; (first | done | with_reducible rfl))
              try simp only [Act.put, List.setIfInBounds_toArray, List.set_cons_zero, List.set_cons_succ]
              refine takeL (i := 20) (v := ?_) rfl (by kernel_rfl) (by kernel_rfl) (by kernel_rfl) (fun _ _ _ h => h) (.inl ⟨by rfl, ?_⟩) (by assumption) ?_
              rotate_left
              · (intro w hSw; (try dsimp only at hSw); go_simp; (first | done | with_reducible rfl))
              try simp only [Act.put, List.setIfInBounds_toArray, List.set_cons_zero, List.set_cons_succ]
              refine takeL (i := 21) (v := ?_) rfl (by kernel_rfl) (by kernel_rfl) (by kernel_rfl) (fun _ _ _ h => h) (.inl ⟨by rfl, ?_⟩) (by assumption) ?_
              rotate_left
              · (intro w hSw; (try dsimp only at hSw); go_simp; (first | done | with_reducible rfl))
              try simp only [Act.put, List.setIfInBounds_toArray, List.set_cons_zero, List.set_cons_succ]
              refine takeL (i := 22) (v := ?_) rfl (by kernel_rfl) (by kernel_rfl) (by kernel_rfl) (fun _ _ _ h => h) (.inl ⟨by rfl, ?_⟩) (by assumption) ?_
              rotate_left
              · (intro w hSw; (try dsimp only at hSw); go_simp; (first | done | with_reducible rfl))
              try simp only [Act.put, List.setIfInBounds_toArray, List.set_cons_zero, List.set_cons_succ]
              refine takeL (i := 23) (v := ?_) rfl (by kernel_rfl) (by kernel_rfl) (by kernel_rfl) (fun _ _ _ h => h) (.inl ⟨by rfl, ?_⟩) (by assumption) ?_
              rotate_left
              · (intro w hSw; (try dsimp only at hSw); go_simp; (first | done | with_reducible rfl))
              try simp only [Act.put, List.setIfInBounds_toArray, List.set_cons_zero, List.set_cons_succ]
              refine takeL (i := 24) (v := ?_) rfl (by kernel_rfl) (by kernel_rfl) (by kernel_rfl) (fun _ _ _ h => h) (.inl ⟨by rfl, ?_⟩) (by assumption) ?_
              rotate_left
              · (intro w hSw; (try dsimp only at hSw); go_simp; (first | done | with_reducible rfl))
              try simp only [Act.put, List.setIfInBounds_toArray, List.set_cons_zero, List.set_cons_succ]
              refine takeL (i := 25) (v := ?_) rfl (by kernel_rfl) (by kernel_rfl) (by kernel_rfl) (fun _ _ _ h => h) (.inl ⟨by rfl, ?_⟩) (by assumption) ?_
              rotate_left
              · (intro w hSw; (try dsimp only at hSw); go_simp; (first | done | with_reducible rfl))
              try simp only [Act.put, List.setIfInBounds_toArray, List.set_cons_zero, List.set_cons_succ]
              refine takeL (i := 26) (v := ?_) rfl (by kernel_rfl) (by kernel_rfl) (by kernel_rfl) (fun _ _ _ h => h) (.inl ⟨by rfl, ?_⟩) (by assumption) ?_
              rotate_left
              · (intro w hSw; (try dsimp only at hSw); go_simp; (first | done | with_reducible rfl))
              try simp only [Act.put, List.setIfInBounds_toArray, List.set_cons_zero, List.set_cons_succ]
              refine takeL (i := 27) (v := ?_) rfl (by kernel_rfl) (by kernel_rfl) (by kernel_rfl) (fun _ _ _ h => h) (.inl ⟨by rfl, ?_⟩) (by assumption) ?_
              rotate_left
              · (intro w hSw; (try dsimp only at hSw); go_simp; (first | done | with_reducible rfl))
              try simp only [Act.put, List.setIfInBounds_toArray, List.set_cons_zero, List.set_cons_succ]
              refine wpAnyH_done (by kernel_rfl) ?_ _
              clear hHeld
              go_wp2_with fail
              go_meet
              exact ⟨rfl, HB5⟩
            · go_simp
              refine hK.out _ _ (SKH.out _ (hHeld.1.alloc hHeld.1.size _)) (fun hHeld => ?_)
              clear hK K
              try simp only [Act.put, List.setIfInBounds_toArray, List.set_cons_zero, List.set_cons_succ]
              refine stepL (i := 11) rfl (by kernel_rfl) (fun K hK => ?_)
              go_simp
              refine hK.out _ _ (SKH.out _ (hHeld.1.alloc hHeld.1.size _)) (fun hHeld => ?_)
              clear hK K
              try simp only [Act.put, List.setIfInBounds_toArray, List.set_cons_zero, List.set_cons_succ]
              refine stepL (i := 14) rfl (by kernel_rfl) (fun K hK => ?_)
              go_simp
              go_at_call 32
              refine HS2B.out.mono ?_
              rintro e w6 ⟨rfl, hb⟩
              have HB5 := Lib.hid (hHeld.1.trans (hb.mono hHeld.1.size))
              clear hb
              go_wp2_with fail
              refine hK.out _ _ (SKH.out _ HB5.out) (fun hHeld => ?_)
              clear hK K
              try simp only [Act.put, List.setIfInBounds_toArray, List.set_cons_zero, List.set_cons_succ]
              refine takeL (i := 15) (v := ?_) rfl (by kernel_rfl) (by kernel_rfl) (by kernel_rfl) (fun _ _ _ h => h) (.inl ⟨by rfl, ?_⟩) (by assumption) ?_
              rotate_left
              · (intro w hSw; (try dsimp only at hSw); go_simp; (first | done | with_reducible rfl))
              try simp only [Act.put, List.setIfInBounds_toArray, List.set_cons_zero, List.set_cons_succ]
              refine takeL (i := 16) (v := ?_) rfl (by kernel_rfl) (by kernel_rfl) (by kernel_rfl) (fun _ _ _ h => h) (.inl ⟨by rfl, ?_⟩) (by assumption) ?_
              rotate_left
              · (intro w hSw; (try dsimp only at hSw); go_simp; (first | done | with_reducible rfl))
              try simp only [Act.put, List.setIfInBounds_toArray, List.set_cons_zero, List.set_cons_succ]
              refine takeL (i := 17) (v := ?_) rfl (by kernel_rfl) (by kernel_rfl) (by kernel_rfl) (fun _ _ _ h => h) (.inl ⟨by rfl, ?_⟩) (by assumption) ?_
              rotate_left
              · (intro w hSw; (try dsimp only at hSw); go_simp; (first | done | with_reducible rfl))
              try simp only [Act.put, List.setIfInBounds_toArray, List.set_cons_zero, List.set_cons_succ]
              refine takeL (i := 18) (v := ?_) rfl (by kernel_rfl) (by kernel_rfl) (by kernel_rfl) (fun _ _ _ h => h) (.inl ⟨by rfl, ?_⟩) (by assumption) ?_
              rotate_left
              · (intro w hSw; (try dsimp only at hSw); go_simp; (first | done | with_reducible rfl))
              try simp only [Act.put, List.setIfInBounds_toArray, List.set_cons_zero, List.set_cons_succ]
              refine takeL (i := 19) (v := ?_) rfl (by kernel_rfl) (by kernel_rfl) (by kernel_rfl) (fun _ _ _ h => h) (.inl ⟨by rfl, ?_⟩) (by assumption) ?_
              rotate_left
              · (intro w hSw; (try dsimp only at hSw); go_simp; (first | done | with_reducible rfl))
              try simp only [Act.put, List.setIfInBounds_toArray, List.set_cons_zero, List.set_cons_succ]
              refine takeL (i := 20) (v := ?_) rfl (by kernel_rfl) (by kernel_rfl) (by kernel_rfl) (fun _ _ _ h => h) (.inl ⟨by rfl, ?_⟩) (by assumption) ?_
              rotate_left
              · (intro w hSw; (try dsimp only at hSw); go_simp; (first | done | with_reducible rfl))
              try simp only [Act.put, List.setIfInBounds_toArray, List.set_cons_zero, List.set_cons_succ]
              refine takeL (i := 21) (v := ?_) rfl (by kernel_rfl) (by kernel_rfl) (by kernel_rfl) (fun _ _ _ h => h) (.inl ⟨by rfl, ?_⟩) (by assumption) ?_
              rotate_left
              · (intro w hSw; (try dsimp only at hSw); go_simp; (first | done | with_reducible rfl))
              try simp only [Act.put, List.setIfInBounds_toArray, List.set_cons_zero, List.set_cons_succ]
              refine takeL (i := 22) (v := ?_) rfl (by kernel_rfl) (by kernel_rfl) (by kernel_rfl) (fun _ _ _ h => h) (.inl ⟨by rfl, ?_⟩) (by assumption) ?_
              rotate_left
              · (intro w hSw; (try dsimp only at hSw); go_simp; (first | done | with_reducible rfl))
              try simp only [Act.put, List.setIfInBounds_toArray, List.set_cons_zero, List.set_cons_succ]
              refine takeL (i := 23) (v := ?_) rfl (by kernel_rfl) (by kernel_rfl) (by kernel_rfl) (fun _ _ _ h => h) (.inl ⟨by rfl, ?_⟩) (by assumption) ?_
              rotate_left
              · (intro w hSw; (try dsimp only at hSw); go_simp; (first | done | with_reducible rfl))
              try simp only [Act.put, List.setIfInBounds_toArray, List.set_cons_zero, List.set_cons_succ]
              refine takeL (i := 24) (v := ?_) rfl (by kernel_rfl) (by kernel_rfl) (by kernel_rfl) (fun _ _ _ h => h) (.inl ⟨by rfl, ?_⟩) (by assumption) ?_
              rotate_left
              · (intro w hSw; (try dsimp only at hSw); go_simp; (first | done | with_reducible rfl))
              try simp only [Act.put, List.setIfInBounds_toArray, List.set_cons_zero, List.set_cons_succ]
              refine takeL (i := 25) (v := ?_) rfl (by kernel_rfl) (by kernel_rfl) (by kernel_rfl) (fun _ _ _ h => h) (.inl ⟨by rfl, ?_⟩) (by assumption) ?_
              rotate_left
              · (intro w hSw; (try dsimp only at hSw); go_simp; (first | done | with_reducible rfl))
              try simp only [Act.put, List.setIfInBounds_toArray, List.set_cons_zero, List.set_cons_succ]
              refine takeL (i := 26) (v := ?_) rfl (by kernel_rfl) (by kernel_rfl) (by kernel_rfl) (fun _ _ _ h => h) (.inl ⟨by rfl, ?_⟩) (by assumption) ?_
              rotate_left
              · (intro w hSw; (try dsimp only at hSw); go_simp; (first | done | with_reducible rfl))
              try simp only [Act.put, List.setIfInBounds_toArray, List.set_cons_zero, List.set_cons_succ]
              refine takeL (i := 27) (v := ?_) rfl (by kernel_rfl) (by kernel_rfl) (by kernel_rfl) (fun _ _ _ h => h) (.inl ⟨by rfl, ?_⟩) (by assumption) ?_
              rotate_left
              · (intro w hSw; (try dsimp only at hSw); go_simp; (first | done | with_reducible rfl))
              try simp only [Act.put, List.setIfInBounds_toArray, List.set_cons_zero, List.set_cons_succ]
              refine wpAnyH_done (by kernel_rfl) ?_ _
              clear hHeld
              go_wp2_with fail
              go_meet
              exact ⟨rfl, HB5⟩
          · go_simp
            refine hK.out _ _ (SKH.out _ (hHeld.1.alloc hHeld.1.size _)) (fun hHeld => ?_)
            clear hK K
            try simp only [Act.put, List.setIfInBounds_toArray, List.set_cons_zero, List.set_cons_succ]
            refine readyL (rs := [9, 13]) (by kernel_rfl) (by simp) (consL rfl (fun K hK => ?_) (consL rfl (fun K hK => ?_) AllReadyH.nil))
            · go_simp
              go_at_call 31
              refine (HS1.out _ hHeld.1).mono ?_
              rintro e w5 ⟨rfl, hw⟩
              subst hw
              go_wp2_with fail
              refine hK.out _ _ (SKH.out _ hHeld.1) (fun hHeld => ?_)
              clear hK K
              try simp only [Act.put, List.setIfInBounds_toArray, List.set_cons_zero, List.set_cons_succ]
              refine stepL (i := 13) rfl (by kernel_rfl) (fun K hK => ?_)
              go_simp
              refine hK.out _ _ (SKH.out _ (hHeld.1.alloc hHeld.1.size _)) (fun hHeld => ?_)
              clear hK K
              try simp only [Act.put, List.setIfInBounds_toArray, List.set_cons_zero, List.set_cons_succ]
              refine stepL (i := 14) rfl (by kernel_rfl) (fun K hK => ?_)
              go_simp
              go_at_call 32
              refine HS2A.out.mono ?_
              rintro e w6 ⟨rfl, hb⟩
              have HB5 := Lib.hid (hHeld.1.trans (hb.mono hHeld.1.size))
              clear hb
              go_wp2_with fail
              refine hK.out _ _ (SKH.out _ HB5.out) (fun hHeld => ?_)
              clear hK K
              try simp only [Act.put, List.setIfInBounds_toArray, List.set_cons_zero, List.set_cons_succ]
              refine takeL (i := 15) (v := ?_) rfl (by kernel_rfl) (by kernel_rfl) (by kernel_rfl) (fun _ _ _ h => h) (.inl ⟨by rfl, ?_⟩) (by assumption) ?_
              rotate_left
              · (intro w hSw; (try dsimp only at hSw); go_simp; (first | done | with_reducible rfl))
              try simp only [Act.put, List.setIfInBounds_toArray, List.set_cons_zero, List.set_cons_succ]
              refine takeL (i := 16) (v := ?_) rfl (by kernel_rfl) (by kernel_rfl) (by kernel_rfl) (fun _ _ _ h => h) (.inl ⟨by rfl, ?_⟩) (by assumption) ?_
              rotate_left
              · (intro w hSw; (try dsimp only at hSw); go_simp; (first | done | with_reducible rfl))
              try simp only [Act.put, List.setIfInBounds_toArray, List.set_cons_zero, List.set_cons_succ]
              refine takeL (i := 17) (v := ?_) rfl (by kernel_rfl) (by kernel_rfl) (by kernel_rfl) (fun _ _ _ h => h) (.inl ⟨by rfl, ?_⟩) (by assumption) ?_
              rotate_left
              · (intro w hSw; (try dsimp only at hSw); go_simp; (first | done | with_reducible rfl))
              try simp only [Act.put, List.setIfInBounds_toArray, List.set_cons_zero, List.set_cons_succ]
              refine takeL (i := 18) (v := ?_) rfl (by kernel_rfl) (by kernel_rfl) (by kernel_rfl) (fun _ _ _ h => h) (.inl ⟨by rfl, ?_⟩) (by assumption) ?_
              rotate_left
              · (intro w hSw; (try dsimp only at hSw); go_simp; (first | done | with_reducible rfl))
              try simp only [Act.put, List.setIfInBounds_toArray, List.set_cons_zero, List.set_cons_succ]
              refine takeL (i := 19) (v := ?_) rfl (by kernel_rfl) (by kernel_rfl) (by kernel_rfl) (fun _ _ _ h => h) (.inl ⟨by rfl, ?_⟩) (by assumption) ?_
              rotate_left
              · (intro w hSw; (try dsimp only at hSw); go_simp; (first | done | with_reducible rfl))
              try simp only [Act.put, List.setIfInBounds_toArray, List.set_cons_zero, List.set_cons_succ]
              refine takeL (i := 20) (v := ?_) rfl (by kernel_rfl) (by kernel_rfl) (by kernel_rfl) (fun _ _ _ h => h) (.inl ⟨by rfl, ?_⟩) (by assumption) ?_
              rotate_left
              · (intro w hSw; (try dsimp only at hSw); go_simp; (first | done | with_reducible rfl))
              try simp only [Act.put, List.setIfInBounds_toArray, List.set_cons_zero, List.set_cons_succ]
              refine takeL (i := 21) (v := ?_) rfl (by kernel_rfl) (by kernel_rfl) (by kernel_rfl) (fun _ _ _ h => h) (.inl ⟨by rfl, ?_⟩) (by assumption) ?_
              rotate_left
              · (intro w hSw; (try dsimp only at hSw); go_simp; (first | done | with_reducible rfl))
              try simp only [Act.put, List.setIfInBounds_toArray, List.set_cons_zero, List.set_cons_succ]
              refine takeL (i := 22) (v := ?_) rfl (by kernel_rfl) (by kernel_rfl) (by kernel_rfl) (fun _ _ _ h => h) (.inl ⟨by rfl, ?_⟩) (by assumption) ?_
              rotate_left
              · (intro w hSw; (try dsimp only at hSw); go_simp; (first | done | with_reducible rfl))
              try simp only [Act.put, List.setIfInBounds_toArray, List.set_cons_zero, List.set_cons_succ]
              refine takeL (i := 23) (v := ?_) rfl (by kernel_rfl) (by kernel_rfl) (by kernel_rfl) (fun _ _ _ h => h) (.inl ⟨by rfl, ?_⟩) (by assumption) ?_
              rotate_left
              · (intro w hSw; (try dsimp only at hSw); go_simp; (first | done | with_reducible rfl))
              try simp only [Act.put, List.setIfInBounds_toArray, List.set_cons_zero, List.set_cons_succ]
              refine takeL (i := 24) (v := ?_) rfl (by kernel_rfl) (by kernel_rfl) (by kernel_rfl) (fun _ _ _ h => h) (.inl ⟨by rfl, ?_⟩) (by assumption) ?_
              rotate_left
              · (intro w hSw; (try dsimp only at hSw); go_simp; (first | done | with_reducible rfl))
              try simp only [Act.put, List.setIfInBounds_toArray, List.set_cons_zero, List.set_cons_succ]
              refine takeL (i := 25) (v := ?_) rfl (by kernel_rfl) (by kernel_rfl) (by kernel_rfl) (fun _ _ _ h => h) (.inl ⟨by rfl, ?_⟩) (by assumption) ?_
              rotate_left
              · (intro w hSw; (try dsimp only at hSw); go_simp; (first | done | with_reducible rfl))
              try simp only [Act.put, List.setIfInBounds_toArray, List.set_cons_zero, List.set_cons_succ]
              refine takeL (i := 26) (v := ?_) rfl (by kernel_rfl) (by kernel_rfl) (by kernel_rfl) (fun _ _ _ h => h) (.inl ⟨by rfl, ?_⟩) (by assumption) ?_
              rotate_left
              · (intro w hSw; (try dsimp only at hSw); go_simp; (first | done | with_reducible rfl))
              try simp only [Act.put, List.setIfInBounds_toArray, List.set_cons_zero, List.set_cons_succ]
              refine takeL (i := 27) (v := ?_) rfl (by kernel_rfl) (by kernel_rfl) (by kernel_rfl) (fun _ _ _ h => h) (.inl ⟨by rfl, ?_⟩) (by assumption) ?_
              rotate_left
              · (intro w hSw; (try dsimp only at hSw); go_simp; (first | done | with_reducible rfl))
              try simp only [Act.put, List.setIfInBounds_toArray, List.set_cons_zero, List.set_cons_succ]
              refine wpAnyH_done (by kernel_rfl) ?_ _
              clear hHeld
              go_wp2_with fail
              go_meet
              exact ⟨rfl, HB5⟩
            · go_simp
              refine hK.out _ _ (SKH.out _ (hHeld.1.alloc hHeld.1.size _)) (fun hHeld => ?_)
              clear hK K
              try simp only [Act.put, List.setIfInBounds_toArray, List.set_cons_zero, List.set_cons_succ]
              refine stepL (i := 9) rfl (by kernel_rfl) (fun K hK => ?_)
              go_simp
              go_at_call 31
              refine (HS1.out _ hHeld.1).mono ?_
              rintro e w5 ⟨rfl, hw⟩
              subst hw
              go_wp2_with fail
              refine hK.out _ _ (SKH.out _ hHeld.1) (fun hHeld => ?_)
              clear hK K
              try simp only [Act.put, List.setIfInBounds_toArray, List.set_cons_zero, List.set_cons_succ]
              refine stepL (i := 14) rfl (by kernel_rfl) (fun K hK => ?_)
              go_simp
              go_at_call 32
              refine HS2A.out.mono ?_
              rintro e w6 ⟨rfl, hb⟩
              have HB5 := Lib.hid (hHeld.1.trans (hb.mono hHeld.1.size))
              clear hb
              go_wp2_with fail
              refine hK.out _ _ (SKH.out _ HB5.out) (fun hHeld => ?_)
              clear hK K
              try simp only [Act.put, List.setIfInBounds_toArray, List.set_cons_zero, List.set_cons_succ]
              refine takeL (i := 15) (v := ?_) rfl (by kernel_rfl) (by kernel_rfl) (by kernel_rfl) (fun _ _ _ h => h) (.inl ⟨by rfl, ?_⟩) (by assumption) ?_
              rotate_left
              · (intro w hSw; (try dsimp only at hSw); go_simp; (first | done | with_reducible rfl))
              try simp only [Act.put, List.setIfInBounds_toArray, List.set_cons_zero, List.set_cons_succ]
              refine takeL (i := 16) (v := ?_) rfl (by kernel_rfl) (by kernel_rfl) (by kernel_rfl) (fun _ _ _ h => h) (.inl ⟨by rfl, ?_⟩) (by assumption) ?_
              rotate_left
              · (intro w hSw; (try dsimp only at hSw); go_simp; (first | done | with_reducible rfl))
              try simp only [Act.put, List.setIfInBounds_toArray, List.set_cons_zero, List.set_cons_succ]
              refine takeL (i := 17) (v := ?_) rfl (by kernel_rfl) (by kernel_rfl) (by kernel_rfl) (fun _ _ _ h => h) (.inl ⟨by rfl, ?_⟩) (by assumption) ?_
              rotate_left
              · (intro w hSw; (try dsimp only at hSw); go_simp; (first | done | with_reducible rfl))
              try simp only [Act.put, List.setIfInBounds_toArray, List.set_cons_zero, List.set_cons_succ]
              refine takeL (i := 18) (v := ?_) rfl (by kernel_rfl) (by kernel_rfl) (by kernel_rfl) (fun _ _ _ h => h) (.inl ⟨by rfl, ?_⟩) (by assumption) ?_
              rotate_left
              · (intro w hSw; (try dsimp only at hSw); go_simp; (first | done | with_reducible rfl))
              try simp only [Act.put, List.setIfInBounds_toArray, List.set_cons_zero, List.set_cons_succ]
              refine takeL (i := 19) (v := ?_) rfl (by kernel_rfl) (by kernel_rfl) (by kernel_rfl) (fun _ _ _ h => h) (.inl ⟨by rfl, ?_⟩) (by assumption) ?_
              rotate_left
              · (intro w hSw; (try dsimp only at hSw); go_simp; (first | done | with_reducible rfl))
              try simp only [Act.put, List.setIfInBounds_toArray, List.set_cons_zero, List.set_cons_succ]
              refine takeL (i := 20) (v := ?_) rfl (by kernel_rfl) (by kernel_rfl) (by kernel_rfl) (fun _ _ _ h => h) (.inl ⟨by rfl, ?_⟩) (by assumption) ?_
              rotate_left
              · (intro w hSw; (try dsimp only at hSw); go_simp; (first | done | with_reducible rfl))
              try simp only [Act.put, List.setIfInBounds_toArray, List.set_cons_zero, List.set_cons_succ]
              refine takeL (i := 21) (v := ?_) rfl (by kernel_rfl) (by kernel_rfl) (by kernel_rfl) (fun _ _ _ h => h) (.inl ⟨by rfl, ?_⟩) (by assumption) ?_
              rotate_left
              · (intro w hSw; (try dsimp only at hSw); go_simp; (first | done | with_reducible rfl))
              try simp only [Act.put, List.setIfInBounds_toArray, List.set_cons_zero, List.set_cons_succ]
              refine takeL (i := 22) (v := ?_) rfl (by kernel_rfl) (by kernel_rfl) (by kernel_rfl) (fun _ _ _ h => h) (.inl ⟨by rfl, ?_⟩) (by assumption) ?_
              rotate_left
              · (intro w hSw; (try dsimp only at hSw); go_simp; (first | done | with_reducible rfl))
              try simp only [Act.put, List.setIfInBounds_toArray, List.set_cons_zero, List.set_cons_succ]
              refine takeL (i := 23) (v := ?_) rfl (by kernel_rfl) (by kernel_rfl) (by kernel_rfl) (fun _ _ _ h => h) (.inl ⟨by rfl, ?_⟩) (by assumption) ?_
              rotate_left
              · (intro w hSw; (try dsimp only at hSw); go_simp; (first | done | with_reducible rfl))
              try simp only [Act.put, List.setIfInBounds_toArray, List.set_cons_zero, List.set_cons_succ]
              refine takeL (i := 24) (v := ?_) rfl (by kernel_rfl) (by kernel_rfl) (by kernel_rfl) (fun _ _ _ h => h) (.inl ⟨by rfl, ?_⟩) (by assumption) ?_
              rotate_left
              · (intro w hSw; (try dsimp only at hSw); go_simp; (first | done | with_reducible rfl))
              try simp only [Act.put, List.setIfInBounds_toArray, List.set_cons_zero, List.set_cons_succ]
              refine takeL (i := 25) (v := ?_) rfl (by kernel_rfl) (by kernel_rfl) (by kernel_rfl) (fun _ _ _ h => h) (.inl ⟨by rfl, ?_⟩) (by assumption) ?_
              rotate_left
              · (intro w hSw; (try dsimp only at hSw); go_simp; (first | done | with_reducible rfl))
              try simp only [Act.put, List.setIfInBounds_toArray, List.set_cons_zero, List.set_cons_succ]
              refine takeL (i := 26) (v := ?_) rfl (by kernel_rfl) (by kernel_rfl) (by kernel_rfl) (fun _ _ _ h => h) (.inl ⟨by rfl, ?_⟩) (by assumption) ?_
              rotate_left
              · (intro w hSw; (try dsimp only at hSw); go_simp; (first | done | with_reducible rfl))
              try simp only [Act.put, List.setIfInBounds_toArray, List.set_cons_zero, List.set_cons_succ]
              refine takeL (i := 27) (v := ?_) rfl (by kernel_rfl) (by kernel_rfl) (by kernel_rfl) (fun _ _ _ h => h) (.inl ⟨by rfl, ?_⟩) (by assumption) ?_
              rotate_left
              · (intro w hSw; (try dsimp only at hSw); go_simp; (first | done | with_reducible rfl))
              try simp only [Act.put, List.setIfInBounds_toArray, List.set_cons_zero, List.set_cons_succ]
              refine wpAnyH_done (by kernel_rfl) ?_ _
              clear hHeld
              go_wp2_with fail
              go_meet
              exact ⟨rfl, HB5⟩
          · go_simp
            refine hK.out _ _ (SKH.out _ (hHeld.1.alloc hHeld.1.size _)) (fun hHeld => ?_)
            clear hK K
            try simp only [Act.put, List.setIfInBounds_toArray, List.set_cons_zero, List.set_cons_succ]
            refine readyL (rs := [9, 11]) (by kernel_rfl) (by simp) (consL rfl (fun K hK => ?_) (consL rfl (fun K hK => ?_) AllReadyH.nil))
            · go_simp
              go_at_call 31
              refine (HS1.out _ hHeld.1).mono ?_
              rintro e w5 ⟨rfl, hw⟩
              subst hw
              go_wp2_with fail
              refine hK.out _ _ (SKH.out _ hHeld.1) (fun hHeld => ?_)
              clear hK K
              try simp only [Act.put, List.setIfInBounds_toArray, List.set_cons_zero, List.set_cons_succ]
              refine stepL (i := 11) rfl (by kernel_rfl) (fun K hK => ?_)
              go_simp
              refine hK.out _ _ (SKH.out _ (hHeld.1.alloc hHeld.1.size _)) (fun hHeld => ?_)
              clear hK K
              try simp only [Act.put, List.setIfInBounds_toArray, List.set_cons_zero, List.set_cons_succ]
              refine stepL (i := 14) rfl (by kernel_rfl) (fun K hK => ?_)
              go_simp
              go_at_call 32
              refine HS2B.out.mono ?_
              rintro e w6 ⟨rfl, hb⟩
              have HB5 := Lib.hid (hHeld.1.trans (hb.mono hHeld.1.size))
              clear hb
              go_wp2_with fail
              refine hK.out _ _ (SKH.out _ HB5.out) (fun hHeld => ?_)
              clear hK K
              try simp only [Act.put, List.setIfInBounds_toArray, List.set_cons_zero, List.set_cons_succ]
              refine takeL (i := 15) (v := ?_) rfl (by kernel_rfl) (by kernel_rfl) (by kernel_rfl) (fun _ _ _ h => h) (.inl ⟨by rfl, ?_⟩) (by assumption) ?_
              rotate_left
              · (intro w hSw; (try dsimp only at hSw); go_simp; (first | done | with_reducible rfl))
              try simp only [Act.put, List.setIfInBounds_toArray, List.set_cons_zero, List.set_cons_succ]
              refine takeL (i := 16) (v := ?_) rfl (by kernel_rfl) (by kernel_rfl) (by kernel_rfl) (fun _ _ _ h => h) (.inl ⟨by rfl, ?_⟩) (by assumption) ?_
              rotate_left
              · (intro w hSw; (try dsimp only at hSw); go_simp; (first | done | with_reducible rfl))
              try simp only [Act.put, List.setIfInBounds_toArray, List.set_cons_zero, List.set_cons_succ]
              refine takeL (i := 17) (v := ?_) rfl (by kernel_rfl) (by kernel_rfl) (by kernel_rfl) (fun _ _ _ h => h) (.inl ⟨by rfl, ?_⟩) (by assumption) ?_
              rotate_left
              · (intro w hSw; (try dsimp only at hSw); go_simp; (first | done | with_reducible rfl))
              try simp only [Act.put, List.setIfInBounds_toArray, List.set_cons_zero, List.set_cons_succ]
              refine takeL (i := 18) (v := ?_) rfl (by kernel_rfl) (by kernel_rfl) (by kernel_rfl) (fun _ _ _ h => h) (.inl ⟨by rfl, ?_⟩) (by assumption) ?_
              rotate_left
              · (intro w hSw; (try dsimp only at hSw); go_simp; (first | done | with_reducible rfl))
              try simp only [Act.put, List.setIfInBounds_toArray, List.set_cons_zero, List.set_cons_succ]
              refine takeL (i := 19) (v := ?_) rfl (by kernel_rfl) (by kernel_rfl) (by kernel_rfl) (fun _ _ _ h => h) (.inl ⟨by rfl, ?_⟩) (by assumption) ?_
              rotate_left
              · (intro w hSw; (try dsimp only at hSw); go_simp; (first | done | with_reducible rfl))
              try simp only [Act.put, List.setIfInBounds_toArray, List.set_cons_zero, List.set_cons_succ]
              refine takeL (i := 20) (v := ?_) rfl (by kernel_rfl) (by kernel_rfl) (by kernel_rfl) (fun _ _ _ h => h) (.inl ⟨by rfl, ?_⟩) (by assumption) ?_
              rotate_left
              · (intro w hSw; (try dsimp only at hSw); go_simp; (first | done | with_reducible rfl))
              try simp only [Act.put, List.setIfInBounds_toArray, List.set_cons_zero, List.set_cons_succ]
              refine takeL (i := 21) (v := ?_) rfl (by kernel_rfl) (by kernel_rfl) (by kernel_rfl) (fun _ _ _ h => h) (.inl ⟨by rfl, ?_⟩) (by assumption) ?_
              rotate_left
              · (intro w hSw; (try dsimp only at hSw); go_simp; (first | done | with_reducible rfl))
              try simp only [Act.put, List.setIfInBounds_toArray, List.set_cons_zero, List.set_cons_succ]
              refine takeL (i := 22) (v := ?_) rfl (by kernel_rfl) (by kernel_rfl) (by kernel_rfl) (fun _ _ _ h => h) (.inl ⟨by rfl, ?_⟩) (by assumption) ?_
              rotate_left
              · (intro w hSw; (try dsimp only at hSw); go_simp; (first | done | with_reducible rfl))
              try simp only [Act.put, List.setIfInBounds_toArray, List.set_cons_zero, List.set_cons_succ]
              refine takeL (i := 23) (v := ?_) rfl (by kernel_rfl) (by kernel_rfl) (by kernel_rfl) (fun _ _ _ h => h) (.inl ⟨by rfl, ?_⟩) (by assumption) ?_
              rotate_left
              · (intro w hSw; (try dsimp only at hSw); go_simp; (first | done | with_reducible rfl))
              try simp only [Act.put, List.setIfInBounds_toArray, List.set_cons_zero, List.set_cons_succ]
              refine takeL (i := 24) (v := ?_) rfl (by kernel_rfl) (by kernel_rfl) (by kernel_rfl) (fun _ _ _ h => h) (.inl ⟨by rfl, ?_⟩) (by assumption) ?_
              rotate_left
              · (intro w hSw; (try dsimp only at hSw); go_simp; (first | done | with_reducible rfl))
              try simp only [Act.put, List.setIfInBounds_toArray, List.set_cons_zero, List.set_cons_succ]
              refine takeL (i := 25) (v := ?_) rfl (by kernel_rfl) (by kernel_rfl) (by kernel_rfl) (fun _ _ _ h => h) (.inl ⟨by rfl, ?_⟩) (by assumption) ?_
              rotate_left
              · (intro w hSw; (try dsimp only at hSw); go_simp; (first | done | with_reducible rfl))
              try simp only [Act.put, List.setIfInBounds_toArray, List.set_cons_zero, List.set_cons_succ]
              refine takeL (i := 26) (v := ?_) rfl (by kernel_rfl) (by kernel_rfl) (by kernel_rfl) (fun _ _ _ h => h) (.inl ⟨by rfl, ?_⟩) (by assumption) ?_
              rotate_left
              · (intro w hSw; (try dsimp only at hSw); go_simp; (first | done | with_reducible rfl))
              try simp only [Act.put, List.setIfInBounds_toArray, List.set_cons_zero, List.set_cons_succ]
              refine takeL (i := 27) (v := ?_) rfl (by kernel_rfl) (by kernel_rfl) (by kernel_rfl) (fun _ _ _ h => h) (.inl ⟨by rfl, ?_⟩) (by assumption) ?_
              rotate_left
              · (intro w hSw; (try dsimp only at hSw); go_simp; (first | done | with_reducible rfl))
              try simp only [Act.put, List.setIfInBounds_toArray, List.set_cons_zero, List.set_cons_succ]
              refine wpAnyH_done (by kernel_rfl) ?_ _
              clear hHeld
              go_wp2_with fail
              go_meet
              exact ⟨rfl, HB5⟩
            · go_simp
              refine hK.out _ _ (SKH.out _ (hHeld.1.alloc hHeld.1.size _)) (fun hHeld => ?_)
              clear hK K
              try simp only [Act.put, List.setIfInBounds_toArray, List.set_cons_zero, List.set_cons_succ]
              refine stepL (i := 9) rfl (by kernel_rfl) (fun K hK => ?_)
              go_simp
              go_at_call 31
              refine (HS1.out _ hHeld.1).mono ?_
              rintro e w5 ⟨rfl, hw⟩
              subst hw
              go_wp2_with fail
              refine hK.out _ _ (SKH.out _ hHeld.1) (fun hHeld => ?_)
              clear hK K
              try simp only [Act.put, List.setIfInBounds_toArray, List.set_cons_zero, List.set_cons_succ]
              refine stepL (i := 14) rfl (by kernel_rfl) (fun K hK => ?_)
              go_simp
              go_at_call 32
              refine HS2B.out.mono ?_
              rintro e w6 ⟨rfl, hb⟩
              have HB5 := Lib.hid (hHeld.1.trans (hb.mono hHeld.1.size))
              clear hb
              go_wp2_with fail
              refine hK.out _ _ (SKH.out _ HB5.out) (fun hHeld => ?_)
              clear hK K
              try simp only [Act.put, List.setIfInBounds_toArray, List.set_cons_zero, List.set_cons_succ]
              refine takeL (i := 15) (v := ?_) rfl (by kernel_rfl) (by kernel_rfl) (by kernel_rfl) (fun _ _ _ h => h) (.inl ⟨by rfl, ?_⟩) (by assumption) ?_
              rotate_left
              · (intro w hSw; (try dsimp only at hSw); go_simp; (first | done | with_reducible rfl))
              try simp only [Act.put, List.setIfInBounds_toArray, List.set_cons_zero, List.set_cons_succ]
              refine takeL (i := 16) (v := ?_) rfl (by kernel_rfl) (by kernel_rfl) (by kernel_rfl) (fun _ _ _ h => h) (.inl ⟨by rfl, ?_⟩) (by assumption) ?_
              rotate_left
              · (intro w hSw; (try dsimp only at hSw); go_simp; (first | done | with_reducible rfl))
              try simp only [Act.put, List.setIfInBounds_toArray, List.set_cons_zero, List.set_cons_succ]
              refine takeL (i := 17) (v := ?_) rfl (by kernel_rfl) (by kernel_rfl) (by kernel_rfl) (fun _ _ _ h => h) (.inl ⟨by rfl, ?_⟩) (by assumption) ?_
              rotate_left
              · (intro w hSw; (try dsimp only at hSw); go_simp; (first | done | with_reducible rfl))
              try simp only [Act.put, List.setIfInBounds_toArray, List.set_cons_zero, List.set_cons_succ]
              refine takeL (i := 18) (v := ?_) rfl (by kernel_rfl) (by kernel_rfl) (by kernel_rfl) (fun _ _ _ h => h) (.inl ⟨by rfl, ?_⟩) (by assumption) ?_
              rotate_left
              · (intro w hSw; (try dsimp only at hSw); go_simp; (first | done | with_reducible rfl))
              try simp only [Act.put, List.setIfInBounds_toArray, List.set_cons_zero, List.set_cons_succ]
              refine takeL (i := 19) (v := ?_) rfl (by kernel_rfl) (by kernel_rfl) (by kernel_rfl) (fun _ _ _ h => h) (.inl ⟨by rfl, ?_⟩) (by assumption) ?_
              rotate_left
              · (intro w hSw; (try dsimp only at hSw); go_simp; (first | done | with_reducible rfl))
              try simp only [Act.put, List.setIfInBounds_toArray, List.set_cons_zero, List.set_cons_succ]
              refine takeL (i := 20) (v := ?_) rfl (by kernel_rfl) (by kernel_rfl) (by kernel_rfl) (fun _ _ _ h => h) (.inl ⟨by rfl, ?_⟩) (by assumption) ?_
              rotate_left
              · (intro w hSw; (try dsimp only at hSw); go_simp; (first | done | with_reducible rfl))
              try simp only [Act.put, List.setIfInBounds_toArray, List.set_cons_zero, List.set_cons_succ]
              refine takeL (i := 21) (v := ?_) rfl (by kernel_rfl) (by kernel_rfl) (by kernel_rfl) (fun _ _ _ h => h) (.inl ⟨by rfl, ?_⟩) (by assumption) ?_
              rotate_left
              · (intro w hSw; (try dsimp only at hSw); go_simp; (first | done | with_reducible rfl))
              try simp only [Act.put, List.setIfInBounds_toArray, List.set_cons_zero, List.set_cons_succ]
              refine takeL (i := 22) (v := ?_) rfl (by kernel_rfl) (by kernel_rfl) (by kernel_rfl) (fun _ _ _ h => h) (.inl ⟨by rfl, ?_⟩) (by assumption) ?_
              rotate_left
              · (intro w hSw; (try dsimp only at hSw); go_simp; (first | done | with_reducible rfl))
              try simp only [Act.put, List.setIfInBounds_toArray, List.set_cons_zero, List.set_cons_succ]
              refine takeL (i := 23) (v := ?_) rfl (by kernel_rfl) (by kernel_rfl) (by kernel_rfl) (fun _ _ _ h => h) (.inl ⟨by rfl, ?_⟩) (by assumption) ?_
              rotate_left
              · (intro w hSw; (try dsimp only at hSw); go_simp; (first | done | with_reducible rfl))
              try simp only [Act.put, List.setIfInBounds_toArray, List.set_cons_zero, List.set_cons_succ]
              refine takeL (i := 24) (v := ?_) rfl (by kernel_rfl) (by kernel_rfl) (by kernel_rfl) (fun _ _ _ h => h) (.inl ⟨by rfl, ?_⟩) (by assumption) ?_
              rotate_left
              · (intro w hSw; (try dsimp only at hSw); go_simp; (first | done | with_reducible rfl))
              try simp only [Act.put, List.setIfInBounds_toArray, List.set_cons_zero, List.set_cons_succ]
              refine takeL (i := 25) (v := ?_) rfl (by kernel_rfl) (by kernel_rfl) (by kernel_rfl) (fun _ _ _ h => h) (.inl ⟨by rfl, ?_⟩) (by assumption) ?_
              rotate_left
              · (intro w hSw; (try dsimp only at hSw); go_simp; (first | done | with_reducible rfl))
              try simp only [Act.put, List.setIfInBounds_toArray, List.set_cons_zero, List.set_cons_succ]
              refine takeL (i := 26) (v := ?_) rfl (by kernel_rfl) (by kernel_rfl) (by kernel_rfl) (fun _ _ _ h => h) (.inl ⟨by rfl, ?_⟩) (by assumption) ?_
              rotate_left
              · (intro w hSw; (try dsimp only at hSw); go_simp; (first | done | with_reducible rfl))
              try simp only [Act.put, List.setIfInBounds_toArray, List.set_cons_zero, List.set_cons_succ]
              refine takeL (i := 27) (v := ?_) rfl (by kernel_rfl) (by kernel_rfl) (by kernel_rfl) (fun _ _ _ h => h) (.inl ⟨by rfl, ?_⟩) (by assumption) ?_
              rotate_left
              · (intro w hSw; (try dsimp only at hSw); go_simp; (first | done | with_reducible rfl))
              try simp only [Act.put, List.setIfInBounds_toArray, List.set_cons_zero, List.set_cons_succ]
              refine wpAnyH_done (by kernel_rfl) ?_ _
              clear hHeld
              go_wp2_with fail
              go_meet
              exact ⟨rfl, HB5⟩
    case rest =>
      obtain ⟨rfl, HBC⟩ := hcut
      have hbw := HB4.out.trans (HBC.out.mono HB4.out.size)
      have HBX := Lib.hid hbw
      have hpa := parse_any (.slice C Lc f) ys wc (HRC.out.below hbw) HL.out
      cases hps : parseB ys with
      | none =>
        rw [hps] at hpa
        have HPA := Lib.hid hpa
        clear hbw hpa hps HB4 HBC HBW K1 K2 HY1' HY2 d0 d1 d2 d3
        go_upto_region 12 with (go_at_call 33; refine HPA.out.mono ?_; rintro e w7 ⟨N, E, u, rfl, hb, rfl, rfl, rfl⟩; have HB7 := Lib.hid (HBX.out.trans (hb.mono HBX.out.size)); clear hb)
        obtain ⟨W8, hW8⟩ : ∃ x, w7.alloc (.cells #[.int .i64 0, .slice none 0 0] 52) = x := ⟨_, rfl⟩
        have HB8 : Hid (Below w.heap.size w W8) := by show Below _ _ _; rw [← hW8]; exact HB7.out.alloc HB7.out.size _
        rw [hW8]
        clear hW8
        have HNM := Lib.hid (name_any first W8 (HG.out.below HB8.out))
        have hfi := fun (w2 : World) (hb2 : Below w.heap.size w w2) => first_any (nameL first) w2 (Nat.le_trans (nameL_size first) (by omega)) (HG.out.below hb2)
        rw [firstL_name] at hfi
        obtain ⟨nm, hnm⟩ : ∃ nm, nameL first = nm := ⟨_, rfl⟩
        rw [hnm] at hfi HNM
        clear hnm
        by_cases hf : inL first
        · rw [if_pos hf] at hfi
          have HFI := Lib.hid hfi
          have g1 : (1 : Int) ≤ first := hf.1
          have g2 : first ≤ (1152921504606846976 : Int) := hf.2
          clear hf hfi
          go_wp2_with (first | (go_at_call 35; (with_reducible refine HNM.out.mono ?_); rintro e w9 ⟨rfl, hb⟩; have HB9 := Lib.hid (HB8.out.trans (hb.mono HB8.out.size)); clear hb HNM) | (go_at_call 34; (with_reducible refine (HFI.out _ HB9.out).mono ?_); rintro e w10 ⟨rfl, hb⟩; have HB10 := Lib.hid (HB9.out.trans (hb.mono HB9.out.size)); clear hb HFI) | (go_at_call 21; (with_reducible refine (awake_any _ (HG.out.below HB10.out)).mono ?_); rintro e w11 ⟨rfl, hb⟩; have HB11 := Lib.hid (HB10.out.trans (hb.mono HB10.out.size)); clear hb))
          exact bodyPost_ret (v := .bool true) (by simp [results]) rfl ⟨rfl, HB11.out⟩
        · rw [if_neg hf] at hfi
          have HFI := Lib.hid hfi
          clear hfi
          by_cases g1 : (1 : Int) ≤ first
          · have g2 : (1152921504606846976 : Int) < first := Int.not_le.1 fun h => hf ⟨g1, h⟩
            have g3 : decide (first ≤ (1152921504606846976 : Int)) = false := decide_eq_false (by omega)
            clear hf
            go_wp2_with (first | (go_at_call 35; (with_reducible refine HNM.out.mono ?_); rintro e w9 ⟨rfl, hb⟩; have HB9 := Lib.hid (HB8.out.trans (hb.mono HB8.out.size)); clear hb HNM) | (go_at_call 34; (with_reducible refine (HFI.out _ HB9.out).mono ?_); rintro e w10 ⟨rfl, hb⟩; have HB10 := Lib.hid (HB9.out.trans (hb.mono HB9.out.size)); clear hb HFI) | (go_at_call 21; (with_reducible refine (awake_any _ (HG.out.below HB10.out)).mono ?_); rintro e w11 ⟨rfl, hb⟩; have HB11 := Lib.hid (HB10.out.trans (hb.mono HB10.out.size)); clear hb))
            exact bodyPost_ret (v := .bool true) (by simp [results]) rfl ⟨rfl, HB11.out⟩
          · clear hf
            go_wp2_with (first | (go_at_call 35; (with_reducible refine HNM.out.mono ?_); rintro e w9 ⟨rfl, hb⟩; have HB9 := Lib.hid (HB8.out.trans (hb.mono HB8.out.size)); clear hb HNM) | (go_at_call 34; (with_reducible refine (HFI.out _ HB9.out).mono ?_); rintro e w10 ⟨rfl, hb⟩; have HB10 := Lib.hid (HB9.out.trans (hb.mono HB9.out.size)); clear hb HFI) | (go_at_call 21; (with_reducible refine (awake_any _ (HG.out.below HB10.out)).mono ?_); rintro e w11 ⟨rfl, hb⟩; have HB11 := Lib.hid (HB10.out.trans (hb.mono HB10.out.size)); clear hb))
            exact bodyPost_ret (v := .bool true) (by simp [results]) rfl ⟨rfl, HB11.out⟩
      | some r =>
        obtain ⟨n, l⟩ := r
        rw [hps] at hpa
        have HPA := Lib.hid hpa
        obtain ⟨hp1, hp2⟩ := parse_bytes hps
        have hrec : ∀ y ∈ l, y.length ≤ 100000000000 := fun y hy => by
          have h6 := (parse_back hps).2.2.2.2.2
          rw [← hp2] at h6
          have := rec_le n hy
          omega
        have hby := fun (u : Value) (w2 : World) (hr2 : RdL w2 u l) => bytes_any n u l w2 hr2 hrec
        unfold BPost at hby
        rw [hp1, if_pos rfl, Int.toNat_natCast, hp2] at hby
        have HBY := Lib.hid hby
        have hsb := fun (w2 : World) (z v : Value) (h1 : RdB w2 z ys) (h2 : RdB w2 v ys) => sameBytes_any z v ys ys w2 h1 h2
        rw [show decide (ys = ys) = true by simp] at hsb
        have HSB2 := Lib.hid hsb
        clear hbw hpa hps hp1 hp2 hrec hby hsb HB4 HBC HBW K1 K2 HY1' HY2 d0 d1 d2 d3
        go_upto_region 8 with (go_at_call 33; refine HPA.out.mono ?_; rintro e w7 ⟨N, E, u, rfl, hb, rfl, rfl, hru⟩; obtain ⟨A5, c5, rfl, _, _⟩ := hru.form; have HB7 := Lib.hid (HBX.out.trans (hb.mono HBX.out.size)); have HRU := Lib.hid hru; clear hb hru)
        obtain ⟨W8, hW8⟩ : ∃ x, w7.alloc (.cells #[.int .i64 n, .slice A5 l.length c5] 52) = x := ⟨_, rfl⟩
        have hb8 : Below w7.heap.size w7 W8 := by rw [← hW8]; exact below1 _ _
        have k8 : W8.heap[w7.heap.size]? = some (.cells #[.int .i64 n, .slice A5 l.length c5] 52) := by rw [← hW8]; exact alloc_at _ _
        have HB8' := Lib.hid (HB7.out.trans (hb8.mono HB7.out.size))
        have HRU8 := Lib.hid (HRU.out.below hb8)
        have d0 := blk_cell k8 0
        have d1 := blk_cell k8 1
        simp at d0 d1
        rw [hW8]
        clear hW8 hb8 k8 HRU HB7
        go_upto_region 10 with (go_at_call 30; refine (HBY.out _ _ HRU8.out).mono ?_; rintro e w9 ⟨z, rfl, hz, hb⟩; obtain ⟨A6, c6, rfl⟩ := bytes_form hz; have HZ := Lib.hid hz; have HB8 := Lib.hid (HB8'.out.trans (hb.mono HB8'.out.size)); clear hz hb)
        have HRC8 := Lib.hid (HRC.out.below HB8.out)
        rw [HLC.out] at HZ ⊢
        have W8 := w9
        go_upto_region 12 with (go_at_call 31; refine (HSB2.out _ _ _ HZ.out.reads HRC8.out).mono ?_; rintro e w10 ⟨rfl, hw⟩; subst hw)
        have HNM := Lib.hid (name_any first w9 (HG.out.below HB8.out))
        have hfi := fun (w2 : World) (hb2 : Below w.heap.size w w2) => first_any (nameL first) w2 (Nat.le_trans (nameL_size first) (by omega)) (HG.out.below hb2)
        rw [firstL_name] at hfi
        obtain ⟨nm, hnm⟩ : ∃ nm, nameL first = nm := ⟨_, rfl⟩
        rw [hnm] at hfi HNM
        clear hnm
        by_cases hf : inL first
        · rw [if_pos hf] at hfi
          have HFI := Lib.hid hfi
          have g1 : (1 : Int) ≤ first := hf.1
          have g2 : first ≤ (1152921504606846976 : Int) := hf.2
          clear hf hfi
          go_wp2_with (first | (go_at_call 35; (with_reducible refine HNM.out.mono ?_); rintro e w9 ⟨rfl, hb⟩; have HB9 := Lib.hid (HB8.out.trans (hb.mono HB8.out.size)); clear hb HNM) | (go_at_call 34; (with_reducible refine (HFI.out _ HB9.out).mono ?_); rintro e w10 ⟨rfl, hb⟩; have HB10 := Lib.hid (HB9.out.trans (hb.mono HB9.out.size)); clear hb HFI) | (go_at_call 21; (with_reducible refine (awake_any _ (HG.out.below HB10.out)).mono ?_); rintro e w11 ⟨rfl, hb⟩; have HB11 := Lib.hid (HB10.out.trans (hb.mono HB10.out.size)); clear hb))
          exact bodyPost_ret (v := .bool true) (by simp [results]) rfl ⟨rfl, HB11.out⟩
        · rw [if_neg hf] at hfi
          have HFI := Lib.hid hfi
          clear hfi
          by_cases g1 : (1 : Int) ≤ first
          · have g2 : (1152921504606846976 : Int) < first := Int.not_le.1 fun h => hf ⟨g1, h⟩
            have g3 : decide (first ≤ (1152921504606846976 : Int)) = false := decide_eq_false (by omega)
            clear hf
            go_wp2_with (first | (go_at_call 35; (with_reducible refine HNM.out.mono ?_); rintro e w9 ⟨rfl, hb⟩; have HB9 := Lib.hid (HB8.out.trans (hb.mono HB8.out.size)); clear hb HNM) | (go_at_call 34; (with_reducible refine (HFI.out _ HB9.out).mono ?_); rintro e w10 ⟨rfl, hb⟩; have HB10 := Lib.hid (HB9.out.trans (hb.mono HB9.out.size)); clear hb HFI) | (go_at_call 21; (with_reducible refine (awake_any _ (HG.out.below HB10.out)).mono ?_); rintro e w11 ⟨rfl, hb⟩; have HB11 := Lib.hid (HB10.out.trans (hb.mono HB10.out.size)); clear hb))
            exact bodyPost_ret (v := .bool true) (by simp [results]) rfl ⟨rfl, HB11.out⟩
          · clear hf
            go_wp2_with (first | (go_at_call 35; (with_reducible refine HNM.out.mono ?_); rintro e w9 ⟨rfl, hb⟩; have HB9 := Lib.hid (HB8.out.trans (hb.mono HB8.out.size)); clear hb HNM) | (go_at_call 34; (with_reducible refine (HFI.out _ HB9.out).mono ?_); rintro e w10 ⟨rfl, hb⟩; have HB10 := Lib.hid (HB9.out.trans (hb.mono HB9.out.size)); clear hb HFI) | (go_at_call 21; (with_reducible refine (awake_any _ (HG.out.below HB10.out)).mono ?_); rintro e w11 ⟨rfl, hb⟩; have HB11 := Lib.hid (HB10.out.trans (hb.mono HB10.out.size)); clear hb))
            exact bodyPost_ret (v := .bool true) (by simp [results]) rfl ⟨rfl, HB11.out⟩
end Go.Proofs.YthehpafkaefohaaGreatDoor

/- Walks: Pick, Clone, Read. Conditions: sizes a machine can have; Read: of a file that there is. -/
import Derived.Test.YthehpafkaefohaaDoorCkM26
import Derived.Laws.Cover3
import Derived.Test.YthehpafkaefohaaDoorCkM27
import Derived.Test.YthehpafkaefohaaDoorCkM24
import Derived.Deep.CutBlock
import Derived.Test.YthehpafkaefohaaDoorCkM25
namespace Go.Proofs.YthehpafkaefohaaDoor
open Go.RowKit
set_option maxRecDepth 20000 in
set_option maxHeartbeats 1000000 in
theorem pick_any (x n : Int) (w : World) (h0 : 0 < n) (h1 : n ≤ 1000000) (_h2 : -9223372036854775808 ≤ x) (_h3 : x ≤ 9223372036854775807) :
    Calls Tryd.prog 4 #[.int .i64 x, .int .i64 n] w fun e w' => e = .returned (.int .i64 (x % n)) ∧ w = w' := by
  have hz : ¬ n ≤ 0 := by omega
  have hz1 : (n == 0) = false := by simp; omega
  have hm := Int.emod_nonneg x (show n ≠ 0 by omega)
  have hlt := Int.emod_lt_of_pos x h0
  obtain ⟨t, ht⟩ : ∃ t, x.tmod n = t := ⟨_, rfl⟩
  have hw : IntKind.i64.wrap t = t := by
    rw [IntKind.wrap_i64]
    have h5 := Int.tmod_lt_of_pos x h0
    have h6 : -n < x.tmod n := by
      have h7 := Int.tmod_lt_of_pos (-x) h0
      rw [Int.neg_tmod] at h7
      omega
    omega
  have key : t = x % n ∨ (t < 0 ∧ t + n = x % n) := by
    have h4 := Int.tmod_eq_emod (a := x) (b := n)
    rw [ht] at h4
    split at h4
    · left; omega
    · have h8 : (n.natAbs : Int) = n := by omega
      have h9 := Int.tmod_lt_of_pos x h0
      right
      rw [h8] at h4
      refine ⟨by omega, by omega⟩
  have HK := Lib.hid key
  obtain ⟨r, hr⟩ : ∃ r, x % n = r := ⟨_, rfl⟩
  rw [hr] at HK hm hlt ⊢
  clear key hr
  rcases HK.out with rfl | ⟨h5, h6⟩
  · go_enter Tryd.func4, Tryd.ntmps4
    go_wp2
    refine wp_loop_rounds 1 ?_
    rw [rounds_succ]
    go_wp2
    go_ret
    exact ⟨rfl, rfl⟩
  · have hw2 : IntKind.i64.wrap (t + n) = r := by rw [IntKind.wrap_i64]; omega
    have hr0 : ¬ r < 0 := by omega
    go_enter Tryd.func4, Tryd.ntmps4
    go_wp2
    refine wp_loop_rounds 2 ?_
    rw [rounds_succ]
    go_wp2
    rw [rounds_succ]
    go_wp2
    go_ret
    exact ⟨rfl, rfl⟩
theorem eql_nil (a : Option Addr) (n c : Nat) (w : World) : Sem.run Tryd.prog (binOp .eql 43 (.slice a n c) (.slice none 0 0)) w = .ok (.bool a.isNone) w := by
  simp only [binOp]
  simp [run_equal_slice_nil (P := Tryd.prog) w 43 5 a n c Tryd.underlying43]
theorem bytes_zero {w : World} {g base : Nat} (h : w.heap[g]? = some (.cells #[] 5)) (hb : base ≤ g) : Bytes base w (.slice (some ⟨g, 0, none⟩) 0 0) [] :=
  ⟨by simp [Lib.byteCells], .inr ⟨g, 0, #[], rfl, hb, h, Nat.le_refl _, by simp only [maxLen]; omega, by simp, by simp [Lib.byteCells]⟩⟩
set_option maxRecDepth 20000 in
set_option maxHeartbeats 1000000 in
theorem clone_any (v : Value) (xs : List UInt8) (w : World) (hr : RdB w v xs) (hl : xs.length ≤ 100000000000) :
    Calls Tryd.prog 32 #[v] w fun e w' => ∃ z, e = .returned z ∧ Bytes w.heap.size w' z xs ∧ Below w.heap.size w w' := by
  have HR := Lib.hid hr
  rcases hr with ⟨rfl, rfl⟩ | ⟨b, o, c, rfl, _, _, _, _⟩
  · have hn := eql_nil none 0 0 w
    simp only [Option.isNone] at hn
    go_enter Tryd.func32, Tryd.ntmps32
    go_wp2
    exact bodyPost_ret (v := .slice none 0 0) (by simp [results]) rfl ⟨_, rfl, Bytes.nil _ _, Below.refl _ _⟩
  · obtain ⟨W1, hW1⟩ : ∃ x, w.alloc (.cells #[] 5) = x := ⟨_, rfl⟩
    have hb1 : Below w.heap.size w W1 := by rw [← hW1]; exact below1 w _
    have HO : Hid (Bytes w.heap.size W1 (.slice (some ⟨w.heap.size, 0, none⟩) 0 0) []) := bytes_zero (by rw [← hW1]; exact alloc_at _ _) (Nat.le_refl _)
    have HR1 := Lib.hid (HR.out.below hb1)
    have HB1 := Lib.hid hb1
    obtain ⟨L, hL⟩ : ∃ L, xs.length = L := ⟨_, rfl⟩
    rw [hL] at hl HR1 ⊢
    have HL := Lib.hid hL
    have hn := eql_nil (some ⟨b, o, none⟩) L c w
    simp only [Option.isNone] at hn
    clear hb1 hL
    go_enter Tryd.func32, Tryd.ntmps32
    go_wp2_with (at_builtin; refine wpList_append_bytes rfl _ _ rfl w.heap.size (.slice (some ⟨w.heap.size, 0, none⟩) 0 0) _ [] xs rfl HO.out rfl HR1.out (by rw [HL.out]; simp; omega) HB1.out.size ?_; intro v' w' ho hx; have HO2 := Lib.hid ho; have HB2 := Lib.hid (ext_below9 hx HO.out HB1.out (Nat.le_refl _)); clear ho hx)
    exact bodyPost_ret (v := v') (by simp [results]) rfl ⟨_, rfl, by simpa using HO2.out, HB2.out⟩
set_option maxRecDepth 20000 in
set_option maxHeartbeats 2000000 in
theorem read_any {w : World} {d : Nat} {st : DkSt} {v : Value} (h : DkAt w d st v) (ok : DkOk st) (hd : st.dark = false) (n : ByteArray) (hh : hasN st.fs n = true) (hl : (lookF st.fs n).bs.length ≤ 100000000000) :
    Calls Tryd.prog 14 #[.pointer (some ⟨d, 0, none⟩), .string n] w fun e w' => ∃ z, e = .returned (.tuple #[z, .int .i64 0]) ∧ Bytes w.heap.size w' z (lookF st.fs n).bs ∧ Below w.heap.size w w' := by
  have HL := lit_any h
  rw [show litE st = 0 by unfold litE; rw [if_neg (by simp [hd])]] at HL
  have HC := Lib.hid HL
  have hm := ok.many
  have HPL := Lib.hid (fun w2 (hb2 : Below w.heap.size w w2) => place_any v st.fs n w2 (h.below hb2).own ok.sorted (by omega))
  rw [hh] at HPL
  obtain ⟨f, hf, _⟩ := hasN_at hh
  have hq : lookF st.fs n = f := by unfold lookF; rw [if_pos hh, hf]; rfl
  rw [hq] at hl ⊢
  have HH := Lib.hid h
  obtain ⟨p, hp⟩ : ∃ p, plc st.fs n = p := ⟨_, rfl⟩
  obtain ⟨M, hM⟩ : ∃ M, st.fs.length = M := ⟨_, rfl⟩
  have hpl := (List.getElem?_eq_some_iff.1 hf).1
  obtain ⟨q0, q1, q2, q3, q4⟩ := h.cells
  obtain ⟨g, c, u1, hv, d0, d1, d2, hby, csg, hcsg⟩ := file_at h.own hf
  subst hv
  obtain ⟨A1, c1, rfl, _, _⟩ := hby.reads.form
  have HBY := Lib.hid (hby.reads)
  rw [hp] at HPL d0 d1 d2 hpl
  rw [hM] at HPL hpl q0
  have hpm : (p : Int) < M := by omega
  have hpp : (0 : Int) ≤ p := by omega
  clear h ok hd hh hf hq HL hm hp hM hby hcsg hpl
  go_enter Tryd.func14, Tryd.ntmps14
  go_wp2_with fail
  refine HC.out.mono ?_
  rintro e w2 ⟨rfl, hw⟩
  subst hw
  go_upto_region 4 with fail
  refine wp_region_all (fun w' => w'.cell? ⟨d, 0, none⟩ = some (.slice (some ⟨g, 0, none⟩) M c) ∧ w'.cell? ⟨d, 4, none⟩ = some (.func (.func 17) #[] #[])) 15 (by kernel_rfl) rfl ⟨q0, q4⟩ (fun hHeld => ?_)
  refine takeL (i := 0) (v := ?_) rfl (by kernel_rfl) (by kernel_rfl) (by kernel_rfl) (fun _ _ _ h => h) (.inl ⟨by rfl, ?_⟩) (by assumption) ?_
  rotate_left
  · (intro w hSw; (try dsimp only at hSw); go_simp; (first | done | with_reducible rfl))
  try simp only [Act.put, List.setIfInBounds_toArray, List.set_cons_zero, List.set_cons_succ]
  refine takeL (i := 1) (v := ?_) rfl (by kernel_rfl) (by kernel_rfl) (by kernel_rfl) (fun _ _ _ h => h) (.inl ⟨by rfl, ?_⟩) (by assumption) ?_
  rotate_left
  · (intro w hSw; (try dsimp only at hSw); go_simp; (first | done | with_reducible rfl))
  try simp only [Act.put, List.setIfInBounds_toArray, List.set_cons_zero, List.set_cons_succ]
  refine takeL (i := 2) (v := ?_) rfl (by kernel_rfl) (by kernel_rfl) (by kernel_rfl) (fun _ _ _ h => h) (.inl ⟨by rfl, ?_⟩) (by assumption) ?_
  rotate_left
  · (intro w hSw; (try dsimp only at hSw); go_simp; (first | done | with_reducible rfl))
  try simp only [Act.put, List.setIfInBounds_toArray, List.set_cons_zero, List.set_cons_succ]
  refine takeL (i := 3) (v := ?_) rfl (by kernel_rfl) (by kernel_rfl) (by kernel_rfl) (fun _ _ _ h => h) (.inl ⟨by rfl, ?_⟩) (by assumption) ?_
  rotate_left
  · (intro w hSw; (try dsimp only at hSw); go_simp; (first | done | with_reducible rfl))
  try simp only [Act.put, List.setIfInBounds_toArray, List.set_cons_zero, List.set_cons_succ]
  refine takeL (i := 4) (v := ?_) rfl (by kernel_rfl) (by kernel_rfl) (by kernel_rfl) (fun _ _ _ h => h) (.inl ⟨by rfl, ?_⟩) (by assumption) ?_
  rotate_left
  · (intro w hSw; (try dsimp only at hSw); go_simp; (first | done | with_reducible rfl))
  try simp only [Act.put, List.setIfInBounds_toArray, List.set_cons_zero, List.set_cons_succ]
  refine takeL (i := 5) (v := ?_) rfl (by kernel_rfl) (by kernel_rfl) (by kernel_rfl) (fun _ _ _ h => h) (.inl ⟨by rfl, ?_⟩) (by assumption) ?_
  rotate_left
  · (intro w hSw; (try dsimp only at hSw); go_simp; (first | done | with_reducible rfl))
  try simp only [Act.put, List.setIfInBounds_toArray, List.set_cons_zero, List.set_cons_succ]
  refine takeL (i := 6) (v := ?_) rfl (by kernel_rfl) (by kernel_rfl) (by kernel_rfl) (fun _ _ _ h => h) (.inl ⟨by rfl, ?_⟩) (by assumption) ?_
  rotate_left
  · (intro w hSw; (try dsimp only at hSw); go_simp; (first | done | with_reducible rfl))
  try simp only [Act.put, List.setIfInBounds_toArray, List.set_cons_zero, List.set_cons_succ]
  refine takeL (i := 7) (v := ?_) rfl (by kernel_rfl) (by kernel_rfl) (by kernel_rfl) (fun _ _ _ h => h) (.inl ⟨by rfl, ?_⟩) (by assumption) ?_
  rotate_left
  · (intro w hSw; (try dsimp only at hSw); go_simp; (first | done | with_reducible rfl))
  try simp only [Act.put, List.setIfInBounds_toArray, List.set_cons_zero, List.set_cons_succ]
  refine takeL (i := 8) (v := ?_) rfl (by kernel_rfl) (by kernel_rfl) (by kernel_rfl) (fun _ _ _ h => h) (.inl ⟨by rfl, ?_⟩) (by assumption) ?_
  rotate_left
  · (intro w hSw; (try dsimp only at hSw); go_simp; (first | done | with_reducible rfl))
  try simp only [Act.put, List.setIfInBounds_toArray, List.set_cons_zero, List.set_cons_succ]
  refine stepL (i := 9) rfl (by kernel_rfl) (fun K hK => ?_)
  go_simp
  go_at_call 17
  refine (HPL.out _ (Below.refl _ _).drew).mono ?_
  rintro e w5 ⟨rfl, hb⟩
  have HB5 : Hid (Below w.heap.size w w5) := Lib.hid (drewN_start (w := w) (q := 1) hb)
  clear hb
  go_wp2_with fail
  refine hK.out _ _ ⟨cell_later HB5.out q0, cell_later HB5.out q4⟩ (fun hHeld => ?_)
  clear hK K
  try simp only [Act.put, List.setIfInBounds_toArray, List.set_cons_zero, List.set_cons_succ]
  refine takeL (i := 10) (v := ?_) rfl (by kernel_rfl) (by kernel_rfl) (by kernel_rfl) (fun _ _ _ h => h) (.inl ⟨by rfl, ?_⟩) (by assumption) ?_
  rotate_left
  · (intro w hSw; (try dsimp only at hSw); go_simp; (first | done | with_reducible rfl))
  try simp only [Act.put, List.setIfInBounds_toArray, List.set_cons_zero, List.set_cons_succ]
  refine takeL (i := 11) (v := ?_) rfl (by kernel_rfl) (by kernel_rfl) (by kernel_rfl) (fun _ _ _ h => h) (.inl ⟨by rfl, ?_⟩) (by assumption) ?_
  rotate_left
  · (intro w hSw; (try dsimp only at hSw); go_simp; (first | done | with_reducible rfl))
  try simp only [Act.put, List.setIfInBounds_toArray, List.set_cons_zero, List.set_cons_succ]
  refine takeL (i := 12) (v := ?_) rfl (by kernel_rfl) (by kernel_rfl) (by kernel_rfl) (fun _ _ _ h => h) (.inl ⟨by rfl, ?_⟩) (by assumption) ?_
  rotate_left
  · (intro w hSw; (try dsimp only at hSw); go_simp; (first | done | with_reducible rfl))
  try simp only [Act.put, List.setIfInBounds_toArray, List.set_cons_zero, List.set_cons_succ]
  refine stepL (i := 13) rfl (by kernel_rfl) (fun K hK => ?_)
  go_simp
  refine hK.out _ _ ⟨cell_later HB5.out q0, cell_later HB5.out q4⟩ (fun hHeld => ?_)
  clear hK K
  try simp only [Act.put, List.setIfInBounds_toArray, List.set_cons_zero, List.set_cons_succ]
  refine stepL (i := 14) rfl (by kernel_rfl) (fun K hK => ?_)
  go_simp
  refine hK.out _ _ ⟨cell_later HB5.out q0, cell_later HB5.out q4⟩ (fun hHeld => ?_)
  clear hK K
  try simp only [Act.put, List.setIfInBounds_toArray, List.set_cons_zero, List.set_cons_succ]
  refine wpAnyH_done (by kernel_rfl) ?_ _
  clear hHeld
  have z0 := cell_later HB5.out q0
  have z1 := cell_later HB5.out d1
  have hcl := clone_any _ f.bs w5 (HBY.out.below HB5.out) hl
  have HCL := Lib.hid hcl
  clear hcl
  go_wp2_with fail
  refine HCL.out.mono ?_
  rintro e w6 ⟨z, rfl, hz, hb⟩
  obtain ⟨A6, c6, rfl⟩ := bytes_form hz
  have HZ := Lib.hid (bytes_mono hz HB5.out.size)
  have HB6 := Lib.hid (HB5.out.trans (hb.mono HB5.out.size))
  clear hz hb
  go_wp2
  exact bodyPost_ret (v := .tuple #[.slice A6 f.bs.length c6, .int .i64 0]) (by simp [results]) rfl ⟨_, rfl, HZ.out, HB6.out⟩
end Go.Proofs.YthehpafkaefohaaDoor
namespace Go.Proofs.YthehpafkaefohaaDoor
theorem blobs_fwd {ys : List UInt8} : ∀ (xs : List (List UInt8)) (l r : List UInt8) (acc : List (List UInt8)), ys = l ++ xs.flatMap blobB ++ r → (∀ x ∈ xs, x.length ≤ 1048576) → blobs ys xs.length l.length acc = some (acc ++ xs, ((l ++ xs.flatMap blobB).length : Int))
  | [], l, r, acc, h, _ => by simp [blobs]
  | x :: xs, l, r, acc, h, hx => by
    have hb : getB ys l.length 1048576 = (x, ((l ++ blobB x).length : Int), 0) := getB_fwd (r := xs.flatMap blobB ++ r) (by rw [h]; simp) (by have := hx x (List.mem_cons_self ..); omega) (by have := hx x (List.mem_cons_self ..); omega)
    rw [List.length_cons, blobs, hb]
    simp only [ne_eq, not_true_eq_false, if_false]
    rw [blobs_fwd xs (l ++ blobB x) r (acc ++ [x]) (by rw [h]; simp) (fun y hy => hx y (List.mem_cons_of_mem _ hy))]
    simp
theorem flat_le : ∀ {l : List (List UInt8)} {x : List UInt8}, x ∈ l → x.length ≤ (l.flatMap blobB).length := by
  intro l x hx
  induction l with
  | nil => cases hx
  | cons a l ih =>
    rw [List.flatMap_cons, List.length_append]
    rcases List.mem_cons.1 hx with rfl | h
    · unfold blobB; simp only [List.length_append]; omega
    · have := ih h; omega
theorem parse_fwd {n : Nat} {l : List (List UInt8)} (h1 : 1 ≤ n) (h2 : n ≤ 1152921504606846976) (h3 : 1 ≤ l.length) (h4 : l.length ≤ 1000) (h5 : (batchB n l).length ≤ 1048576) : parseB (batchB n l) = some (n, l) := by
  have hlen : (l.flatMap blobB).length ≤ 1048576 := by
    unfold batchB at h5
    simp only [List.length_append] at h5
    omega
  have g1 : getU (batchB n l) 0 = (n, ((uv n).length : Int), 0) := by
    have := getU_fwd (ys := batchB n l) (l := []) (r := uv l.length ++ l.flatMap blobB) (m := n) (by unfold batchB; simp) (by omega)
    simpa using this
  have g2 : getU (batchB n l) ((uv n).length : Int) = (l.length, ((uv n ++ uv l.length).length : Int), 0) := getU_fwd (l := uv n) (r := l.flatMap blobB) (by unfold batchB; rfl) (by omega)
  have g3 := blobs_fwd (ys := batchB n l) l (uv n ++ uv l.length) [] [] (by unfold batchB; simp) (fun x hx => Nat.le_trans (flat_le hx) hlen)
  unfold parseB
  rw [g1]
  simp only
  rw [g2]
  simp only
  rw [if_neg (by omega), if_neg (by omega), g3]
  simp only
  rw [if_neg (by unfold batchB; simp), List.nil_append]
theorem frames_split : ∀ (a b : List Bt) (n : Int), frames n (a ++ b) = frames n a ++ frames (n + a.length) b
  | [], b, n => by simp [frames]
  | r :: a, b, n => by
    simp only [List.cons_append, frames, frames_split a b, List.append_assoc, List.length_cons]
    rw [show n + 1 + (a.length : Int) = n + ((a.length + 1 : Nat) : Int) by omega]
/-- batches with their numbers -/
def numB : Int → List Bt → List (Int × Bt)
  | _, [] => []
  | n, r :: rs => (n, r) :: numB (n + 1) rs
theorem numB_append : ∀ (a b : List Bt) (n : Int), numB n (a ++ b) = numB n a ++ numB (n + a.length) b
  | [], b, n => by simp [numB]
  | r :: a, b, n => by
    simp only [List.cons_append, numB, numB_append a b, List.length_cons]
    rw [show n + 1 + (a.length : Int) = n + ((a.length + 1 : Nat) : Int) by omega]
theorem numB_len : ∀ (a : List Bt) (n : Int), (numB n a).length = a.length
  | [], _ => rfl
  | _ :: a, n => by simp [numB, numB_len a]
/-- a segment at its k-th batch -/
theorem seg_at {first : Int} {rs : List Bt} {k : Nat} {r : Bt} (hr : rs[k]? = some r) :
    segB first rs = (headB first ++ frames first (rs.take k)) ++ (frameB (batchB (first + k).toNat r) ++ frames (first + k + 1) (rs.drop (k + 1))) ∧ (rs.take k).length = k ∧ rs.take (k + 1) = rs.take k ++ [r] := by
  have hk := (List.getElem?_eq_some_iff.1 hr).1
  have hl : (rs.take k).length = k := by rw [List.length_take]; omega
  have hs : rs = rs.take k ++ (r :: rs.drop (k + 1)) := by
    have := List.take_append_drop k rs
    rw [List.drop_eq_getElem_cons hk, (List.getElem?_eq_some_iff.1 hr).2] at this
    exact this.symm
  refine ⟨?_, hl, by rw [List.take_add_one, hr]; rfl⟩
  unfold segB
  conv => lhs; rw [hs, frames_split, hl]
  simp only [frames, List.append_assoc]
end Go.Proofs.YthehpafkaefohaaDoor
namespace Go.Proofs.YthehpafkaefohaaDoor
open Go.RowKit
def mBt : Mv (Int × Bt) := mSeq mI (mL 43 mBy)
theorem mBt_law : mBt.Lawful := mSeq_law mI_law (mL_law mBy_law)
theorem rdB_sub {w : World} {b o c : Nat} {pre mid post : List UInt8} {n : Nat} (h : RdB w (.slice (some ⟨b, o, none⟩) n c) (pre ++ mid ++ post)) : RdB w (.slice (some ⟨b, o + pre.length, none⟩) mid.length (c - pre.length)) mid := by
  rcases h with ⟨h, _⟩ | ⟨b', o', c', hv, h1, h2, h3, h4⟩
  · cases h
  · injection hv with hv _ hc
    injection hv with hv
    injection hv with hb ho
    subst hb
    subst ho
    subst hc
    have hl : (pre ++ mid ++ post).length = pre.length + mid.length + post.length := by simp; omega
    refine .inr ⟨b, o + pre.length, c - pre.length, rfl, by omega, by omega, h3, fun j x hj => ?_⟩
    have hjl := (List.getElem?_eq_some_iff.1 hj).1
    have := h4 (pre.length + j) x (by rw [List.append_assoc, List.getElem?_append_right (by omega), Nat.add_sub_cancel_left, List.getElem?_append_left hjl]; exact hj)
    rw [← Nat.add_assoc] at this
    exact this
theorem rdB_cell {w : World} {b o c n : Nat} {ys : List UInt8} (h : RdB w (.slice (some ⟨b, o, none⟩) n c) ys) {j : Nat} {x : UInt8} (hj : ys[j]? = some x) : w.cell? ⟨b, o + j, none⟩ = some (.int .u8 x.toNat) := by
  rcases h with ⟨h, _⟩ | ⟨b', o', c', hv, h1, h2, h3, h4⟩
  · cases h
  · injection hv with hv _ hc
    injection hv with hv
    injection hv with hb ho
    subst hb
    subst ho
    exact h4 j x hj
theorem bits_and7 (a : Nat) (ha : a < 256) : bits .and .u8 (a : Int) 127 = ((a % 128 : Nat) : Int) := by
  have h1 : (BitVec.ofInt 8 (a : Int)).toNat = a := by
    rw [BitVec.ofInt_natCast, BitVec.toNat_ofNat]; exact Nat.mod_eq_of_lt (by omega)
  show IntKind.u8.wrap ((BitVec.ofInt 8 (a : Int) &&& BitVec.ofInt 8 127).toNat : Int) = _
  rw [BitVec.toNat_and, h1, show (BitVec.ofInt 8 127).toNat = 2 ^ 7 - 1 from rfl, Nat.and_two_pow_sub_one_eq_mod, IntKind.wrap_u8]
  omega
theorem bits_or64 (a b : Nat) (ha : a < 128) (hb : b < 128) : bits .or .i64 (a : Int) ((b * 128 : Nat) : Int) = ((a + b * 128 : Nat) : Int) := by
  have h1 : (BitVec.ofInt 64 (a : Int)).toNat = a := by
    rw [BitVec.ofInt_natCast, BitVec.toNat_ofNat]; exact Nat.mod_eq_of_lt (by omega)
  have h2 : (BitVec.ofInt 64 ((b * 128 : Nat) : Int)).toNat = b * 128 := by
    rw [BitVec.ofInt_natCast, BitVec.toNat_ofNat]; exact Nat.mod_eq_of_lt (by omega)
  show IntKind.i64.wrap ((BitVec.ofInt 64 (a : Int) ||| BitVec.ofInt 64 ((b * 128 : Nat) : Int)).toNat : Int) = _
  rw [BitVec.toNat_or, h1, h2, IntKind.wrap_i64]
  have : a ||| b * 128 = a + b * 128 := by
    have h := Nat.shiftLeft_add_eq_or_of_lt (i := 7) (a := b) (b := a) (by omega)
    rw [Nat.shiftLeft_eq] at h
    rw [Nat.or_comm]
    have e : (2 : Nat) ^ 7 = 128 := by decide
    rw [e] at h
    omega
  rw [this]
  omega
theorem bits_or0 (a : Nat) (ha : a < 128) : bits .or .i64 0 (a : Int) = (a : Int) := by
  have h1 : (BitVec.ofInt 64 (a : Int)).toNat = a := by
    rw [BitVec.ofInt_natCast, BitVec.toNat_ofNat]; exact Nat.mod_eq_of_lt (by omega)
  show IntKind.i64.wrap ((BitVec.ofInt 64 0 ||| BitVec.ofInt 64 (a : Int)).toNat : Int) = _
  rw [BitVec.toNat_or, h1, show (BitVec.ofInt 64 0).toNat = 0 from rfl, Nat.zero_or, IntKind.wrap_i64]
  omega
end Go.Proofs.YthehpafkaefohaaDoor
namespace Go.Proofs.YthehpafkaefohaaDoor
open Go.RowKit
theorem LOwn.cat {α : Type} {T : TypeId} {m : Mv α} (hm : m.Lawful) (hT : T ∉ m.ts) {base b2 : Nat} {w w' : World} {v v' : Value} {xs ys : List α} {cells cells2 : List Value} (ho : w.ownsRow base T m.n v xs.length cells) (he : ∀ (j : Nat) (x : α), xs[j]? = some x → m.own base w ((cells.drop (j * m.n)).take m.n) x)
    (hmono : ∀ (us : List Value) (x : α), m.own b2 w us x → m.own base w us x) (hl2 : cells2.length = ys.length * m.n) (he2 : ∀ (j : Nat) (x : α), ys[j]? = some x → m.own b2 w ((cells2.drop (j * m.n)).take m.n) x) (ho' : w'.ownsRow base T m.n v' (xs.length + ys.length) (cells ++ cells2)) (hg : w.grownBy w' v.ownBlock) : LOwn T m base w' v' (xs ++ ys) := by
  have hst : Stay m.ts w w' := Stay.grown hg (fun k cs T' fr e hh hm' => by
    rcases ho.2 with ⟨rfl, _⟩ | ⟨g, cap, cur, rfl, hb, hh2, _⟩
    · cases e
    · injection e with e
      subst e
      rw [hh] at hh2
      injection hh2 with hh2
      injection hh2 with _ hh2
      rw [hh2] at hm'
      exact hT hm')
  refine ⟨cells ++ cells2, by rw [List.length_append]; exact ho', fun j y hj => ?_⟩
  have hcl := ho.1
  by_cases hlt : j < xs.length
  · rw [List.getElem?_append_left hlt] at hj
    have h1 : j * m.n + m.n ≤ cells.length := by
      rw [hcl]
      have : (j + 1) * m.n ≤ xs.length * m.n := Nat.mul_le_mul_right _ hlt
      rw [Nat.add_mul, Nat.one_mul] at this
      exact this
    rw [List.drop_append_of_le_length (by omega), List.take_append_of_le_length (by rw [List.length_drop]; omega)]
    exact hm.okeep (he j y hj) hst
  · rw [List.getElem?_append_right (by omega)] at hj
    have h2 : j * m.n = cells.length + (j - xs.length) * m.n := by
      rw [hcl, ← Nat.add_mul, Nat.add_sub_cancel' (by omega)]
    rw [h2, ← List.drop_drop, List.drop_left]
    exact hm.okeep (hmono _ _ (he2 _ y hj)) hst
theorem cells_one {α : Type} {m : Mv α} (hm : m.Lawful) {b : Nat} {w : World} {ys : List α} {cells : List Value} (hl : cells.length = ys.length * m.n) (he : ∀ (j : Nat) (x : α), ys[j]? = some x → m.own b w ((cells.drop (j * m.n)).take m.n) x) : ∀ u ∈ cells, u.oneCell' = true := by
  intro u hu
  obtain ⟨i, hi, hiu⟩ := List.mem_iff_getElem.1 hu
  have hp := hm.pos
  have hj : i / m.n < ys.length := by
    rw [Nat.div_lt_iff_lt_mul hp]; omega
  have h1 := he (i / m.n) ys[i / m.n] (List.getElem?_eq_getElem hj)
  refine hm.cell h1 u ?_
  have hdm := Nat.div_add_mod i m.n
  have hmod := Nat.mod_lt i hp
  rw [Nat.mul_comm] at hdm
  refine List.mem_iff_getElem?.2 ⟨i % m.n, ?_⟩
  rw [List.getElem?_take_of_lt hmod, List.getElem?_drop, hdm, ← hiu]
  exact List.getElem?_eq_getElem hi
/-- 'append(s, y...)' of two lists of the call's own -/
theorem wpList_cat {α : Type} {T t : TypeId} {m : Mv α} {ops : Array Oper} {rest : List Oper} {o : Oper} {a : Act} {w : World} {Q : Exit → Act → World → Prop} (hgd : o.guard = none) (s x : Operand)
    (ho : o.op = .call { callee := .builtin .append, args := #[s, x], argTypes := #[t, t] }) {bytes : Nat} {z : Value} (hE : Elem T t m.n bytes z) (hm : m.Lawful) (hT : T ∉ m.ts)
    (base b2 : Nat) (v v2 : Value) (xs ys : List α) (hs : a.eval s = v) (hown : LOwn T m base w v xs) (hx : a.eval x = v2) (hown2 : LOwn T m b2 w v2 ys) (hmono : ∀ (us : List Value) (x : α), m.own b2 w us x → m.own base w us x)
    (hl : xs.length + ys.length ≤ 100000000000) (hby : bytes ≤ 1000) (hb : base ≤ w.heap.size)
    (h : ∀ v' w', LOwn T m base w' v' (xs ++ ys) → w.grownBy w' v.ownBlock → wpList Tryd.prog ops Q rest (a.put o.dst v') w') : wpList Tryd.prog ops Q (o :: rest) a w := by
  obtain ⟨i0, hi, hz0, hz1, hz2⟩ := info_parts hE.info
  have hown0 := hown
  obtain ⟨cells, ho1, he⟩ := hown
  obtain ⟨cells2, ho2, he2⟩ := hown2
  have hl2 := ho2.1
  have hc2 := ho2.2
  rcases ho2.2 with ⟨rfl, h0⟩ | ⟨g, cap, cur, rfl, hb2, hh2, h3, h4, h5, h6⟩
  · refine wpList_append_own_none hgd s x t ho base T i0 m.n hE.ut hi v xs.length _ hs ho1 hx ?_
    have hys : ys = [] := List.eq_nil_of_length_eq_zero h0
    subst hys
    refine h v w (by rw [List.append_nil]; exact hown0) ?_
    exact ⟨rfl, rfl, rfl, Nat.le_refl _, fun k hk _ => rfl⟩
  · refine wpList_append_own_at _ hgd s x t ho base T i0 z m.n bytes hE.ut hi hz0 hz1 hz2 hE.zs hm.pos v xs.length _ hs ho1 ⟨g, 0, none⟩ ys.length cap cells2 hx hl2 ?_ (cells_one hm hl2 he2) ?_ ?_ hb ?_
    · intro j u hj
      exact World.ownsRow.cells ho2 (g := g) rfl j u hj
    · simp only [maxLen]; omega
    · have : (xs.length + ys.length) * bytes ≤ 100000000000 * 1000 := Nat.mul_le_mul hl hby
      omega
    · intro v' w' k1 k2 _ _
      exact h v' w' (LOwn.cat hm hT ho1 he hmono hl2 he2 k1 k2) k2
theorem bt_mono {b b2 : Nat} {w : World} (hb : b2 ≤ b) : ∀ (us : List Value) (x : Int × Bt), mBt.own b w us x → mBt.own b2 w us x := by
  rintro us x ⟨u1, u2, h1, h2, v, h3, h4⟩
  exact ⟨u1, u2, h1, h2, v, h3, by_mono h4 hb⟩
/-- what a list of the call's own reads as -/
theorem bt_list {base : Nat} {w : World} {v : Value} {xs : List (Int × Bt)} (h : LOwn 62 mBt base w v xs) : RdBt w v xs := by
  by_cases hn : xs = []
  · subst hn
    obtain ⟨cells, ho, _⟩ := h
    rcases ho.2 with ⟨rfl, _⟩ | ⟨g, cap, cur, rfl, _, hh, h3, h4, _⟩
    · exact .inl ⟨rfl, rfl⟩
    · exact .inr ⟨g, 0, cap, rfl, h3, h4, fun j y hj => by simp at hj⟩
  · obtain ⟨x, hx⟩ : ∃ x, xs[0]? = some x := ⟨_, List.getElem?_eq_getElem (List.length_pos_iff.2 hn)⟩
    obtain ⟨g, c, cur, us, rfl, hh, h3, h4, _, _⟩ := h.elem hx
    refine .inr ⟨g, 0, c, rfl, h3, h4, fun j y hj => ?_⟩
    obtain ⟨g', c', cur', us', he, hh', _, _, hu, h6⟩ := h.elem hj
    injection he with he
    injection he with he
    injection he with he
    subst he
    obtain ⟨u1, u2, rfl, h1, v, h2, hl⟩ := hu
    have h1 : u1 = [.int .i64 y.1] := h1
    subst h1
    subst h2
    refine ⟨v, ?_, ?_, by_list hl⟩
    · rw [blk_cell hh']
      have := h6 0 _ rfl
      rw [show j * mBt.n + 0 = 0 + j * 2 by show j * 2 + 0 = 0 + j * 2; omega] at this
      exact this
    · rw [blk_cell hh']
      have := h6 1 _ rfl
      rw [show j * mBt.n + 1 = 0 + j * 2 + 1 by show j * 2 + 1 = 0 + j * 2 + 1; omega] at this
      exact this
end Go.Proofs.YthehpafkaefohaaDoor
namespace Go.Proofs.YthehpafkaefohaaDoor
open Go.RowKit
def flatS (segs : List Sg) : List Bt := segs.flatMap Prod.snd
theorem chain_at : ∀ {segs : List Sg} {n : Int} {k : Nat} {s : Sg}, chainS n segs → segs[k]? = some s → s.1 = n + (flatS (segs.take k)).length
  | a :: segs, n, 0, s, h, hk => by
    have e : a = s := by simpa using hk
    subst e
    simp [flatS, h.1]
  | a :: segs, n, k + 1, s, h, hk => by
    have := chain_at h.2.2 (k := k) (s := s) (by simpa using hk)
    rw [this]
    simp [flatS]
    omega
theorem flat_take {segs : List Sg} {k : Nat} {s : Sg} (hk : segs[k]? = some s) : flatS (segs.take (k + 1)) = flatS (segs.take k) ++ s.2 := by
  unfold flatS
  rw [List.take_add_one, hk, List.flatMap_append]
  simp
theorem flat_take_le (segs : List Sg) (k : Nat) : (flatS (segs.take k)).length ≤ (flatS segs).length := by
  have : flatS segs = flatS (segs.take k) ++ flatS (segs.drop k) := by
    unfold flatS
    rw [← List.flatMap_append, List.take_append_drop]
  rw [this, List.length_append]
  omega
theorem numB_at : ∀ (a : List Bt) (n : Int) (j : Nat), j < a.length → ∃ r, (numB n a)[j]? = some (n + j, r)
  | r :: a, n, 0, _ => ⟨r, by simp [numB]⟩
  | r :: a, n, j + 1, h => by
    obtain ⟨r', h'⟩ := numB_at a (n + 1) j (by simpa using h)
    refine ⟨r', ?_⟩
    simp only [numB, List.getElem?_cons_succ, h']
    rw [show n + 1 + (j : Int) = n + ((j + 1 : Nat) : Int) by omega]
theorem used_mem {fs : List DF} {f : DF} (h : f ∈ fs) : f.bs.length ≤ usedF fs := by
  unfold usedF
  induction fs with
  | nil => cases h
  | cons a fs ih =>
    rw [List.map_cons, List.sum_cons]
    rcases List.mem_cons.1 h with rfl | h
    · omega
    · have := ih h; omega
theorem look_le {dk : DkSt} (ok : DkOk dk) {n : ByteArray} (h : hasN dk.fs n = true) : (lookF dk.fs n).bs.length ≤ 16777216 := by
  have h1 := used_mem (has_look ok.sorted h).1
  have := ok.used
  have := ok.room
  omega
theorem AX.read {w w1 : World} {d l : Nat} {dk : DkSt} {lg : LgSt} {S : List Nat} (h : AX w w1 d l dk lg S) (ok : DkOk dk) (hd : dk.dark = false) (n : ByteArray) (hh : hasN dk.fs n = true) : Calls Tryd.prog 14 #[.pointer (some ⟨d, 0, none⟩), .string n] w1 fun e w' => ∃ z, e = .returned (.tuple #[z, .int .i64 0]) ∧ Bytes w1.heap.size w' z (lookF dk.fs n).bs ∧ Below w1.heap.size w1 w' := by
  obtain ⟨v, u, h1, _, _⟩ := h.lb
  exact read_any h1 ok hd n hh (by have := look_le ok hh; omega)
theorem bt_own_mono {b b2 : Nat} {w : World} {v : Value} {xs : List (Int × Bt)} (h : LOwn 62 mBt b w v xs) (hb : b2 ≤ b) : LOwn 62 mBt b2 w v xs := by
  obtain ⟨cells, h1, h2⟩ := h
  exact ⟨cells, own_mono h1 hb, fun j x hx => bt_mono hb _ _ (h2 j x hx)⟩
structure Told (n0 : Int) (segs : List Sg) (dk : DkSt) (lg : LgSt) : Prop where
  ok : DkOk dk
  lit : dk.dark = false
  fi : lg.firsts = segs.map Prod.fst
  byt : ∀ s ∈ segs, hasN dk.fs (nameL s.1) = true ∧ (lookF dk.fs (nameL s.1)).bs = segB s.1 s.2
  ch : chainS n0 segs
  lo : 1 ≤ n0
  hi : n0 ≤ 1000000000
  sm : ∀ s ∈ segs, ∀ r ∈ s.2, smallB r
  tot : (flatS segs).length ≤ 1000
  many : segs.length ≤ 1000
end Go.Proofs.YthehpafkaefohaaDoor

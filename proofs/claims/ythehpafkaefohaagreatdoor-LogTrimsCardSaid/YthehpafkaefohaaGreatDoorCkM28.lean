/- Walks: Pick, Clone, Read. Conditions: sizes a machine can have; Read: of a file that there is. -/
import Derived.Test.YthehpafkaefohaaGreatDoorCkM26
import Derived.Laws.Cover3
import Derived.Test.YthehpafkaefohaaGreatDoorCkM27
import Derived.Test.YthehpafkaefohaaGreatDoorCkM24
import Derived.Deep.CutBlock
import Derived.Test.YthehpafkaefohaaGreatDoorCkM25
namespace Go.Proofs.YthehpafkaefohaaGreatDoor
open Go.RowKit
set_option maxRecDepth 20000 in
set_option maxHeartbeats 1000000 in
theorem pick_any (x n : Int) (w : World) (h0 : 0 < n) (h1 : n ≤ 1000000) (_h2 : -9223372036854775808 ≤ x) (_h3 : x ≤ 9223372036854775807) :
    Calls Tryz.prog 45 #[.int .i64 x, .int .i64 n] w fun e w' => e = .returned (.int .i64 (x % n)) ∧ w = w' := by
  have hz : ¬ n ≤ 0 := by omega
  have hz1 : (n == 0) = false := by simp; omega
  have hm := Int.emod_nonneg x (show n ≠ 0 by omega)
  have hlt := Int.emod_lt_of_pos x h0
  obtain ⟨t, ht⟩ : ∃ t, x.tmod n = t := ⟨_, rfl⟩
  have hw : IntKind.i64.wrap t = t := by
    rw [IntKind.wrap_i64]
    have h5 := Int.tmod_lt_of_pos x h0
    have h6 : -n < x.tmod n := by
      have h7 := Int.tmod_lt_of_pos (-x) h0
      rw [Int.neg_tmod] at h7
      omega
    omega
  have key : t = x % n ∨ (t < 0 ∧ t + n = x % n) := by
    have h4 := Int.tmod_eq_emod (a := x) (b := n)
    rw [ht] at h4
    split at h4
    · left; omega
    · have h8 : (n.natAbs : Int) = n := by omega
      have h9 := Int.tmod_lt_of_pos x h0
      right
      rw [h8] at h4
      refine ⟨by omega, by omega⟩
  have HK := Lib.hid key
  obtain ⟨r, hr⟩ : ∃ r, x % n = r := ⟨_, rfl⟩
  rw [hr] at HK hm hlt ⊢
  clear key hr
  rcases HK.out with rfl | ⟨h5, h6⟩
  · go_enter Tryz.func45, Tryz.ntmps45
    go_wp2
    refine wp_loop_rounds 1 ?_
    rw [rounds_succ]
    go_wp2
    go_ret
    exact ⟨rfl, rfl⟩
  · have hw2 : IntKind.i64.wrap (t + n) = r := by rw [IntKind.wrap_i64]; omega
    have hr0 : ¬ r < 0 := by omega
    go_enter Tryz.func45, Tryz.ntmps45
    go_wp2
    refine wp_loop_rounds 2 ?_
    rw [rounds_succ]
    go_wp2
    rw [rounds_succ]
    go_wp2
    go_ret
    exact ⟨rfl, rfl⟩
theorem eql_nil (a : Option Addr) (n c : Nat) (w : World) : Sem.run Tryz.prog (binOp .eql 53 (.slice a n c) (.slice none 0 0)) w = .ok (.bool a.isNone) w := by
  simp only [binOp]
  simp [run_equal_slice_nil (P := Tryz.prog) w 53 5 a n c Tryz.underlying53]
theorem bytes_zero {w : World} {g base : Nat} (h : w.heap[g]? = some (.cells #[] 5)) (hb : base ≤ g) : Bytes base w (.slice (some ⟨g, 0, none⟩) 0 0) [] :=
  ⟨by simp [Lib.byteCells], .inr ⟨g, 0, #[], rfl, hb, h, Nat.le_refl _, by simp only [maxLen]; omega, by simp, by simp [Lib.byteCells]⟩⟩
set_option maxRecDepth 20000 in
set_option maxHeartbeats 1000000 in
theorem clone_any (v : Value) (xs : List UInt8) (w : World) (hr : RdB w v xs) (hl : xs.length ≤ 100000000000) :
    Calls Tryz.prog 108 #[v] w fun e w' => ∃ z, e = .returned z ∧ Bytes w.heap.size w' z xs ∧ Below w.heap.size w w' := by
  have HR := Lib.hid hr
  rcases hr with ⟨rfl, rfl⟩ | ⟨b, o, c, rfl, _, _, _, _⟩
  · have hn := eql_nil none 0 0 w
    simp only [Option.isNone] at hn
    go_enter Tryz.func108, Tryz.ntmps108
    go_wp2
    exact bodyPost_ret (v := .slice none 0 0) (by simp [results]) rfl ⟨_, rfl, Bytes.nil _ _, Below.refl _ _⟩
  · obtain ⟨W1, hW1⟩ : ∃ x, w.alloc (.cells #[] 5) = x := ⟨_, rfl⟩
    have hb1 : Below w.heap.size w W1 := by rw [← hW1]; exact below1 w _
    have HO : Hid (Bytes w.heap.size W1 (.slice (some ⟨w.heap.size, 0, none⟩) 0 0) []) := bytes_zero (by rw [← hW1]; exact alloc_at _ _) (Nat.le_refl _)
    have HR1 := Lib.hid (HR.out.below hb1)
    have HB1 := Lib.hid hb1
    obtain ⟨L, hL⟩ : ∃ L, xs.length = L := ⟨_, rfl⟩
    rw [hL] at hl HR1 ⊢
    have HL := Lib.hid hL
    have hn := eql_nil (some ⟨b, o, none⟩) L c w
    simp only [Option.isNone] at hn
    clear hb1 hL
    go_enter Tryz.func108, Tryz.ntmps108
    go_wp2_with (at_builtin; refine wpList_append_bytes rfl _ _ rfl w.heap.size (.slice (some ⟨w.heap.size, 0, none⟩) 0 0) _ [] xs rfl HO.out rfl HR1.out (by rw [HL.out]; simp; omega) HB1.out.size ?_; intro v' w' ho hx; have HO2 := Lib.hid ho; have HB2 := Lib.hid (ext_below9 hx HO.out HB1.out (Nat.le_refl _)); clear ho hx)
    exact bodyPost_ret (v := v') (by simp [results]) rfl ⟨_, rfl, by simpa using HO2.out, HB2.out⟩
set_option maxRecDepth 20000 in
set_option maxHeartbeats 2000000 in
theorem read_any {w : World} {d : Nat} {st : DkSt} {v : Value} (h : DkAt w d st v) (ok : DkOk st) (hd : st.dark = false) (n : ByteArray) (hh : hasN st.fs n = true) (hl : (lookF st.fs n).bs.length ≤ 100000000000) :
    Calls Tryz.prog 58 #[.pointer (some ⟨d, 0, none⟩), .string n] w fun e w' => ∃ z, e = .returned (.tuple #[z, .int .i64 0]) ∧ Bytes w.heap.size w' z (lookF st.fs n).bs ∧ Below w.heap.size w w' := by
  have HL := lit_any h
  rw [show litE st = 0 by unfold litE; rw [if_neg (by simp [hd])]] at HL
  have HC := Lib.hid HL
  have hm := ok.many
  have HPL := Lib.hid (fun w2 (hb2 : Below w.heap.size w w2) => place_any v st.fs n w2 (h.below hb2).own ok.sorted (by omega))
  rw [hh] at HPL
  obtain ⟨f, hf, _⟩ := hasN_at hh
  have hq : lookF st.fs n = f := by unfold lookF; rw [if_pos hh, hf]; rfl
  rw [hq] at hl ⊢
  have HH := Lib.hid h
  obtain ⟨p, hp⟩ : ∃ p, plc st.fs n = p := ⟨_, rfl⟩
  obtain ⟨M, hM⟩ : ∃ M, st.fs.length = M := ⟨_, rfl⟩
  have hpl := (List.getElem?_eq_some_iff.1 hf).1
  obtain ⟨q0, q1, q2, q3, q4⟩ := h.cells
  obtain ⟨g, c, u1, hv, d0, d1, d2, hby, csg, hcsg⟩ := file_at h.own hf
  subst hv
  obtain ⟨A1, c1, rfl, _, _⟩ := hby.reads.form
  have HBY := Lib.hid (hby.reads)
  rw [hp] at HPL d0 d1 d2 hpl
  rw [hM] at HPL hpl q0
  have hpm : (p : Int) < M := by omega
  have hpp : (0 : Int) ≤ p := by omega
  clear h ok hd hh hf hq HL hm hp hM hby hcsg hpl
  go_enter Tryz.func58, Tryz.ntmps58
  go_wp2_with fail
  refine HC.out.mono ?_
  rintro e w2 ⟨rfl, hw⟩
  subst hw
  go_upto_region 4 with fail
  refine wp_region_all (fun w' => w'.cell? ⟨d, 0, none⟩ = some (.slice (some ⟨g, 0, none⟩) M c) ∧ w'.cell? ⟨d, 4, none⟩ = some (.func (.func 73) #[] #[])) 15 (by kernel_rfl) rfl ⟨q0, q4⟩ (fun hHeld => ?_)
  refine takeL (i := 0) (v := ?_) rfl (by kernel_rfl) (by kernel_rfl) (by kernel_rfl) (fun _ _ _ h => h) (.inl ⟨by rfl, ?_⟩) (by assumption) ?_
  rotate_left
  · (intro w hSw; (try dsimp only at hSw); go_simp; (first | done | with_reducible rfl))
  try simp only [Act.put, List.setIfInBounds_toArray, List.set_cons_zero, List.set_cons_succ]
  refine takeL (i := 1) (v := ?_) rfl (by kernel_rfl) (by kernel_rfl) (by kernel_rfl) (fun _ _ _ h => h) (.inl ⟨by rfl, ?_⟩) (by assumption) ?_
  rotate_left
  · (intro w hSw; (try dsimp only at hSw); go_simp; (first | done | with_reducible rfl))
  try simp only [Act.put, List.setIfInBounds_toArray, List.set_cons_zero, List.set_cons_succ]
  refine takeL (i := 2) (v := ?_) rfl (by kernel_rfl) (by kernel_rfl) (by kernel_rfl) (fun _ _ _ h => h) (.inl ⟨by rfl, ?_⟩) (by assumption) ?_
  rotate_left
  · (intro w hSw; (try dsimp only at hSw); go_simp; (first | done | with_reducible rfl))
  try simp only [Act.put, List.setIfInBounds_toArray, List.set_cons_zero, List.set_cons_succ]
  refine takeL (i := 3) (v := ?_) rfl (by kernel_rfl) (by kernel_rfl) (by kernel_rfl) (fun _ _ _ h => h) (.inl ⟨by rfl, ?_⟩) (by assumption) ?_
  rotate_left
  · (intro w hSw; (try dsimp only at hSw); go_simp; (first | done | with_reducible rfl))
  try simp only [Act.put, List.setIfInBounds_toArray, List.set_cons_zero, List.set_cons_succ]
  refine takeL (i := 4) (v := ?_) rfl (by kernel_rfl) (by kernel_rfl) (by kernel_rfl) (fun _ _ _ h => h) (.inl ⟨by rfl, ?_⟩) (by assumption) ?_
  rotate_left
  · (intro w hSw; (try dsimp only at hSw); go_simp; (first | done | with_reducible rfl))
  try simp only [Act.put, List.setIfInBounds_toArray, List.set_cons_zero, List.set_cons_succ]
  refine takeL (i := 5) (v := ?_) rfl (by kernel_rfl) (by kernel_rfl) (by kernel_rfl) (fun _ _ _ h => h) (.inl ⟨by rfl, ?_⟩) (by assumption) ?_
  rotate_left
  · (intro w hSw; (try dsimp only at hSw); go_simp; (first | done | with_reducible rfl))
  try simp only [Act.put, List.setIfInBounds_toArray, List.set_cons_zero, List.set_cons_succ]
  refine takeL (i := 6) (v := ?_) rfl (by kernel_rfl) (by kernel_rfl) (by kernel_rfl) (fun _ _ _ h => h) (.inl ⟨by rfl, ?_⟩) (by assumption) ?_
  rotate_left
  · (intro w hSw; (try dsimp only at hSw); go_simp; (first | done | with_reducible rfl))
  try simp only [Act.put, List.setIfInBounds_toArray, List.set_cons_zero, List.set_cons_succ]
  refine takeL (i := 7) (v := ?_) rfl (by kernel_rfl) (by kernel_rfl) (by kernel_rfl) (fun _ _ _ h => h) (.inl ⟨by rfl, ?_⟩) (by assumption) ?_
  rotate_left
  · (intro w hSw; (try dsimp only at hSw); go_simp; (first | done | with_reducible rfl))
  try simp only [Act.put, List.setIfInBounds_toArray, List.set_cons_zero, List.set_cons_succ]
  refine takeL (i := 8) (v := ?_) rfl (by kernel_rfl) (by kernel_rfl) (by kernel_rfl) (fun _ _ _ h => h) (.inl ⟨by rfl, ?_⟩) (by assumption) ?_
  rotate_left
  · (intro w hSw; (try dsimp only at hSw); go_simp; (first | done | with_reducible rfl))
  try simp only [Act.put, List.setIfInBounds_toArray, List.set_cons_zero, List.set_cons_succ]
  refine stepL (i := 9) rfl (by kernel_rfl) (fun K hK => ?_)
  go_simp
  go_at_call 73
  refine (HPL.out _ (Below.refl _ _).drew).mono ?_
  rintro e w5 ⟨rfl, hb⟩
  have HB5 : Hid (Below w.heap.size w w5) := Lib.hid (drewN_start (w := w) (q := 1) hb)
  clear hb
  go_wp2_with fail
  refine hK.out _ _ ⟨cell_later HB5.out q0, cell_later HB5.out q4⟩ (fun hHeld => ?_)
  clear hK K
  try simp only [Act.put, List.setIfInBounds_toArray, List.set_cons_zero, List.set_cons_succ]
  refine takeL (i := 10) (v := ?_) rfl (by kernel_rfl) (by kernel_rfl) (by kernel_rfl) (fun _ _ _ h => h) (.inl ⟨by rfl, ?_⟩) (by assumption) ?_
  rotate_left
  · (intro w hSw; (try dsimp only at hSw); go_simp; (first | done | with_reducible rfl))
  try simp only [Act.put, List.setIfInBounds_toArray, List.set_cons_zero, List.set_cons_succ]
  refine takeL (i := 11) (v := ?_) rfl (by kernel_rfl) (by kernel_rfl) (by kernel_rfl) (fun _ _ _ h => h) (.inl ⟨by rfl, ?_⟩) (by assumption) ?_
  rotate_left
  · (intro w hSw; (try dsimp only at hSw); go_simp; (first | done | with_reducible rfl))
  try simp only [Act.put, List.setIfInBounds_toArray, List.set_cons_zero, List.set_cons_succ]
  refine takeL (i := 12) (v := ?_) rfl (by kernel_rfl) (by kernel_rfl) (by kernel_rfl) (fun _ _ _ h => h) (.inl ⟨by rfl, ?_⟩) (by assumption) ?_
  rotate_left
  · (intro w hSw; (try dsimp only at hSw); go_simp; (first | done | with_reducible rfl))
  try simp only [Act.put, List.setIfInBounds_toArray, List.set_cons_zero, List.set_cons_succ]
  refine stepL (i := 13) rfl (by kernel_rfl) (fun K hK => ?_)
  go_simp
  refine hK.out _ _ ⟨cell_later HB5.out q0, cell_later HB5.out q4⟩ (fun hHeld => ?_)
  clear hK K
  try simp only [Act.put, List.setIfInBounds_toArray, List.set_cons_zero, List.set_cons_succ]
  refine stepL (i := 14) rfl (by kernel_rfl) (fun K hK => ?_)
  go_simp
  refine hK.out _ _ ⟨cell_later HB5.out q0, cell_later HB5.out q4⟩ (fun hHeld => ?_)
  clear hK K
  try simp only [Act.put, List.setIfInBounds_toArray, List.set_cons_zero, List.set_cons_succ]
  refine wpAnyH_done (by kernel_rfl) ?_ _
  clear hHeld
  have z0 := cell_later HB5.out q0
  have z1 := cell_later HB5.out d1
  have hcl := clone_any _ f.bs w5 (HBY.out.below HB5.out) hl
  have HCL := Lib.hid hcl
  clear hcl
  go_wp2_with fail
  refine HCL.out.mono ?_
  rintro e w6 ⟨z, rfl, hz, hb⟩
  obtain ⟨A6, c6, rfl⟩ := bytes_form hz
  have HZ := Lib.hid (bytes_mono hz HB5.out.size)
  have HB6 := Lib.hid (HB5.out.trans (hb.mono HB5.out.size))
  clear hz hb
  go_wp2
  exact bodyPost_ret (v := .tuple #[.slice A6 f.bs.length c6, .int .i64 0]) (by simp [results]) rfl ⟨_, rfl, HZ.out, HB6.out⟩
end Go.Proofs.YthehpafkaefohaaGreatDoor
namespace Go.Proofs.YthehpafkaefohaaGreatDoor
theorem blobs_fwd {ys : List UInt8} : ∀ (xs : List (List UInt8)) (l r : List UInt8) (acc : List (List UInt8)), ys = l ++ xs.flatMap blobB ++ r → (∀ x ∈ xs, x.length ≤ 1048576) → blobs ys xs.length l.length acc = some (acc ++ xs, ((l ++ xs.flatMap blobB).length : Int))
  | [], l, r, acc, h, _ => by simp [blobs]
  | x :: xs, l, r, acc, h, hx => by
    have hb : getB ys l.length 1048576 = (x, ((l ++ blobB x).length : Int), 0) := getB_fwd (r := xs.flatMap blobB ++ r) (by rw [h]; simp) (by have := hx x (List.mem_cons_self ..); omega) (by have := hx x (List.mem_cons_self ..); omega)
    rw [List.length_cons, blobs, hb]
    simp only [ne_eq, not_true_eq_false, if_false]
    rw [blobs_fwd xs (l ++ blobB x) r (acc ++ [x]) (by rw [h]; simp) (fun y hy => hx y (List.mem_cons_of_mem _ hy))]
    simp
theorem flat_le : ∀ {l : List (List UInt8)} {x : List UInt8}, x ∈ l → x.length ≤ (l.flatMap blobB).length := by
  intro l x hx
  induction l with
  | nil => cases hx
  | cons a l ih =>
    rw [List.flatMap_cons, List.length_append]
    rcases List.mem_cons.1 hx with rfl | h
    · unfold blobB; simp only [List.length_append]; omega
    · have := ih h; omega
theorem parse_fwd {n : Nat} {l : List (List UInt8)} (h1 : 1 ≤ n) (h2 : n ≤ 1152921504606846976) (h3 : 1 ≤ l.length) (h4 : l.length ≤ 1000) (h5 : (batchB n l).length ≤ 1048576) : parseB (batchB n l) = some (n, l) := by
  have hlen : (l.flatMap blobB).length ≤ 1048576 := by
    unfold batchB at h5
    simp only [List.length_append] at h5
    omega
  have g1 : getU (batchB n l) 0 = (n, ((uv n).length : Int), 0) := by
    have := getU_fwd (ys := batchB n l) (l := []) (r := uv l.length ++ l.flatMap blobB) (m := n) (by unfold batchB; simp) (by omega)
    simpa using this
  have g2 : getU (batchB n l) ((uv n).length : Int) = (l.length, ((uv n ++ uv l.length).length : Int), 0) := getU_fwd (l := uv n) (r := l.flatMap blobB) (by unfold batchB; rfl) (by omega)
  have g3 := blobs_fwd (ys := batchB n l) l (uv n ++ uv l.length) [] [] (by unfold batchB; simp) (fun x hx => Nat.le_trans (flat_le hx) hlen)
  unfold parseB
  rw [g1]
  simp only
  rw [g2]
  simp only
  rw [if_neg (by omega), if_neg (by omega), g3]
  simp only
  rw [if_neg (by unfold batchB; simp), List.nil_append]
theorem frames_split : ∀ (a b : List Bt) (n : Int), frames n (a ++ b) = frames n a ++ frames (n + a.length) b
  | [], b, n => by simp [frames]
  | r :: a, b, n => by
    simp only [List.cons_append, frames, frames_split a b, List.append_assoc, List.length_cons]
    rw [show n + 1 + (a.length : Int) = n + ((a.length + 1 : Nat) : Int) by omega]
/-- batches with their numbers -/
def numB : Int → List Bt → List (Int × Bt)
  | _, [] => []
  | n, r :: rs => (n, r) :: numB (n + 1) rs
theorem numB_append : ∀ (a b : List Bt) (n : Int), numB n (a ++ b) = numB n a ++ numB (n + a.length) b
  | [], b, n => by simp [numB]
  | r :: a, b, n => by
    simp only [List.cons_append, numB, numB_append a b, List.length_cons]
    rw [show n + 1 + (a.length : Int) = n + ((a.length + 1 : Nat) : Int) by omega]
theorem numB_len : ∀ (a : List Bt) (n : Int), (numB n a).length = a.length
  | [], _ => rfl
  | _ :: a, n => by simp [numB, numB_len a]
/-- a segment at its k-th batch -/
theorem seg_at {first : Int} {rs : List Bt} {k : Nat} {r : Bt} (hr : rs[k]? = some r) :
    segB first rs = (headB first ++ frames first (rs.take k)) ++ (frameB (batchB (first + k).toNat r) ++ frames (first + k + 1) (rs.drop (k + 1))) ∧ (rs.take k).length = k ∧ rs.take (k + 1) = rs.take k ++ [r] := by
  have hk := (List.getElem?_eq_some_iff.1 hr).1
  have hl : (rs.take k).length = k := by rw [List.length_take]; omega
  have hs : rs = rs.take k ++ (r :: rs.drop (k + 1)) := by
    have := List.take_append_drop k rs
    rw [List.drop_eq_getElem_cons hk, (List.getElem?_eq_some_iff.1 hr).2] at this
    exact this.symm
  refine ⟨?_, hl, by rw [List.take_add_one, hr]; rfl⟩
  unfold segB
  conv => lhs; rw [hs, frames_split, hl]
  simp only [frames, List.append_assoc]
end Go.Proofs.YthehpafkaefohaaGreatDoor
namespace Go.Proofs.YthehpafkaefohaaGreatDoor
open Go.RowKit
def mBt : Mv (Int × Bt) := mSeq mI (mL 53 mBy)
theorem mBt_law : mBt.Lawful := mSeq_law mI_law (mL_law mBy_law)
theorem elBt : Elem 52 58 2 32 (.agg #[.int .i64 0, .slice none 0 0]) := ⟨by kernel_rfl, by kernel_rfl, by kernel_rfl⟩
theorem rdB_sub {w : World} {b o c : Nat} {pre mid post : List UInt8} {n : Nat} (h : RdB w (.slice (some ⟨b, o, none⟩) n c) (pre ++ mid ++ post)) : RdB w (.slice (some ⟨b, o + pre.length, none⟩) mid.length (c - pre.length)) mid := by
  rcases h with ⟨h, _⟩ | ⟨b', o', c', hv, h1, h2, h3, h4⟩
  · cases h
  · injection hv with hv _ hc
    injection hv with hv
    injection hv with hb ho
    subst hb
    subst ho
    subst hc
    have hl : (pre ++ mid ++ post).length = pre.length + mid.length + post.length := by simp; omega
    refine .inr ⟨b, o + pre.length, c - pre.length, rfl, by omega, by omega, h3, fun j x hj => ?_⟩
    have hjl := (List.getElem?_eq_some_iff.1 hj).1
    have := h4 (pre.length + j) x (by rw [List.append_assoc, List.getElem?_append_right (by omega), Nat.add_sub_cancel_left, List.getElem?_append_left hjl]; exact hj)
    rw [← Nat.add_assoc] at this
    exact this
theorem rdB_cell {w : World} {b o c n : Nat} {ys : List UInt8} (h : RdB w (.slice (some ⟨b, o, none⟩) n c) ys) {j : Nat} {x : UInt8} (hj : ys[j]? = some x) : w.cell? ⟨b, o + j, none⟩ = some (.int .u8 x.toNat) := by
  rcases h with ⟨h, _⟩ | ⟨b', o', c', hv, h1, h2, h3, h4⟩
  · cases h
  · injection hv with hv _ hc
    injection hv with hv
    injection hv with hb ho
    subst hb
    subst ho
    exact h4 j x hj
theorem bits_and7 (a : Nat) (ha : a < 256) : bits .and .u8 (a : Int) 127 = ((a % 128 : Nat) : Int) := by
  have h1 : (BitVec.ofInt 8 (a : Int)).toNat = a := by
    rw [BitVec.ofInt_natCast, BitVec.toNat_ofNat]; exact Nat.mod_eq_of_lt (by omega)
  show IntKind.u8.wrap ((BitVec.ofInt 8 (a : Int) &&& BitVec.ofInt 8 127).toNat : Int) = _
  rw [BitVec.toNat_and, h1, show (BitVec.ofInt 8 127).toNat = 2 ^ 7 - 1 from rfl, Nat.and_two_pow_sub_one_eq_mod, IntKind.wrap_u8]
  omega
theorem bits_or64 (a b : Nat) (ha : a < 128) (hb : b < 128) : bits .or .i64 (a : Int) ((b * 128 : Nat) : Int) = ((a + b * 128 : Nat) : Int) := by
  have h1 : (BitVec.ofInt 64 (a : Int)).toNat = a := by
    rw [BitVec.ofInt_natCast, BitVec.toNat_ofNat]; exact Nat.mod_eq_of_lt (by omega)
  have h2 : (BitVec.ofInt 64 ((b * 128 : Nat) : Int)).toNat = b * 128 := by
    rw [BitVec.ofInt_natCast, BitVec.toNat_ofNat]; exact Nat.mod_eq_of_lt (by omega)
  show IntKind.i64.wrap ((BitVec.ofInt 64 (a : Int) ||| BitVec.ofInt 64 ((b * 128 : Nat) : Int)).toNat : Int) = _
  rw [BitVec.toNat_or, h1, h2, IntKind.wrap_i64]
  have : a ||| b * 128 = a + b * 128 := by
    have h := Nat.shiftLeft_add_eq_or_of_lt (i := 7) (a := b) (b := a) (by omega)
    rw [Nat.shiftLeft_eq] at h
    rw [Nat.or_comm]
    have e : (2 : Nat) ^ 7 = 128 := by decide
    rw [e] at h
    omega
  rw [this]
  omega
theorem bits_or0 (a : Nat) (ha : a < 128) : bits .or .i64 0 (a : Int) = (a : Int) := by
  have h1 : (BitVec.ofInt 64 (a : Int)).toNat = a := by
    rw [BitVec.ofInt_natCast, BitVec.toNat_ofNat]; exact Nat.mod_eq_of_lt (by omega)
  show IntKind.i64.wrap ((BitVec.ofInt 64 0 ||| BitVec.ofInt 64 (a : Int)).toNat : Int) = _
  rw [BitVec.toNat_or, h1, show (BitVec.ofInt 64 0).toNat = 0 from rfl, Nat.zero_or, IntKind.wrap_i64]
  omega
set_option maxRecDepth 20000 in
set_option maxHeartbeats 4000000 in
theorem read_seg (first : Int) (rs : List Bt) (v : Value) (w : World) (hr : RdB w v (segB first rs)) (h1 : 1 ≤ first) (h2 : first + rs.length ≤ 1152921504606846976) (hsm : ∀ r ∈ rs, smallB r) (hl : (segB first rs).length ≤ 100000000) (hn : rs.length ≤ 1000) :
    Calls Tryz.prog 95 #[v, .int .i64 first] w fun e w' => ∃ z, e = .returned (.tuple #[z, .bool true]) ∧ LOwn 52 mBt w.heap.size w' z (numB first rs) ∧ Below w.heap.size w w' := by
  have hin : inL first := ⟨h1, by omega⟩
  obtain ⟨b, o, c, rfl, hc1, hc2⟩ : ∃ b o c, v = .slice (some ⟨b, o, none⟩) (segB first rs).length c ∧ (segB first rs).length ≤ c ∧ c ≤ maxLen := by
    rcases hr with ⟨_, h⟩ | ⟨b, o, c, rfl, h1, h2, _⟩
    · have h := congrArg List.length h
      unfold segB headB at h
      rw [List.length_append, frameB_len] at h
      simp at h
    · exact ⟨b, o, c, rfl, h1, h2⟩
  obtain ⟨Y, hY⟩ : ∃ Y, (segB first rs).length = Y := ⟨_, rfl⟩
  have hhd := head_any first w
  unfold HPost at hhd
  rw [show headOr first = headB first by unfold headOr; rw [if_pos hin], if_pos hin] at hhd
  have hRH : RdB w (.slice (some ⟨b, o, none⟩) (headB first).length c) (headB first) := by
    have := rdB_sub (pre := []) (mid := headB first) (post := frames first rs) (by rw [List.nil_append]; exact hr)
    simpa using this
  have HSB := Lib.hid (fun (w2 : World) (hb2 : Below w.heap.size w w2) (z : Value) (hz : RdB w2 z (headB first)) => sameBytes_any (.slice (some ⟨b, o, none⟩) (headB first).length c) z (headB first) (headB first) w2 (hRH.below hb2) hz)
  obtain ⟨H, hH⟩ : ∃ H, (headB first).length = H := ⟨_, rfl⟩
  have hHY : H ≤ Y := by rw [← hH, ← hY]; unfold segB; rw [List.length_append]; omega
  rw [hY] at hr hl hc1 ⊢
  rw [hH] at hhd HSB
  rw [show decide (headB first = headB first) = true by simp] at HSB
  have HHD := Lib.hid hhd
  have HR := Lib.hid hr
  have HSMA := Lib.hid hsm
  have HYY := Lib.hid hY
  have HHH := Lib.hid hH
  have H12 := Lib.hid (And.intro h1 h2)
  have hHc : (H : Int) ≤ c := by omega
  have hHc2 : H ≤ c := by omega
  have hH0 : (0 : Int) ≤ H := by omega
  have hHYi : ¬ (Y : Int) < H := by omega
  have hmax : c ≤ 9223372036854775807 := by simpa [maxLen] using hc2
  clear hhd hr hsm hY hH h1 h2 hRH hc2 hin
  go_enter Tryz.func95, Tryz.ntmps95
  go_upto_region 2 with (go_at_call 39; refine HHD.out.mono ?_; rintro e w1 ⟨A1, c1, rfl, hy, hb⟩; have HY1 := Lib.hid hy; have HB1 := Lib.hid hb; clear hy hb)
  go_wp2_with (go_at_call 31; refine (HSB.out _ HB1.out _ HY1.out.reads).mono ?_; rintro e w2 ⟨rfl, hw⟩; subst hw)
  obtain ⟨m, hm⟩ : ∃ m, rs.length = m := ⟨_, rfl⟩
  have HM := Lib.hid hm
  have hm1000 : m ≤ 1000 := by omega
  have HHY := Lib.hid hHY
  clear hHc hHc2 hH0 hHYi HSB HY1 hm hHY hn
  generalize Value.bool (decide (Y < H)) = zz
  go_loopw [8, 9] (fun u i wr => ∃ (k p : Nat) (A' : Option Addr) (c' : Nat), u = .slice A' k c' ∧ i = .int .i64 p ∧ k ≤ m ∧ Hid (p = (headB first ++ frames first (rs.take k)).length) ∧ Hid (LOwn 52 mBt w.heap.size wr u (numB first (rs.take k))) ∧ Hid (Below w.heap.size w wr)) (fun u _ _ => m - (match u with | .slice _ n _ => n | _ => 0))
  case atStart => exact ⟨0, H, none, 0, rfl, rfl, Nat.zero_le _, Lib.hid (by simp [frames, HHH.out]), Lib.hid (LOwn.nil _ _), HB1⟩
  case round =>
    obtain ⟨k, p, A', c', rfl, rfl, hk, HP, HO, HB⟩ := hrel
    by_cases hlt : k < m
    · obtain ⟨r, hrk⟩ : ∃ r, rs[k]? = some r := ⟨_, List.getElem?_eq_getElem (by rw [HM.out]; exact hlt)⟩
      obtain ⟨s1, s2, s3⟩ := seg_at (first := first) hrk
      have hsm := HSMA.out r (List.mem_of_getElem? hrk)
      obtain ⟨body, hbd⟩ : ∃ x, batchB (first + k).toNat r = x := ⟨_, rfl⟩
      obtain ⟨post, hpo⟩ : ∃ x, frames (first + k + 1) (rs.drop (k + 1)) = x := ⟨_, rfl⟩
      obtain ⟨pre, hpre⟩ : ∃ x, headB first ++ frames first (rs.take k) = x := ⟨_, rfl⟩
      rw [hbd, hpo, hpre] at s1
      have hp := HP.out
      rw [hpre] at hp
      have hfirst := H12.out
      have hrm := HM.out
      have hlen : body.length ≤ 1400 := by rw [← hbd]; exact batchB_len _ r (by omega) hsm.2.1 hsm.2.2
      have hlen1 : 1 ≤ body.length := by
        rw [← hbd]; unfold batchB
        have := uv_pos (first + k).toNat
        simp only [List.length_append]; omega
      have hYl := HYY.out
      rw [s1, List.length_append, List.length_append, frameB_len] at hYl
      rw [← hp] at hYl
      obtain ⟨L, hL⟩ : ∃ L, body.length = L := ⟨_, rfl⟩
      rw [hL] at hlen hlen1 hYl
      have hfr : frameB body = uv L ++ (body ++ (sumB body ++ [165])) := by unfold frameB; rw [hL]; simp
      have hcell : ∀ (j : Nat) (x : UInt8), (uv L)[j]? = some x → wr.cell? ⟨b, o + (p + j), none⟩ = some (.int .u8 x.toNat) := by
        intro j x hj
        refine cell_later HB.out (rdB_cell HR.out ?_)
        have hjl := (List.getElem?_eq_some_iff.1 hj).1
        rw [s1, hp, List.getElem?_append_right (by omega), Nat.add_sub_cancel_left, hfr, List.append_assoc, List.getElem?_append_left hjl]
        exact hj
      obtain ⟨U, hU⟩ : ∃ U, (uv L).length = U := ⟨_, rfl⟩
      have hU2 : 1 ≤ U ∧ U ≤ 2 := by
        rw [← hU]
        exact ⟨uv_pos L, uv_len 2 L (by omega) (by omega)⟩
      rw [hU] at hYl
      have hYl2 : p + (U + L + 5) + post.length = Y := by omega
      have HS1 := Lib.hid s1
      have HPP := Lib.hid hp
      have HBD := Lib.hid hbd
      have HFR := Lib.hid hfr
      have HLB := Lib.hid hL
      have HS23 := Lib.hid (And.intro s2 s3)
      have HY2 := Lib.hid hYl2
      have HRK := Lib.hid hrk
      have HSMR := Lib.hid hsm
      have HFI := Lib.hid hfirst
      have HRM := Lib.hid hrm
      have HCELL := Lib.hid hcell
      have HUU := Lib.hid hU
      have HU2 := Lib.hid hU2
      have HL12 := Lib.hid (And.intro hlen1 hlen)
      have hpY : (p : Int) < Y := by omega
      have hpY2 : p < Y := by omega
      have hYi : (Y : Int) ≤ 100000000 := by omega
      clear hcell s1 s2 s3 hp hbd hpo hpre hfr hL hYl hYl2 hrk hsm hfirst hrm hU hU2 hlen hlen1
      go_upto_block 2 with fail
      go_cut [10, 11] (fun a f wx => a = .int .i64 L ∧ f = .int .i64 ((p : Int) + U) ∧ wr = wx)
      case first =>
        by_cases hL1 : L < 128
        · have hc0 := HCELL.out 0 (UInt8.ofNat L) (by rw [uv_small hL1]; rfl)
          rw [Nat.add_zero, show (UInt8.ofNat L).toNat = L by simp; omega] at hc0
          have hu : U = 1 := by rw [← HUU.out, uv_small hL1]; rfl
          subst hu
          have g1 := bits_and7 L (by omega)
          rw [Nat.mod_eq_of_lt hL1] at g1
          have g2 := bits_or0 L hL1
          go_wp2_with fail
          refine wp_loop_rounds 1 ?_
          rw [rounds_succ]
          go_wp2_with fail
          go_meet
          exact ⟨rfl, rfl, rfl⟩
        · have hlx := HL12.out
          have hb := uv_big hL1
          have hb2 : uv (L / 128) = [UInt8.ofNat (L / 128)] := uv_small (by omega)
          rw [hb2] at hb
          have hc0 := HCELL.out 0 (UInt8.ofNat (L % 128 + 128)) (by rw [hb]; rfl)
          have hc1 := HCELL.out 1 (UInt8.ofNat (L / 128)) (by rw [hb]; rfl)
          obtain ⟨x0, hx0⟩ : ∃ x, L % 128 + 128 = x := ⟨_, rfl⟩
          obtain ⟨x1, hx1⟩ : ∃ x, L / 128 = x := ⟨_, rfl⟩
          rw [hx0] at hc0
          rw [hx1] at hc1
          rw [Nat.add_zero, show (UInt8.ofNat x0).toNat = x0 by simp; omega] at hc0
          rw [show (UInt8.ofNat x1).toNat = x1 by simp; omega] at hc1
          have hu : U = 2 := by rw [← HUU.out, hb]; rfl
          subst hu
          have hy2 := HY2.out
          have hp1 : (p : Int) + 1 < Y := by omega
          have hp2 : p + 1 < Y := by omega
          have hx0a : ¬ (x0 : Int) < 128 := by omega
          have hx1a : (x1 : Int) < 128 := by omega
          have g1 := bits_and7 x0 (by omega)
          have g3 := bits_and7 x1 (by omega)
          rw [Nat.mod_eq_of_lt (by omega)] at g3
          obtain ⟨y0, hy0⟩ : ∃ x, x0 % 128 = x := ⟨_, rfl⟩
          rw [hy0] at g1
          have g2 := bits_or0 y0 (by omega)
          have g4 := bits_or64 y0 x1 (by omega) (by omega)
          have hLy : y0 + x1 * 128 = L := by omega
          rw [hLy, show ((x1 * 128 : Nat) : Int) = (x1 : Int) * 128 by omega] at g4
          have hy0b : y0 < 128 := by omega
          have hx1b : x1 < 128 := by omega
          clear hlx hb hb2 hx0 hx1 hy0 hLy hy2
          go_wp2_with fail
          refine wp_loop_rounds 2 ?_
          rw [rounds_succ]
          go_wp2_with fail
          rw [rounds_succ]
          go_wp2_with fail
          go_meet
          exact ⟨rfl, by rw [show (p : Int) + 1 + 1 = p + ((2 : Nat) : Int) by omega], rfl⟩
      case rest =>
        obtain ⟨rfl, rfl, rfl⟩ := hcut
        have hl12 := HL12.out
        have hu2 := HU2.out
        have hy2 := HY2.out
        have hfi := HFI.out
        have hrm := HRM.out
        have n1 : ¬ (L : Int) < 1 := by omega
        have n2 : ¬ (Y : Int) < (p : Int) + U + L + 5 := by omega
        have n3 : (0 : Int) ≤ (p : Int) + U := by omega
        have n4 : ((p : Int) + U).toNat = p + U := by omega
        have n5 : ((p : Int) + U + L).toNat = p + U + L := by omega
        have n6 : (0 : Int) ≤ (p : Int) + U + L := by omega
        have n7 : (p : Int) + U + L ≤ c := by omega
        have n8 : p + U ≤ p + U + L := by omega
        have n9 : p + U + L ≤ c := by omega
        have hfr := HFR.out
        have hsub : RdB wr (.slice (some ⟨b, o + (p + U), none⟩) L (c - (p + U))) body := by
          have h7 := HR.out
          have hs := HS1.out
          rw [hfr] at hs
          have hs2 : segB first rs = (pre ++ uv L) ++ body ++ (sumB body ++ [165] ++ post) := by rw [hs]; simp
          rw [hs2] at h7
          have := rdB_sub h7
          rw [List.length_append, HUU.out, HLB.out, ← HPP.out] at this
          exact this.below HB.out
        have hpa := parse_any _ body wr hsub (by rw [HLB.out]; omega)
        have hq := HBD.out
        have hsmr := HSMR.out
        have hpf : parseB body = some ((first + k).toNat, r) := by
          rw [← hq]
          refine parse_fwd (by omega) (by omega) hsmr.1 (by have := hsmr.2.1; omega) ?_
          rw [hq, HLB.out]; omega
        rw [hpf] at hpa
        have HPA := Lib.hid hpa
        have HKK : Hid ((((first + k).toNat : Nat) : Int) = first + k) := by show _ = _; omega
        have hkm : (k : Int) < m := by omega
        clear hfr hsub hpa hq hsmr hpf
        go_upto_region 17 with (go_at_call 33; refine HPA.out.mono ?_; rintro e w7 ⟨N, E, u, rfl, hb, rfl, rfl, hro⟩; have HRO := Lib.hid hro; obtain ⟨A5, c5, rfl⟩ := hro.form; rw [HKK.out]; have HB7 := Lib.hid (HB.out.trans (hb.mono HB.out.size)); have HO7 := Lib.hid (HO.out.keep mBt_law (Stay.below hb)); have HSZ7 := Lib.hid hb.size; clear hb hro)
        have m1 : (0 : Int) ≤ first + k := by omega
        have m2 : first + (k : Int) ≤ 1152921504606846976 := by omega
        obtain ⟨Lr, hLr⟩ : ∃ x, List.length r = x := ⟨_, rfl⟩
        rw [hLr] at HRO ⊢
        have HLR := Lib.hid hLr
        obtain ⟨W8, hW8⟩ : ∃ x, w7.alloc (.cells #[.int .i64 (first + k), .slice A5 Lr c5] 52) = x := ⟨_, rfl⟩
        have hb8 : Below w7.heap.size w7 W8 := by rw [← hW8]; exact below1 _ _
        have k8 : W8.heap[w7.heap.size]? = some (.cells #[.int .i64 (first + k), .slice A5 Lr c5] 52) := by rw [← hW8]; exact alloc_at _ _
        have d0 := blk_cell k8 0
        have d1 := blk_cell k8 1
        simp at d0 d1
        have hb9 := below1 W8 (.cells #[.int .i64 (first + k), .slice A5 Lr c5] 52)
        have hown : LOwn 52 mBt w.heap.size (W8.alloc (.cells #[.int .i64 (first + k), .slice A5 Lr c5] 52)) (.slice A' k c') (numB first (rs.take k)) := (HO7.out.keep mBt_law (Stay.below hb8)).keep mBt_law (Stay.below hb9)
        have hro9 : LOwn 53 mBy w.heap.size (W8.alloc (.cells #[.int .i64 (first + k), .slice A5 Lr c5] 52)) (.slice A5 Lr c5) r := ((by_mono HRO.out HB.out.size).keep mBy_law (Stay.below hb8)).keep mBy_law (Stay.below hb9)
        have hyo : mBt.own w.heap.size (W8.alloc (.cells #[.int .i64 (first + k), .slice A5 Lr c5] 52)) [.int .i64 (first + k), .slice A5 Lr c5] (first + k, r) := ⟨[.int .i64 (first + k)], [.slice A5 Lr c5], rfl, rfl, _, rfl, hro9⟩
        have HOWN := Lib.hid hown
        have HYO := Lib.hid hyo
        have HW := Lib.hid (HB7.out.trans ((hb8.trans (hb9.mono hb8.size)).mono HB7.out.size))
        have HLO := Lib.hid hown.lo
        have HLEN : Hid ((numB first (rs.take k)).length = k) := by show _ = _; rw [numB_len]; exact HS23.out.1
        have hlenk := HLEN.out
        rw [hW8]
        clear hW8 hb8 k8 hb9 hown hro9 hyo hLr HO7 HO
        go_wp2_with (at_builtin; refine wpList_push rfl _ _ rfl elBt mBt_law (by decide) w.heap.size (.slice A' k c') (numB first (rs.take k)) (first + k, r) [.int .i64 (first + k), .slice A5 Lr c5] W8.heap.size rfl HOWN.out rfl (alloc_at W8 _) HYO.out (by rw [HLEN.out]; omega) (by omega) HW.out.size ?_; intro v' w' ho hg hnb; obtain ⟨A9, c9, rfl⟩ := ho.form; have HO9 := Lib.hid ho; have HB9 := Lib.hid (below_grown HW.out hg HW.out.size HLO.out); clear ho hg hnb)
        obtain ⟨t1, t2⟩ := HS23.out
        have hp9 : p + U + L + 5 = (headB first ++ frames first (rs.take (k + 1))).length := by
          have h3 : frames first (rs.take (k + 1)) = frames first (rs.take k) ++ frameB body := by
            rw [t2, frames_split, t1]
            simp only [frames, List.append_nil]
            rw [HBD.out]
          rw [h3, ← List.append_assoc, List.length_append, ← HP.out, frameB_len, HLB.out, HUU.out]
          omega
        have hnum : numB first (rs.take (k + 1)) = numB first (rs.take k) ++ [(first + k, r)] := by
          rw [t2, numB_append, t1]
          rfl
        have ho9 : LOwn 52 mBt w.heap.size w' (.slice A9 (k + 1) c9) (numB first (rs.take (k + 1))) := by
          have h4 := HO9.out
          rw [List.length_append, HLEN.out] at h4
          rw [hnum]
          exact h4
        exact ⟨⟨k + 1, p + U + L + 5, A9, c9, rfl, by go_num, by omega, Lib.hid hp9, Lib.hid ho9, HB9⟩, by show m - (k + 1) < m - k; omega⟩
    · obtain rfl : k = m := by omega
      have hp := HP.out
      have hall : rs.take k = rs := List.take_of_length_le (by rw [HM.out]; exact Nat.le_refl _)
      rw [hall] at hp
      have hpY : p = Y := by rw [hp, ← HYY.out]; rfl
      subst hpY
      have HF : Hid (LOwn 52 mBt w.heap.size wr (.slice A' k c') (numB first rs)) := by
        have := HO.out
        rwa [hall] at this
      clear hp hall
      go_wp2
      exact bodyPost_ret (v := .tuple #[.slice A' k c', .bool true]) (by simp [results]) rfl ⟨_, rfl, HF.out, HB.out⟩
end Go.Proofs.YthehpafkaefohaaGreatDoor
namespace Go.Proofs.YthehpafkaefohaaGreatDoor
open Go.RowKit
theorem LOwn.cat {α : Type} {T : TypeId} {m : Mv α} (hm : m.Lawful) (hT : T ∉ m.ts) {base b2 : Nat} {w w' : World} {v v' : Value} {xs ys : List α} {cells cells2 : List Value} (ho : w.ownsRow base T m.n v xs.length cells) (he : ∀ (j : Nat) (x : α), xs[j]? = some x → m.own base w ((cells.drop (j * m.n)).take m.n) x)
    (hmono : ∀ (us : List Value) (x : α), m.own b2 w us x → m.own base w us x) (hl2 : cells2.length = ys.length * m.n) (he2 : ∀ (j : Nat) (x : α), ys[j]? = some x → m.own b2 w ((cells2.drop (j * m.n)).take m.n) x) (ho' : w'.ownsRow base T m.n v' (xs.length + ys.length) (cells ++ cells2)) (hg : w.grownBy w' v.ownBlock) : LOwn T m base w' v' (xs ++ ys) := by
  have hst : Stay m.ts w w' := Stay.grown hg (fun k cs T' fr e hh hm' => by
    rcases ho.2 with ⟨rfl, _⟩ | ⟨g, cap, cur, rfl, hb, hh2, _⟩
    · cases e
    · injection e with e
      subst e
      rw [hh] at hh2
      injection hh2 with hh2
      injection hh2 with _ hh2
      rw [hh2] at hm'
      exact hT hm')
  refine ⟨cells ++ cells2, by rw [List.length_append]; exact ho', fun j y hj => ?_⟩
  have hcl := ho.1
  by_cases hlt : j < xs.length
  · rw [List.getElem?_append_left hlt] at hj
    have h1 : j * m.n + m.n ≤ cells.length := by
      rw [hcl]
      have : (j + 1) * m.n ≤ xs.length * m.n := Nat.mul_le_mul_right _ hlt
      rw [Nat.add_mul, Nat.one_mul] at this
      exact this
    rw [List.drop_append_of_le_length (by omega), List.take_append_of_le_length (by rw [List.length_drop]; omega)]
    exact hm.okeep (he j y hj) hst
  · rw [List.getElem?_append_right (by omega)] at hj
    have h2 : j * m.n = cells.length + (j - xs.length) * m.n := by
      rw [hcl, ← Nat.add_mul, Nat.add_sub_cancel' (by omega)]
    rw [h2, ← List.drop_drop, List.drop_left]
    exact hm.okeep (hmono _ _ (he2 _ y hj)) hst
theorem cells_one {α : Type} {m : Mv α} (hm : m.Lawful) {b : Nat} {w : World} {ys : List α} {cells : List Value} (hl : cells.length = ys.length * m.n) (he : ∀ (j : Nat) (x : α), ys[j]? = some x → m.own b w ((cells.drop (j * m.n)).take m.n) x) : ∀ u ∈ cells, u.oneCell' = true := by
  intro u hu
  obtain ⟨i, hi, hiu⟩ := List.mem_iff_getElem.1 hu
  have hp := hm.pos
  have hj : i / m.n < ys.length := by
    rw [Nat.div_lt_iff_lt_mul hp]; omega
  have h1 := he (i / m.n) ys[i / m.n] (List.getElem?_eq_getElem hj)
  refine hm.cell h1 u ?_
  have hdm := Nat.div_add_mod i m.n
  have hmod := Nat.mod_lt i hp
  rw [Nat.mul_comm] at hdm
  refine List.mem_iff_getElem?.2 ⟨i % m.n, ?_⟩
  rw [List.getElem?_take_of_lt hmod, List.getElem?_drop, hdm, ← hiu]
  exact List.getElem?_eq_getElem hi
/-- 'append(s, y...)' of two lists of the call's own -/
theorem wpList_cat {α : Type} {T t : TypeId} {m : Mv α} {ops : Array Oper} {rest : List Oper} {o : Oper} {a : Act} {w : World} {Q : Exit → Act → World → Prop} (hgd : o.guard = none) (s x : Operand)
    (ho : o.op = .call { callee := .builtin .append, args := #[s, x], argTypes := #[t, t] }) {bytes : Nat} {z : Value} (hE : Elem T t m.n bytes z) (hm : m.Lawful) (hT : T ∉ m.ts)
    (base b2 : Nat) (v v2 : Value) (xs ys : List α) (hs : a.eval s = v) (hown : LOwn T m base w v xs) (hx : a.eval x = v2) (hown2 : LOwn T m b2 w v2 ys) (hmono : ∀ (us : List Value) (x : α), m.own b2 w us x → m.own base w us x)
    (hl : xs.length + ys.length ≤ 100000000000) (hby : bytes ≤ 1000) (hb : base ≤ w.heap.size)
    (h : ∀ v' w', LOwn T m base w' v' (xs ++ ys) → w.grownBy w' v.ownBlock → wpList Tryz.prog ops Q rest (a.put o.dst v') w') : wpList Tryz.prog ops Q (o :: rest) a w := by
  obtain ⟨i0, hi, hz0, hz1, hz2⟩ := info_parts hE.info
  have hown0 := hown
  obtain ⟨cells, ho1, he⟩ := hown
  obtain ⟨cells2, ho2, he2⟩ := hown2
  have hl2 := ho2.1
  have hc2 := ho2.2
  rcases ho2.2 with ⟨rfl, h0⟩ | ⟨g, cap, cur, rfl, hb2, hh2, h3, h4, h5, h6⟩
  · refine wpList_append_own_none hgd s x t ho base T i0 m.n hE.ut hi v xs.length _ hs ho1 hx ?_
    have hys : ys = [] := List.eq_nil_of_length_eq_zero h0
    subst hys
    refine h v w (by rw [List.append_nil]; exact hown0) ?_
    exact ⟨rfl, rfl, rfl, Nat.le_refl _, fun k hk _ => rfl⟩
  · refine wpList_append_own_at _ hgd s x t ho base T i0 z m.n bytes hE.ut hi hz0 hz1 hz2 hE.zs hm.pos v xs.length _ hs ho1 ⟨g, 0, none⟩ ys.length cap cells2 hx hl2 ?_ (cells_one hm hl2 he2) ?_ ?_ hb ?_
    · intro j u hj
      exact World.ownsRow.cells ho2 (g := g) rfl j u hj
    · simp only [maxLen]; omega
    · have : (xs.length + ys.length) * bytes ≤ 100000000000 * 1000 := Nat.mul_le_mul hl hby
      omega
    · intro v' w' k1 k2 _ _
      exact h v' w' (LOwn.cat hm hT ho1 he hmono hl2 he2 k1 k2) k2
theorem bt_mono {b b2 : Nat} {w : World} (hb : b2 ≤ b) : ∀ (us : List Value) (x : Int × Bt), mBt.own b w us x → mBt.own b2 w us x := by
  rintro us x ⟨u1, u2, h1, h2, v, h3, h4⟩
  exact ⟨u1, u2, h1, h2, v, h3, by_mono h4 hb⟩
/-- what a list of the call's own reads as -/
theorem bt_list {base : Nat} {w : World} {v : Value} {xs : List (Int × Bt)} (h : LOwn 52 mBt base w v xs) : RdBt w v xs := by
  by_cases hn : xs = []
  · subst hn
    obtain ⟨cells, ho, _⟩ := h
    rcases ho.2 with ⟨rfl, _⟩ | ⟨g, cap, cur, rfl, _, hh, h3, h4, _⟩
    · exact .inl ⟨rfl, rfl⟩
    · exact .inr ⟨g, 0, cap, rfl, h3, h4, fun j y hj => by simp at hj⟩
  · obtain ⟨x, hx⟩ : ∃ x, xs[0]? = some x := ⟨_, List.getElem?_eq_getElem (List.length_pos_iff.2 hn)⟩
    obtain ⟨g, c, cur, us, rfl, hh, h3, h4, _, _⟩ := h.elem hx
    refine .inr ⟨g, 0, c, rfl, h3, h4, fun j y hj => ?_⟩
    obtain ⟨g', c', cur', us', he, hh', _, _, hu, h6⟩ := h.elem hj
    injection he with he
    injection he with he
    injection he with he
    subst he
    obtain ⟨u1, u2, rfl, h1, v, h2, hl⟩ := hu
    have h1 : u1 = [.int .i64 y.1] := h1
    subst h1
    subst h2
    refine ⟨v, ?_, ?_, by_list hl⟩
    · rw [blk_cell hh']
      have := h6 0 _ rfl
      rw [show j * mBt.n + 0 = 0 + j * 2 by show j * 2 + 0 = 0 + j * 2; omega] at this
      exact this
    · rw [blk_cell hh']
      have := h6 1 _ rfl
      rw [show j * mBt.n + 1 = 0 + j * 2 + 1 by show j * 2 + 1 = 0 + j * 2 + 1; omega] at this
      exact this
end Go.Proofs.YthehpafkaefohaaGreatDoor
namespace Go.Proofs.YthehpafkaefohaaGreatDoor
open Go.RowKit
def flatS (segs : List Sg) : List Bt := segs.flatMap Prod.snd
theorem chain_at : ∀ {segs : List Sg} {n : Int} {k : Nat} {s : Sg}, chainS n segs → segs[k]? = some s → s.1 = n + (flatS (segs.take k)).length
  | a :: segs, n, 0, s, h, hk => by
    have e : a = s := by simpa using hk
    subst e
    simp [flatS, h.1]
  | a :: segs, n, k + 1, s, h, hk => by
    have := chain_at h.2.2 (k := k) (s := s) (by simpa using hk)
    rw [this]
    simp [flatS]
    omega
theorem flat_take {segs : List Sg} {k : Nat} {s : Sg} (hk : segs[k]? = some s) : flatS (segs.take (k + 1)) = flatS (segs.take k) ++ s.2 := by
  unfold flatS
  rw [List.take_add_one, hk, List.flatMap_append]
  simp
theorem flat_take_le (segs : List Sg) (k : Nat) : (flatS (segs.take k)).length ≤ (flatS segs).length := by
  have : flatS segs = flatS (segs.take k) ++ flatS (segs.drop k) := by
    unfold flatS
    rw [← List.flatMap_append, List.take_append_drop]
  rw [this, List.length_append]
  omega
theorem numB_at : ∀ (a : List Bt) (n : Int) (j : Nat), j < a.length → ∃ r, (numB n a)[j]? = some (n + j, r)
  | r :: a, n, 0, _ => ⟨r, by simp [numB]⟩
  | r :: a, n, j + 1, h => by
    obtain ⟨r', h'⟩ := numB_at a (n + 1) j (by simpa using h)
    refine ⟨r', ?_⟩
    simp only [numB, List.getElem?_cons_succ, h']
    rw [show n + 1 + (j : Int) = n + ((j + 1 : Nat) : Int) by omega]
theorem used_mem {fs : List DF} {f : DF} (h : f ∈ fs) : f.bs.length ≤ usedF fs := by
  unfold usedF
  induction fs with
  | nil => cases h
  | cons a fs ih =>
    rw [List.map_cons, List.sum_cons]
    rcases List.mem_cons.1 h with rfl | h
    · omega
    · have := ih h; omega
theorem look_le {dk : DkSt} (ok : DkOk dk) {n : ByteArray} (h : hasN dk.fs n = true) : (lookF dk.fs n).bs.length ≤ 16777216 := by
  have h1 := used_mem (has_look ok.sorted h).1
  have := ok.used
  have := ok.room
  omega
theorem AX.read {w w1 : World} {d l : Nat} {dk : DkSt} {lg : LgSt} {S : List Nat} (h : AX w w1 d l dk lg S) (ok : DkOk dk) (hd : dk.dark = false) (n : ByteArray) (hh : hasN dk.fs n = true) : Calls Tryz.prog 58 #[.pointer (some ⟨d, 0, none⟩), .string n] w1 fun e w' => ∃ z, e = .returned (.tuple #[z, .int .i64 0]) ∧ Bytes w1.heap.size w' z (lookF dk.fs n).bs ∧ Below w1.heap.size w1 w' := by
  obtain ⟨v, u, h1, _, _⟩ := h.lb
  exact read_any h1 ok hd n hh (by have := look_le ok hh; omega)
theorem bt_own_mono {b b2 : Nat} {w : World} {v : Value} {xs : List (Int × Bt)} (h : LOwn 52 mBt b w v xs) (hb : b2 ≤ b) : LOwn 52 mBt b2 w v xs := by
  obtain ⟨cells, h1, h2⟩ := h
  exact ⟨cells, own_mono h1 hb, fun j x hx => bt_mono hb _ _ (h2 j x hx)⟩
structure Told (n0 : Int) (segs : List Sg) (dk : DkSt) (lg : LgSt) : Prop where
  ok : DkOk dk
  lit : dk.dark = false
  fi : lg.firsts = segs.map Prod.fst
  byt : ∀ s ∈ segs, hasN dk.fs (nameL s.1) = true ∧ (lookF dk.fs (nameL s.1)).bs = segB s.1 s.2
  ch : chainS n0 segs
  lo : 1 ≤ n0
  hi : n0 ≤ 1000000000
  sm : ∀ s ∈ segs, ∀ r ∈ s.2, smallB r
  tot : (flatS segs).length ≤ 1000
  many : segs.length ≤ 1000
set_option maxRecDepth 20000 in
set_option maxHeartbeats 4000000 in
theorem told_any {w w1 : World} {d l : Nat} {dk : DkSt} {lg : LgSt} {S : List Nat} (hx : AX w w1 d l dk lg S) (n0 : Int) (segs : List Sg) (ht : Told n0 segs dk lg) :
    Calls Tryz.prog 46 #[.pointer (some ⟨d, 0, none⟩), .pointer (some ⟨l, 0, none⟩)] w1 fun e w' => ∃ z, e = .returned (.tuple #[z, .bool true]) ∧ LOwn 52 mBt w1.heap.size w' z (numB n0 (flatS segs)) ∧ Below w1.heap.size w1 w' := by
  have HX := Lib.hid hx
  have HT := Lib.hid ht
  have hfl := hx.files (by rw [ht.fi, List.length_map]; have := ht.many; omega)
  obtain ⟨K, hK⟩ : ∃ K, segs.length = K := ⟨_, rfl⟩
  have hfl2 : (lFiles lg).length = K := by unfold lFiles; rw [ht.fi, List.length_map, List.length_map, hK]
  have HFL := Lib.hid hfl
  have HFN := Lib.hid hfl2
  have HK := Lib.hid hK
  have hK1 : K ≤ 1000 := by have := ht.many; omega
  have hn0 := ht.lo
  have hn1 := ht.hi
  clear hx ht hfl hfl2 hK
  go_enter Tryz.func46, Tryz.ntmps46
  go_wp2_with fail
  refine HFL.out.mono ?_
  rintro e w2 ⟨z2, rfl, hz, hb⟩
  obtain ⟨A2, c2, rfl, _, _⟩ := hz.form
  rw [HFN.out] at hz ⊢
  have HZ := Lib.hid hz
  have HB2 := Lib.hid hb
  clear hz hb HFL
  go_wp2_with fail
  go_loopw [6, 18] (fun u i wr => ∃ (k q : Nat) (A' : Option Addr) (c' : Nat), u = .slice A' q c' ∧ i = .int .i64 k ∧ k ≤ K ∧ Hid (q = (flatS (segs.take k)).length) ∧ Hid (LOwn 52 mBt w2.heap.size wr u (numB n0 (flatS (segs.take k)))) ∧ Hid (Below w1.heap.size w1 wr) ∧ Hid (Below w2.heap.size w2 wr)) (fun _ i _ => K - (intOf i).toNat)
  case atStart => exact ⟨0, 0, none, 0, rfl, rfl, Nat.zero_le _, Lib.hid rfl, Lib.hid (LOwn.nil _ _), HB2, Lib.hid (Below.refl _ _)⟩
  case round =>
    obtain ⟨k, q, A', c', rfl, rfl, hk, HQ, HO, HB, HB2w⟩ := hrel
    by_cases hlt : k < K
    · obtain ⟨⟨fv, bts⟩, hs⟩ : ∃ s, segs[k]? = some s := ⟨_, List.getElem?_eq_getElem (by rw [HK.out]; exact hlt)⟩
      have hfv : fv = n0 + q := by rw [HQ.out]; exact chain_at HT.out.ch hs
      have hmem := List.mem_of_getElem? hs
      have hft := flat_take hs
      have hle := flat_take_le segs (k + 1)
      have htot := HT.out.tot
      have hqq := HQ.out
      rw [hft, List.length_append, ← hqq] at hle
      simp only at hle
      have hsm := HT.out.sm _ hmem
      obtain ⟨hh, hbs⟩ := HT.out.byt _ hmem
      simp only at hh hbs hsm hft
      have hin : inL fv := ⟨by omega, by omega⟩
      have hll := look_le HT.out.ok hh
      rw [hbs] at hll
      have HB0 : Hid (1 ≤ fv ∧ fv + bts.length ≤ 1152921504606846976 ∧ (∀ r ∈ bts, smallB r) ∧ (segB fv bts).length ≤ 100000000 ∧ bts.length ≤ 1000) := ⟨by omega, by omega, hsm, by omega, by omega⟩
      have hnm : (lFiles lg)[k]? = some (nameL fv) := by
        unfold lFiles
        rw [HT.out.fi, List.getElem?_map, List.getElem?_map, hs]; rfl
      obtain ⟨bz, oz, hA, dz⟩ := HZ.out.at hnm
      subst hA
      have dzr := cell_later HB2w.out dz
      have hfi := first_any (nameL fv) wr (Nat.le_trans (nameL_size fv) (by omega)) (HX.out.gk.below (HX.out.be.trans (HB.out.mono HX.out.be.size)))
      rw [firstL_name, if_pos hin] at hfi
      obtain ⟨nm, hnn⟩ : ∃ nm, nameL fv = nm := ⟨_, rfl⟩
      rw [hnn] at hfi hh hbs dzr
      have HFI := Lib.hid hfi
      have HHS := Lib.hid hh
      have HBS := Lib.hid hbs
      have HFT := Lib.hid hft
      have hkK : (k : Int) < K := by omega
      have hq1000 : q ≤ 1000 := by omega
      have hb1000 : bts.length ≤ 1000 := by omega
      clear hs hmem hft hle htot hqq hsm hh hbs hin hll hnm dz hfi hnn
      cases q with
      | zero =>
        have hfv0 : n0 = fv := by rw [hfv]; simp
        clear hfv
        subst hfv0
        go_upto_region 6 with (go_at_call 34; (with_reducible refine HFI.out.mono ?_); rintro e w3 ⟨rfl, hb⟩; have HB3 := Lib.hid (HB.out.trans (hb.mono HB.out.size)); have HO3 := Lib.hid (HO.out.keep mBt_law (Stay.below hb)); have HW3 := Lib.hid (HB2w.out.trans (hb.mono HB2w.out.size)); have HR3 := Lib.hid hb; clear hb)
        have hrd := (HX.out.below HB3.out).read HT.out.ok HT.out.lit nm HHS.out
        rw [HBS.out] at hrd
        have HRD := Lib.hid hrd
        clear hrd
        go_wp2_with fail
        refine HRD.out.mono ?_
        rintro e w4 ⟨z4, rfl, hz4, hb⟩
        obtain ⟨A4, c4, rfl⟩ := bytes_form hz4
        have HZ4 := Lib.hid hz4.reads
        have HB4 := Lib.hid (HB3.out.trans (hb.mono HB3.out.size))
        have HO4 := Lib.hid (HO3.out.keep mBt_law (Stay.below hb))
        have HW4 := Lib.hid (HW3.out.trans (hb.mono HW3.out.size))
        have HR4 := Lib.hid hb
        clear hz4 hb HO3 HW3 HB3 HRD
        have hrs := read_seg (n0) bts _ w4 HZ4.out HB0.out.1 HB0.out.2.1 HB0.out.2.2.1 HB0.out.2.2.2.1 HB0.out.2.2.2.2
        have HRS := Lib.hid hrs
        clear hrs
        go_wp2_with fail
        refine HRS.out.mono ?_
        rintro e w5 ⟨z5, rfl, hz5, hb⟩
        obtain ⟨A5, c5, rfl⟩ := hz5.form
        rw [numB_len] at hz5 ⊢
        have HZ5 := Lib.hid hz5
        have HB5 := Lib.hid (HB4.out.trans (hb.mono HB4.out.size))
        have HO5 := Lib.hid (HO4.out.keep mBt_law (Stay.below hb))
        have HW5 := Lib.hid (HW4.out.trans (hb.mono HW4.out.size))
        have HL5 : Hid ((numB n0 (flatS (segs.take k))).length = 0) := by show _ = _; rw [numB_len, ← HQ.out]
        have HL6 : Hid ((numB (n0) bts).length = bts.length) := numB_len _ _
        have HLO := Lib.hid HO5.out.lo
        have HS1 := Lib.hid HW4.out.size
        have HS2 := Lib.hid HB2.out.size
        clear hz5 hb
        go_wp2_with (at_builtin; refine wpList_cat rfl _ _ rfl elBt mBt_law (by decide) w2.heap.size w4.heap.size (.slice (A') (0) c') (.slice A5 bts.length c5) (numB n0 (flatS (segs.take k))) (numB (n0) bts) rfl HO5.out rfl HZ5.out (bt_mono HS1.out) (by rw [HL5.out, HL6.out]; omega) (by omega) HW5.out.size ?_; intro v' w' ho hg; obtain ⟨A9, c9, rfl⟩ := ho.form; have HO9 := Lib.hid ho; have HB9 := Lib.hid (below_grown HB5.out hg HB5.out.size (fun k' hk' => Nat.le_trans HS2.out (HLO.out k' hk'))); have HW9 := Lib.hid (below_grown HW5.out hg HW5.out.size HLO.out); clear ho hg)
        have hnum : numB n0 (flatS (segs.take (k + 1))) = numB n0 (flatS (segs.take k)) ++ numB (n0) bts := by
          rw [HFT.out, numB_append, ← HQ.out]
          rw [show n0 + ((0 : Nat) : Int) = n0 by omega]
        have ho9 : LOwn 52 mBt w2.heap.size w' (.slice A9 ((numB n0 (flatS (segs.take k))).length + (numB (n0) bts).length) c9) (numB n0 (flatS (segs.take (k + 1)))) := by
          have h4 := HO9.out
          rw [List.length_append] at h4
          rw [hnum]
          exact h4
        have hq9 : (numB n0 (flatS (segs.take k))).length + (numB (n0) bts).length = (flatS (segs.take (k + 1))).length := by rw [numB_len, numB_len, HFT.out, List.length_append]
        exact ⟨⟨k + 1, _, A9, c9, rfl, by go_num, by omega, Lib.hid hq9, Lib.hid ho9, HB9, HW9⟩, by simp [intOf]; omega⟩
      | succ t =>
        have hfv0 : fv = n0 + (t : Int) + 1 := by rw [hfv]; omega
        clear hfv
        subst hfv0
        obtain ⟨rt, hnt⟩ := numB_at (flatS (segs.take k)) n0 t (by rw [← HQ.out]; omega)
        obtain ⟨bo, oo, uo, hAo, do0, _, _⟩ := (bt_list HO.out).at hnt
        subst hAo
        simp only at do0
        clear hnt
        go_upto_region 6 with (go_at_call 34; (with_reducible refine HFI.out.mono ?_); rintro e w3 ⟨rfl, hb⟩; have HB3 := Lib.hid (HB.out.trans (hb.mono HB.out.size)); have HO3 := Lib.hid (HO.out.keep mBt_law (Stay.below hb)); have HW3 := Lib.hid (HB2w.out.trans (hb.mono HB2w.out.size)); have HR3 := Lib.hid hb; clear hb)
        have hrd := (HX.out.below HB3.out).read HT.out.ok HT.out.lit nm HHS.out
        rw [HBS.out] at hrd
        have HRD := Lib.hid hrd
        clear hrd
        go_wp2_with fail
        refine HRD.out.mono ?_
        rintro e w4 ⟨z4, rfl, hz4, hb⟩
        obtain ⟨A4, c4, rfl⟩ := bytes_form hz4
        have HZ4 := Lib.hid hz4.reads
        have HB4 := Lib.hid (HB3.out.trans (hb.mono HB3.out.size))
        have HO4 := Lib.hid (HO3.out.keep mBt_law (Stay.below hb))
        have HW4 := Lib.hid (HW3.out.trans (hb.mono HW3.out.size))
        have HR4 := Lib.hid hb
        clear hz4 hb HO3 HW3 HB3 HRD
        have do4 := cell_later HR4.out (cell_later HR3.out do0)
        have hrs := read_seg (n0 + (t : Int) + 1) bts _ w4 HZ4.out HB0.out.1 HB0.out.2.1 HB0.out.2.2.1 HB0.out.2.2.2.1 HB0.out.2.2.2.2
        have HRS := Lib.hid hrs
        clear hrs
        go_wp2_with fail
        refine HRS.out.mono ?_
        rintro e w5 ⟨z5, rfl, hz5, hb⟩
        obtain ⟨A5, c5, rfl⟩ := hz5.form
        rw [numB_len] at hz5 ⊢
        have HZ5 := Lib.hid hz5
        have HB5 := Lib.hid (HB4.out.trans (hb.mono HB4.out.size))
        have HO5 := Lib.hid (HO4.out.keep mBt_law (Stay.below hb))
        have HW5 := Lib.hid (HW4.out.trans (hb.mono HW4.out.size))
        have HL5 : Hid ((numB n0 (flatS (segs.take k))).length = t + 1) := by show _ = _; rw [numB_len, ← HQ.out]
        have HL6 : Hid ((numB (n0 + (t : Int) + 1) bts).length = bts.length) := numB_len _ _
        have HLO := Lib.hid HO5.out.lo
        have HS1 := Lib.hid HW4.out.size
        have HS2 := Lib.hid HB2.out.size
        clear hz5 hb
        go_wp2_with (at_builtin; refine wpList_cat rfl _ _ rfl elBt mBt_law (by decide) w2.heap.size w4.heap.size (.slice (some ⟨bo, oo, none⟩) (t + 1) c') (.slice A5 bts.length c5) (numB n0 (flatS (segs.take k))) (numB (n0 + (t : Int) + 1) bts) rfl HO5.out rfl HZ5.out (bt_mono HS1.out) (by rw [HL5.out, HL6.out]; omega) (by omega) HW5.out.size ?_; intro v' w' ho hg; obtain ⟨A9, c9, rfl⟩ := ho.form; have HO9 := Lib.hid ho; have HB9 := Lib.hid (below_grown HB5.out hg HB5.out.size (fun k' hk' => Nat.le_trans HS2.out (HLO.out k' hk'))); have HW9 := Lib.hid (below_grown HW5.out hg HW5.out.size HLO.out); clear ho hg)
        have hnum : numB n0 (flatS (segs.take (k + 1))) = numB n0 (flatS (segs.take k)) ++ numB (n0 + (t : Int) + 1) bts := by
          rw [HFT.out, numB_append, ← HQ.out]
          rw [show n0 + ((t + 1 : Nat) : Int) = n0 + (t : Int) + 1 by omega]
        have ho9 : LOwn 52 mBt w2.heap.size w' (.slice A9 ((numB n0 (flatS (segs.take k))).length + (numB (n0 + (t : Int) + 1) bts).length) c9) (numB n0 (flatS (segs.take (k + 1)))) := by
          have h4 := HO9.out
          rw [List.length_append] at h4
          rw [hnum]
          exact h4
        have hq9 : (numB n0 (flatS (segs.take k))).length + (numB (n0 + (t : Int) + 1) bts).length = (flatS (segs.take (k + 1))).length := by rw [numB_len, numB_len, HFT.out, List.length_append]
        exact ⟨⟨k + 1, _, A9, c9, rfl, by go_num, by omega, Lib.hid hq9, Lib.hid ho9, HB9, HW9⟩, by simp [intOf]; omega⟩
    · obtain rfl : k = K := by omega
      have hall : segs.take k = segs := List.take_of_length_le (by rw [HK.out]; exact Nat.le_refl _)
      have ho := HO.out
      rw [hall] at ho
      have HF := Lib.hid (bt_own_mono ho HB2.out.size)
      clear hall ho
      go_wp2
      exact bodyPost_ret (v := .tuple #[.slice A' q c', .bool true]) (by simp [results]) rfl ⟨_, rfl, HF.out, HB.out⟩
end Go.Proofs.YthehpafkaefohaaGreatDoor
namespace Go.Proofs.YthehpafkaefohaaGreatDoor
open Go.RowKit
/-- batches whose records stand in the world w0 -/
def mAl (w0 : World) : Mv (Int × Bt) := ⟨2, [], fun _ _ vs x => ∃ u, vs = [.int .i64 x.1, u] ∧ RdL w0 u x.2, fun _ _ vs x => ∃ u, vs = [.int .i64 x.1, u] ∧ RdL w0 u x.2⟩
theorem mAl_law (w0 : World) : (mAl w0).Lawful where
  pos := Nat.succ_pos 1
  len h := by obtain ⟨u, rfl, _⟩ := h; rfl
  olen h := by obtain ⟨u, rfl, _⟩ := h; rfl
  keep h _ := h
  toRep h := h
  okeep h _ := h
  cell h := by
    obtain ⟨u, rfl, h⟩ := h
    obtain ⟨A, c, rfl, _⟩ := h.form
    intro v hv
    simp at hv
    rcases hv with rfl | rfl <;> rfl
  rcell h := by
    obtain ⟨u, rfl, h⟩ := h
    obtain ⟨A, c, rfl, _⟩ := h.form
    intro v hv
    simp at hv
    rcases hv with rfl | rfl <;> rfl
theorem al_list {base : Nat} {w0 w : World} {v : Value} {xs : List (Int × Bt)} (h : LOwn 52 (mAl w0) base w v xs) (hb : Below w0.heap.size w0 w) : RdBt w v xs := by
  by_cases hn : xs = []
  · subst hn
    obtain ⟨cells, ho, _⟩ := h
    rcases ho.2 with ⟨rfl, _⟩ | ⟨g, cap, cur, rfl, _, hh, h3, h4, _⟩
    · exact .inl ⟨rfl, rfl⟩
    · exact .inr ⟨g, 0, cap, rfl, h3, h4, fun j y hj => by simp at hj⟩
  · obtain ⟨x, hx⟩ : ∃ x, xs[0]? = some x := ⟨_, List.getElem?_eq_getElem (List.length_pos_iff.2 hn)⟩
    obtain ⟨g, c, cur, us, rfl, hh, h3, h4, _, _⟩ := h.elem hx
    refine .inr ⟨g, 0, c, rfl, h3, h4, fun j y hj => ?_⟩
    obtain ⟨g', c', cur', us', he, hh', _, _, hu, h6⟩ := h.elem hj
    injection he with he
    injection he with he
    injection he with he
    subst he
    obtain ⟨u, rfl, hl⟩ := hu
    refine ⟨u, ?_, ?_, hl.below hb⟩
    · rw [blk_cell hh']
      have := h6 0 _ rfl
      rw [show j * (mAl w0).n + 0 = 0 + j * 2 by show j * 2 + 0 = 0 + j * 2; omega] at this
      exact this
    · rw [blk_cell hh']
      have := h6 1 _ rfl
      rw [show j * (mAl w0).n + 1 = 0 + j * 2 + 1 by show j * 2 + 1 = 0 + j * 2 + 1; omega] at this
      exact this
theorem LB.types4 {w : World} {d l : Nat} {dk : DkSt} {lg : LgSt} {S : List Nat} (h : LB w d l dk lg S) : ∀ x ∈ S, ∃ cs T, w.heap[x]? = some (.cells cs T) ∧ (T = 85 ∨ T = 115 ∨ T = 27 ∨ T = 3) := by
  obtain ⟨v, u, h1, h2, rfl⟩ := h
  intro x hx
  rcases List.mem_append.1 hx with hx | hx
  · obtain ⟨cs, T, h3, h4⟩ := h1.types x hx
    exact ⟨cs, T, h3, h4.elim .inl (fun h => .inr (.inl h))⟩
  · obtain ⟨cs, T, h3, h4⟩ := h2.types x hx
    exact ⟨cs, T, h3, h4.elim (fun h => .inr (.inr (.inl h))) (fun h => .inr (.inr (.inr h)))⟩
theorem AX.stay {w w1 w2 : World} {d l : Nat} {dk dk' : DkSt} {lg lg' : LgSt} {S : List Nat} (h : AX w w1 d l dk lg S) (hs : LStep d l S dk' lg' w1 w2) : Stay [52] w1 w2 := by
  obtain ⟨S', _, h2⟩ := hs
  refine h2.chg.stay fun x hx cs T fr hh hT => ?_
  obtain ⟨cs', T', h3, h4⟩ := h.lb.types4 x hx
  rw [h3] at hh
  injection hh with hh
  injection hh with _ hh
  subst hh
  revert hT
  rcases h4 with rfl | rfl | rfl | rfl <;> decide
theorem segs_le : ∀ {segs : List Sg} {n : Int}, chainS n segs → segs.length ≤ (flatS segs).length
  | [], _, _ => Nat.le_refl _
  | s :: segs, n, h => by
    have := segs_le h.2.2
    have := h.2.1
    simp [flatS] at *
    omega
theorem LgH.told {b : Int} {segs : List Sg} {all : List Bt} {dk : DkSt} {lg : LgSt} (h : LgH b segs all dk lg) (hb : 0 ≤ b) (hb2 : b ≤ 100000) (hk : all.length ≤ 60) (hs : ∀ r ∈ all, smallB r) : Told (b + 1) segs dk lg := by
  have hf : flatS segs = all := h.fl
  refine ⟨h.i.ok, h.i.lit, h.fi, fun s hs => ⟨(h.i.seg s.1 (by rw [h.fi]; exact List.mem_map_of_mem hs)).2.2, h.byt s hs⟩, h.ch, by omega, by omega, fun s hs' r hr => hs r ?_, by rw [hf]; omega, ?_⟩
  · rw [← hf]
    exact List.mem_flatMap.2 ⟨s, hs', hr⟩
  · have := segs_le h.ch
    rw [hf] at this
    omega
end Go.Proofs.YthehpafkaefohaaGreatDoor

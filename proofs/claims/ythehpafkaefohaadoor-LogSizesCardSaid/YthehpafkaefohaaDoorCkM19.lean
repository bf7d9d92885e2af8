/- Walks: slices.Insert of a file. Conditions: sizes a machine can have. -/
import Derived.Test.YthehpafkaefohaaDoorCkM16
import Derived.Test.YthehpafkaefohaaDoorCkM17
import Derived.Shelf.Spec.SlicesInsert
import Derived.RegionTactic
import Derived.Orders
import Derived.Deep.RegionHeld3
import Derived.Test.YthehpafkaefohaaDoorCkM18
namespace Go.Proofs.YthehpafkaefohaaDoor
open Go.RowKit
def IPost (v : Value) (xs : List DF) (w : World) (e : Ending) (w' : World) : Prop := ∃ v', e = .returned v' ∧ LOwn 58 mFl 0 w' v' xs ∧ ChgS v.ownBlock.toList w w' ∧ NR v v' w
theorem chg_grown {w w' : World} {v : Value} (h : w.grownBy w' v.ownBlock) : ChgS v.ownBlock.toList w w' := ⟨h.os, h.tape, h.output, h.size, fun k hk h1 => h.block k hk (fun e => h1 (by rw [← e]; simp))⟩
set_option maxRecDepth 20000 in
set_option maxHeartbeats 2000000 in
theorem insert_end (v : Value) (fs : List DF) (nm : ByteArray) (vb : Nat) (w : World) (h : LOwn 58 mFl 0 w v fs) (hv : w.heap[vb]? = some (.cells #[.string nm, .slice none 0 0, .int .i64 0] 58)) (hsz : fs.length ≤ 1000000) :
    Calls Tryd.prog 54 #[v, .int .i64 fs.length, .slice (some ⟨vb, 0, none⟩) 1 1] w (IPost v (fs ++ [⟨nm, [], 0⟩]) w) := by
  have H := Lib.hid h
  have HV := Lib.hid hv
  have HY : Hid (mFl.own 0 w [.string nm, .slice none 0 0, .int .i64 0] ⟨nm, [], 0⟩) := mFl_mk (f := ⟨nm, [], 0⟩) (Bytes.nil _ _)
  obtain ⟨A, c, rfl⟩ := h.form
  obtain ⟨N, hN⟩ : ∃ N, fs.length = N := ⟨_, rfl⟩
  have HN := Lib.hid hN
  rw [hN] at H hsz ⊢
  clear h hv hN
  by_cases hcN : c = N
  · subst hcN
    go_enter Tryd.func54, Tryd.ntmps54
    go_wp2_with (at_builtin; refine wpList_push rfl _ _ rfl elF mFl_law (by decide) 0 (.slice A c c) fs ⟨nm, [], 0⟩ _ vb rfl H.out rfl HV.out HY.out (by rw [HN.out]; omega) (by omega) (Nat.zero_le _) ?_; intro v' w' ho hg hnb)
    obtain ⟨A', c', rfl⟩ := ho.form
    refine bodyPost_ret (v := .slice A' (fs ++ [⟨nm, [], 0⟩] : List DF).length c') (by simp [results]) rfl ?_
    refine ⟨_, rfl, ho, chg_grown hg, fun k hk => ?_⟩
    rcases hnb with h1 | h1
    · exact .inl (h1 ▸ hk)
    · rw [h1] at hk
      injection hk with hk
      exact .inr (by omega)
  · go_enter Tryd.func54, Tryd.ntmps54
    go_wp2_with (at_builtin; refine wpList_push rfl _ _ rfl elF mFl_law (by decide) 0 (.slice A N c) fs ⟨nm, [], 0⟩ _ vb rfl H.out rfl HV.out HY.out (by rw [HN.out]; omega) (by omega) (Nat.zero_le _) ?_; intro v' w' ho hg hnb)
    obtain ⟨A', c', rfl⟩ := ho.form
    refine bodyPost_ret (v := .slice A' (fs ++ [⟨nm, [], 0⟩] : List DF).length c') (by simp [results]) rfl ?_
    refine ⟨_, rfl, ho, chg_grown hg, fun k hk => ?_⟩
    rcases hnb with h1 | h1
    · exact .inl (h1 ▸ hk)
    · rw [h1] at hk
      injection hk with hk
      exact .inr (by omega)
end Go.Proofs.YthehpafkaefohaaDoor
namespace Go.Proofs.YthehpafkaefohaaDoor
open Go.RowKit
theorem infoF : (Tryd.prog.info? 58).map (·.size) = some 3 := by kernel_rfl
set_option maxRecDepth 20000 in
set_option maxHeartbeats 2000000 in
theorem insert_room (g c : Nat) (fs : List DF) (nm : ByteArray) (vb i : Nat) (w : World) (h : LOwn 58 mFl 0 w (.slice (some ⟨g, 0, none⟩) fs.length c) fs) (hv : w.heap[vb]? = some (.cells #[.string nm, .slice none 0 0, .int .i64 0] 58)) (hne : vb ≠ g) (hsz : fs.length ≤ 1000000) (hi : i < fs.length) (hc : fs.length + 1 ≤ c) :
    Calls Tryd.prog 54 #[.slice (some ⟨g, 0, none⟩) fs.length c, .int .i64 i, .slice (some ⟨vb, 0, none⟩) 1 1] w (IPost (.slice (some ⟨g, 0, none⟩) fs.length c) (fs.take i ++ ⟨nm, [], 0⟩ :: fs.drop i) w) := by
  obtain ⟨N, hN⟩ : ∃ N, fs.length = N := ⟨_, rfl⟩
  obtain ⟨cells, ho, he⟩ := h
  rw [hN] at ho hsz hi hc ⊢
  have ho' := ho
  have hcl := ho.1
  rcases ho.2 with ⟨h9, _⟩ | ⟨g', cap, cur, h1, hb, hh, h3, h4, h5, h6⟩
  · cases h9
  injection h1 with h1 _ h8
  injection h1 with h1
  injection h1 with h1
  subst h1; subst h8
  have hcl : cells.length = N * 3 := hcl
  have h5 : cur.size = c * 3 := h5
  have h6 : cur.toList.take (N * 3) = cells := h6
  have hce : ∀ u ∈ cells, u.oneCell' = true := by
    intro u hu
    obtain ⟨j, hj⟩ := List.getElem?_of_mem hu
    have hjl := (List.getElem?_eq_some_iff.1 hj).1
    have hq : j / 3 < N := by omega
    obtain ⟨x, hx⟩ : ∃ x, fs[j / 3]? = some x := ⟨_, List.getElem?_eq_getElem (by omega)⟩
    refine mFl_law.cell (he _ x hx) u ?_
    refine List.mem_of_getElem? (i := j % 3) ?_
    show ((cells.drop (j / 3 * 3)).take 3)[j % 3]? = _
    rw [List.getElem?_take, if_pos (by omega), List.getElem?_drop, show j / 3 * 3 + j % 3 = j by omega]
    exact hj
  obtain ⟨D, hD⟩ : ∃ D, cells.drop (i * 3) = D := ⟨_, rfl⟩
  have hDl : D.length = (N - i) * 3 := by rw [← hD, List.length_drop, hcl]; omega
  have hDc : ∀ u ∈ D, u.oneCell' = true := fun u hu => hce u (by rw [← hD] at hu; exact List.mem_of_mem_drop hu)
  obtain ⟨cur1, hcur1⟩ : ∃ cur1 : List Value, cur1 = cur.toList.take ((i + 1) * 3) ++ D ++ cur.toList.drop ((i + 1) * 3 + D.length) := ⟨_, rfl⟩
  obtain ⟨us, hus⟩ : ∃ us : List Value, us = [.string nm, .slice none 0 0, .int .i64 0] := ⟨_, rfl⟩
  obtain ⟨r1, r2, r3⟩ := ins_room cur.toList cells us N i 3 h6 hcl (by omega) (by rw [hus]; rfl) (by rw [Array.length_toList, h5]; omega) cur1 (by rw [hD]; exact hcur1)
  have hcp1 : ∀ ty dc sc, (Builtin.copy_ #[50, 50] ty #[.slice (some ⟨g, (i + 1) * 3, none⟩) (N - i) dc, .slice (some ⟨g, i * 3, none⟩) (N + 1 - i) sc]).run Tryd.prog w.drew = .ok (goInt ((N - i : Nat) : Int)) (w.drew.setRow g cur1.toArray) := fun ty dc sc => by
    have := run_copy_rowK (P := Tryd.prog) w.drew 50 50 ty 58 g ((i + 1) * 3) (N - i) dc ⟨g, i * 3, none⟩ (N + 1 - i) sc 3 cur 58 D Tryd.underlying50 infoF hh (by rw [hDl, show Nat.min (N + 1 - i) (N - i) = N - i from Nat.min_eq_right (by omega)]) (fun j v hj => by
      rw [addr_add, blk_cell (w := w.drew) hh]
      show cur[i * 3 + j]? = some v
      rw [← hD, List.getElem?_drop, ← h6, List.getElem?_take] at hj
      split at hj
      · simpa using hj
      · cases hj) (by rw [hDl, h5]; omega) hDc
    rw [show Nat.min (N + 1 - i) (N - i) = N - i from Nat.min_eq_right (by omega), ← hcur1] at this
    exact this
  have hvw : (w.drew.setRow g cur1.toArray).heap[vb]? = some (.cells #[.string nm, .slice none 0 0, .int .i64 0] 58) := (setRow_other _ _ _ _ hne).trans hv
  have hgw : (w.drew.setRow g cur1.toArray).heap[g]? = some (.cells cur1.toArray 58) := setRow_heap w.drew g cur cur1.toArray _ _ hh
  have hcp2 : ∀ ty dc sc, (Builtin.copy_ #[50, 50] ty #[.slice (some ⟨g, i * 3, none⟩) (N + 1 - i) dc, .slice (some ⟨vb, 0, none⟩) 1 sc]).run Tryd.prog (w.drew.setRow g cur1.toArray) = .ok (goInt ((1 : Nat) : Int)) ((w.drew.setRow g cur1.toArray).setRow g (cur1.take (i * 3) ++ us ++ cur1.drop (i * 3 + us.length)).toArray) := fun ty dc sc => by
    have := run_copy_rowK (P := Tryd.prog) (w.drew.setRow g cur1.toArray) 50 50 ty 58 g (i * 3) (N + 1 - i) dc ⟨vb, 0, none⟩ 1 sc 3 cur1.toArray 58 us Tryd.underlying50 infoF hgw (by rw [hus, show Nat.min 1 (N + 1 - i) = 1 from Nat.min_eq_left (by omega)]; rfl) (fun j v hj => by
      rw [addr_add, blk_cell hvw]
      show (#[Value.string nm, .slice none 0 0, .int .i64 0] : Array Value)[0 + j]? = some v
      rw [hus] at hj
      simpa using hj) (by rw [hus]; simp only [List.length_cons, List.length_nil, List.size_toArray, r3, Array.length_toList, h5]; omega) (by rw [hus]; intro u hu; simp at hu; rcases hu with rfl | rfl | rfl <;> rfl)
    rw [show Nat.min 1 (N + 1 - i) = 1 from Nat.min_eq_left (by omega)] at this
    simpa using this
  obtain ⟨W2, hW2⟩ : ∃ W2, W2 = (w.drew.setRow g cur1.toArray).setRow g (cur1.take (i * 3) ++ us ++ cur1.drop (i * 3 + us.length)).toArray := ⟨_, rfl⟩
  rw [← hW2] at hcp2
  have hW2g : W2.heap[g]? = some (.cells (cur1.take (i * 3) ++ us ++ cur1.drop (i * 3 + us.length)).toArray 58) := by rw [hW2]; exact setRow_heap _ _ _ _ _ _ hgw
  have hchg : ChgS (Value.slice (some ⟨g, 0, none⟩) N c).ownBlock.toList w W2 := by
    rw [hW2]
    exact chg_setRow (chg_setRow ((ChgS.refl _ w).drewN 1) (.inl (by simp [Value.ownBlock])) _) (.inl (by simp [Value.ownBlock])) _
  have hst : Stay mFl.ts w W2 := hchg.stay (fun x hx cs T fr hh2 => by
    have : x = g := by simpa [Value.ownBlock] using hx
    subst this
    rw [hh] at hh2
    injection hh2 with hh2
    injection hh2 with _ hh2
    subst hh2
    decide)
  have HT : Hid (IPost (.slice (some ⟨g, 0, none⟩) N c) (fs.take i ++ ⟨nm, [], 0⟩ :: fs.drop i) w (.returned (.slice (some ⟨g, 0, none⟩) (N + 1) c)) W2) := by
    refine ⟨_, rfl, ?_, hchg, fun k hk => .inl hk⟩
    refine LOwn.ins mFl_law (xs := fs) (cells := cells) (us := us) (x := ⟨nm, [], 0⟩) (i := i) (w := w) (v := .slice (some ⟨g, 0, none⟩) N c) (by rw [hN]; exact ho') he (by omega) (by rw [hus]; exact mFl_mk (f := ⟨nm, [], 0⟩) (Bytes.nil _ _)) hst ?_
    rw [hN]
    refine ⟨?_, .inr ⟨g, c, _, rfl, Nat.zero_le _, hW2g, hc, h4, ?_, ?_⟩⟩
    · show (cells.take (i * 3) ++ us ++ cells.drop (i * 3)).length = (N + 1) * 3
      rw [hus]; simp only [List.length_append, List.length_take, List.length_drop, hcl, List.length_cons, List.length_nil]; omega
    · rw [List.size_toArray, r2, Array.length_toList, h5]; rfl
    · exact r1
  have HP1 := Lib.hid hcp1
  have HP2 := Lib.hid hcp2
  have hh9 := hh
  have hov : ∀ lb cb, (callFunc 65 #[.slice (some ⟨vb, 0, none⟩) 1 1, .slice (some ⟨g, (i + 1) * 3, none⟩) lb cb]).run Tryd.prog w = .ok (.value (.bool false)) w := fun lb cb => by
    rw [run_callFunc_extern Tryd.func65 (by kernel_rfl) (by kernel_rfl) (by kernel_rfl) (e := Extern.SlicesOverlaps.overlaps #[50, 50] #[4]) (by kernel_rfl),
      Lib.run_overlaps_apart w 50 4 58 Tryd.underlying50 3 (fun w => by kernel_rfl) ⟨vb, 0, none⟩ ⟨g, (i + 1) * 3, none⟩ 1 1 lb cb hne 58 58 3 cur.size (by simp [World.shape?, hv]) (by simp [World.shape?, hh]) (by omega) (by simp [World.frozen?, hv]) (by simp [World.frozen?, hv])]
    rfl
  have hi1 : ¬ ((i : Int) = (N : Int)) := by omega
  have hi2 : ¬ ((c : Int) < (N : Int) + 1) := by omega
  have hi3 : (i : Int) ≤ N := by omega
  have mixed : Tryd.prog.follows .mixedOrders = true := by kernel_rfl
  have hw1 : IntKind.i64.wrap ((i : Int) + 1) = (i : Int) + 1 := by rw [IntKind.wrap_i64]; omega
  have hb1 : (0 : Int) ≤ (i : Int) + 1 := by omega
  have htn : ((i : Int) + 1).toNat = i + 1 := by omega
  have hb2 : ¬ (c = i + 1) := by omega
  have hb3 : (i : Int) ≤ (N : Int) + 1 := by omega
  have hb4 : ¬ (c = i) := by omega
  have hb5 : ((i : Int) + 1) ≤ (N : Int) + 1 := by omega
  clear h3 h4 h5 h6 hcl hh ho ho' he hce hD hDl hDc hcur1 hus r1 r2 r3 hvw hgw hW2g hchg hst hcp1 hcp2 hW2 hv
  go_enter Tryd.func54, Tryd.ntmps54
  go_wp2_with (simp only [hov])
  go_region_law_o (refine step_copy_runI rfl _ _ 50 50 rfl (.slice (some ⟨g, (i + 1) * 3, none⟩) (N - i) (c - (i + 1))) (.slice (some ⟨g, i * 3, none⟩) (N + 1 - i) (c - i)) (by simp [Act.eval, Act.put]; try omega) (by simp [Act.eval, Act.put]; try omega) (HP1.out _ _ _) ?_)
  have hcp2 := HP2.out
  go_wp2_with (simp only [hcp2])
  exact bodyPost_ret (v := .slice (some ⟨g, 0, none⟩) (N + 1) c) (by simp [results]) rfl HT.out
end Go.Proofs.YthehpafkaefohaaDoor
namespace Go.Proofs.YthehpafkaefohaaDoor
open Go.RowKit
theorem ins_grow {α : Type} (R cells us : List α) (n i k G : Nat) (hc : R.take (i * k) = cells.take (i * k)) (hcl : cells.length = n * k) (hi : i ≤ n) (hu : us.length = k) (hR : R.length = G * k) (hG : n + 1 ≤ G) (R1 : List α)
    (h1 : R1 = R.take (i * k) ++ us ++ R.drop (i * k + us.length)) :
    (R1.take ((i + 1) * k) ++ cells.drop (i * k) ++ R1.drop ((i + 1) * k + (cells.drop (i * k)).length)).take ((n + 1) * k) = cells.take (i * k) ++ us ++ cells.drop (i * k) ∧ (R1.take ((i + 1) * k) ++ cells.drop (i * k) ++ R1.drop ((i + 1) * k + (cells.drop (i * k)).length)).length = G * k ∧ R1.length = G * k := by
  have e1 : i * k ≤ n * k := Nat.mul_le_mul_right _ hi
  have e2 : (n + 1) * k = n * k + k := by rw [Nat.add_mul, Nat.one_mul]
  have e3 : (i + 1) * k = i * k + k := by rw [Nat.add_mul, Nat.one_mul]
  have e4 : (n + 1) * k ≤ G * k := Nat.mul_le_mul_right _ hG
  have hd : (cells.drop (i * k)).length = n * k - i * k := by rw [List.length_drop, hcl]
  have ht : (cells.take (i * k)).length = i * k := by rw [List.length_take, hcl]; omega
  have hl1 : R1.length = G * k := by
    rw [h1, hc]
    simp only [List.length_append, List.length_drop, ht, hu, hR]
    omega
  have hT : R1.take ((i + 1) * k) = cells.take (i * k) ++ us := by
    rw [h1, hc, List.take_append_of_le_length (by rw [List.length_append, ht, hu]; omega), List.take_of_length_le (by rw [List.length_append, ht, hu]; omega)]
  refine ⟨?_, ?_, hl1⟩
  · rw [hT, List.take_append_of_le_length (by simp only [List.length_append, ht, hd, hu]; omega), List.take_of_length_le (by simp only [List.length_append, ht, hd, hu]; omega)]
  · rw [hT]
    simp only [List.length_append, List.length_drop, hl1, ht, hd, hu]
    omega
set_option maxRecDepth 20000 in
set_option maxHeartbeats 2000000 in
theorem insert_grow (g c : Nat) (fs : List DF) (nm : ByteArray) (vb i : Nat) (w : World) (h : LOwn 58 mFl 0 w (.slice (some ⟨g, 0, none⟩) fs.length c) fs) (hv : w.heap[vb]? = some (.cells #[.string nm, .slice none 0 0, .int .i64 0] 58)) (hsz : fs.length ≤ 1000000) (hi : i < fs.length) (hc : c < fs.length + 1) :
    Calls Tryd.prog 54 #[.slice (some ⟨g, 0, none⟩) fs.length c, .int .i64 i, .slice (some ⟨vb, 0, none⟩) 1 1] w (IPost (.slice (some ⟨g, 0, none⟩) fs.length c) (fs.take i ++ ⟨nm, [], 0⟩ :: fs.drop i) w) := by
  obtain ⟨N, hN⟩ : ∃ N, fs.length = N := ⟨_, rfl⟩
  obtain ⟨cells, ho, he⟩ := h
  rw [hN] at ho hsz hi hc ⊢
  have ho' := ho
  have hcl := ho.1
  rcases ho.2 with ⟨h9, _⟩ | ⟨g', cap, cur, h1, hb, hh, h3, h4, h5, h6⟩
  · cases h9
  injection h1 with h1 _ h8
  injection h1 with h1
  injection h1 with h1
  subst h1; subst h8
  have hcl : cells.length = N * 3 := hcl
  have h5 : cur.size = c * 3 := h5
  have h6 : cur.toList.take (N * 3) = cells := h6
  obtain rfl : c = N := by omega
  have hce : ∀ u ∈ cells, u.oneCell' = true := by
    intro u hu
    obtain ⟨j, hj⟩ := List.getElem?_of_mem hu
    have hjl := (List.getElem?_eq_some_iff.1 hj).1
    have hq : j / 3 < c := by omega
    obtain ⟨x, hx⟩ : ∃ x, fs[j / 3]? = some x := ⟨_, List.getElem?_eq_getElem (by omega)⟩
    refine mFl_law.cell (he _ x hx) u ?_
    refine List.mem_of_getElem? (i := j % 3) ?_
    show ((cells.drop (j / 3 * 3)).take 3)[j % 3]? = _
    rw [List.getElem?_take, if_pos (by omega), List.getElem?_drop, show j / 3 * 3 + j % 3 = j by omega]
    exact hj
  obtain ⟨D, hD⟩ : ∃ D, cells.drop (i * 3) = D := ⟨_, rfl⟩
  have hDl : D.length = (c - i) * 3 := by rw [← hD, List.length_drop, hcl]; omega
  have hDc : ∀ u ∈ D, u.oneCell' = true := fun u hu => hce u (by rw [← hD] at hu; exact List.mem_of_mem_drop hu)
  have hcat : ∀ (w' : World), w'.heap[g]? = some (.cells cur 58) → ∀ j v, D[j]? = some v → w'.cell? ((⟨g, i * 3, none⟩ : Addr).add j) = some v := fun w' hw' j v hj => by
    rw [addr_add, blk_cell hw']
    show cur[i * 3 + j]? = some v
    rw [← hD, List.getElem?_drop, ← h6, List.getElem?_take] at hj
    split at hj
    · simpa using hj
    · cases hj
  obtain ⟨us, hus⟩ : ∃ us : List Value, us = [.string nm, .slice none 0 0, .int .i64 0] := ⟨_, rfl⟩
  obtain ⟨i0, hi0, hz0, hz1, hz2⟩ := info_parts elF.info
  have hold : (Builtin.firstCells i0.size i (.slice (some ⟨g, 0, none⟩) i c)).run Tryd.prog w.drew = .ok (cells.take (i * 3)).toArray w.drew := by
    rw [hz1]
    exact run_firstCells_some w.drew 3 i ⟨g, 0, none⟩ i c (cells.take (i * 3)) (by rw [List.length_take, hcl]; omega) (fun j v hj => by
      rw [addr_add, blk_cell (w := w.drew) hh]
      show cur[0 + j]? = some v
      rw [List.getElem?_take] at hj
      split at hj
      · rw [← h6, List.getElem?_take] at hj
        split at hj
        · simpa using hj
        · cases hj
      · cases hj)
  obtain ⟨G, hG⟩ : ∃ G, grownCap w (c + 1) c 58 = G := ⟨_, rfl⟩
  have hGn : c + 1 ≤ G := by rw [← hG]; exact grownCap_ge w _ _ _
  have hGm : G ≤ maxLen := by rw [← hG]; exact grownCap_le_maxLen w (c + 1) c 58 (by unfold maxLen; omega)
  obtain ⟨R, hR⟩ : ∃ R : Array Value, (cells.take (i * 3)).toArray ++ Builtin.zeroCells (Value.agg #[.string ⟨#[]⟩, .slice none 0 0, .int .i64 0]).cells (c + 1 - i) ++ Builtin.zeroCells (Value.agg #[.string ⟨#[]⟩, .slice none 0 0, .int .i64 0]).cells (G - (c + 1)) = R := ⟨_, rfl⟩
  have hkk : (c : Int) + 1 - (i : Int) = ((c + 1 - i : Nat) : Int) := by omega
  have hik : i + (c + 1 - i) = c + 1 := by omega
  have hrz : ∀ ty, (Builtin.append_ #[50, 3] ty #[.slice (some ⟨g, 0, none⟩) i c, .int .i64 ((c + 1 - i : Nat) : Int)]).run Tryd.prog w = .ok (.slice (some ⟨w.heap.size, 0, none⟩) (c + 1) G) (w.drew.alloc (.cells R 58)) := fun ty => by
    have h := Lib.run_append_grow_zeros w 50 3 ty 58 i0 _ .i64 .i64 Tryd.underlying50 Tryd.underlying3 hi0 hz0 (some ⟨g, 0, none⟩) i c (cells.take (i * 3)) hold (c + 1 - i) (by omega) (by rw [hz1]; omega) (by omega) (by omega) (by rw [hz2]; omega) (by rw [hz2, hik]; exact growslice_fits (by omega) (by omega))
    rw [hik, hG, hR] at h
    exact h
  have hzs : (Value.agg #[.string ⟨#[]⟩, .slice none 0 0, .int .i64 0]).cells.size = 3 := by kernel_rfl
  have hRl : R.size = G * 3 := by
    rw [← hR, Array.size_append, Array.size_append, size_zeroCells, size_zeroCells, hzs, List.size_toArray, List.length_take, hcl]
    omega
  have hRt : R.toList.take (i * 3) = cells.take (i * 3) := by
    rw [← hR]
    simp only [Array.toList_append, List.append_assoc]
    rw [List.take_append_of_le_length (by rw [List.length_take, hcl]; omega), List.take_of_length_le (by rw [List.length_take]; omega)]
  obtain ⟨W1, hW1⟩ : ∃ W1, w.drew.alloc (.cells R 58) = W1 := ⟨_, rfl⟩
  rw [hW1] at hrz
  have hbw : g < w.heap.size := blk_lt hh
  have hvw : vb < w.heap.size := blk_lt hv
  have k1 : W1.heap[w.heap.size]? = some (.cells R 58) := by rw [← hW1]; exact alloc_at w.drew _
  have k2 : W1.heap[vb]? = some (.cells #[.string nm, .slice none 0 0, .int .i64 0] 58) := by rw [← hW1]; exact blk_alloc (w := w.drew) hv _
  have k3 : W1.heap[g]? = some (.cells cur 58) := by rw [← hW1]; exact blk_alloc (w := w.drew) hh _
  obtain ⟨R1, hR1⟩ : ∃ R1 : List Value, R1 = R.toList.take (i * 3) ++ us ++ R.toList.drop (i * 3 + us.length) := ⟨_, rfl⟩
  obtain ⟨r1, r2, r3⟩ := ins_grow R.toList cells us c i 3 G hRt hcl (by omega) (by rw [hus]; rfl) (by rw [Array.length_toList, hRl]) hGn R1 hR1
  rw [hD] at r1 r2
  have hcp1 : ∀ ty dc sc, (Builtin.copy_ #[50, 50] ty #[.slice (some ⟨w.heap.size, i * 3, none⟩) (c + 1 - i) dc, .slice (some ⟨vb, 0, none⟩) 1 sc]).run Tryd.prog W1 = .ok (goInt ((1 : Nat) : Int)) (W1.setRow w.heap.size R1.toArray) := fun ty dc sc => by
    have := run_copy_rowK (P := Tryd.prog) W1 50 50 ty 58 w.heap.size (i * 3) (c + 1 - i) dc ⟨vb, 0, none⟩ 1 sc 3 R 58 us Tryd.underlying50 infoF k1 (by rw [hus, show Nat.min 1 (c + 1 - i) = 1 from Nat.min_eq_left (by omega)]; rfl) (fun j v hj => by
      rw [addr_add, blk_cell k2]
      show (#[Value.string nm, .slice none 0 0, .int .i64 0] : Array Value)[0 + j]? = some v
      rw [hus] at hj
      simpa using hj) (by rw [hus]; simp only [List.length_cons, List.length_nil, hRl]; omega) (by rw [hus]; intro u hu; simp at hu; rcases hu with rfl | rfl | rfl <;> rfl)
    rw [show Nat.min 1 (c + 1 - i) = 1 from Nat.min_eq_left (by omega), ← hR1] at this
    exact this
  have k4 : (W1.setRow w.heap.size R1.toArray).heap[w.heap.size]? = some (.cells R1.toArray 58) := setRow_heap _ _ _ _ _ _ k1
  have k5 : (W1.setRow w.heap.size R1.toArray).heap[g]? = some (.cells cur 58) := (setRow_other _ _ _ _ (by omega)).trans k3
  obtain ⟨R2, hR2⟩ : ∃ R2 : List Value, R1.take ((i + 1) * 3) ++ D ++ R1.drop ((i + 1) * 3 + D.length) = R2 := ⟨_, rfl⟩
  rw [hR2] at r1 r2
  have hcp2 : ∀ ty dc sc, (Builtin.copy_ #[50, 50] ty #[.slice (some ⟨w.heap.size, (i + 1) * 3, none⟩) (c - i) dc, .slice (some ⟨g, i * 3, none⟩) (c - i) sc]).run Tryd.prog (W1.setRow w.heap.size R1.toArray).drew = .ok (goInt ((c - i : Nat) : Int)) ((W1.setRow w.heap.size R1.toArray).drew.setRow w.heap.size R2.toArray) := fun ty dc sc => by
    have := run_copy_rowK (P := Tryd.prog) (W1.setRow w.heap.size R1.toArray).drew 50 50 ty 58 w.heap.size ((i + 1) * 3) (c - i) dc ⟨g, i * 3, none⟩ (c - i) sc 3 R1.toArray 58 D Tryd.underlying50 infoF k4 (by rw [hDl, show Nat.min (c - i) (c - i) = c - i from Nat.min_self _]) (fun j v hj => hcat _ k5 j v hj) (by rw [hDl]; simp only [List.size_toArray, r3]; omega) hDc
    rw [show Nat.min (c - i) (c - i) = c - i from Nat.min_self _] at this
    simp only [hR2] at this
    exact this
  obtain ⟨W3, hW3⟩ : ∃ W3, (W1.setRow w.heap.size R1.toArray).drew.setRow w.heap.size R2.toArray = W3 := ⟨_, rfl⟩
  rw [hW3] at hcp2
  have k6 : W3.heap[w.heap.size]? = some (.cells R2.toArray 58) := by rw [← hW3]; exact setRow_heap _ _ _ _ _ _ k4
  have hchg : ChgS (Value.slice (some ⟨g, 0, none⟩) c c).ownBlock.toList w W3 := by
    rw [← hW3, ← hW1]
    exact chg_setRow ((chg_setRow (((ChgS.refl _ w).drewN 1).alloc _) (.inr (Nat.le_refl _)) _).drewN 1) (.inr (Nat.le_refl _)) _
  have hchg0 : ChgS [] w W3 := by
    rw [← hW3, ← hW1]
    exact chg_setRow ((chg_setRow (((ChgS.refl _ w).drewN 1).alloc _) (.inr (Nat.le_refl _)) _).drewN 1) (.inr (Nat.le_refl _)) _
  have hst : Stay mFl.ts w W3 := hchg0.stay (fun x hx => by cases hx)
  have HT : Hid (IPost (.slice (some ⟨g, 0, none⟩) c c) (fs.take i ++ ⟨nm, [], 0⟩ :: fs.drop i) w (.returned (.slice (some ⟨w.heap.size, 0, none⟩) (c + 1) G)) W3) := by
    refine ⟨_, rfl, ?_, hchg, fun k hk => .inr (by have hk2 : some w.heap.size = some k := hk; injection hk2 with hk2; omega)⟩
    refine LOwn.ins mFl_law (xs := fs) (cells := cells) (us := us) (x := ⟨nm, [], 0⟩) (i := i) (w := w) (v := .slice (some ⟨g, 0, none⟩) c c) (by rw [hN]; exact ho') he (by omega) (by rw [hus]; exact mFl_mk (f := ⟨nm, [], 0⟩) (Bytes.nil _ _)) hst ?_
    rw [hN]
    refine ⟨?_, .inr ⟨w.heap.size, G, _, rfl, Nat.zero_le _, k6, hGn, hGm, ?_, ?_⟩⟩
    · show (cells.take (i * 3) ++ us ++ cells.drop (i * 3)).length = (c + 1) * 3
      rw [hus]; simp only [List.length_append, List.length_take, List.length_drop, hcl, List.length_cons, List.length_nil]; omega
    · rw [List.size_toArray, r2]; rfl
    · show R2.take ((c + 1) * 3) = cells.take (i * 3) ++ us ++ cells.drop (i * 3)
      rw [hD]; exact r1
  have hrz2 := hrz
  have HP1 := Lib.hid hcp1
  have HP2 := Lib.hid hcp2
  have hi1 : ¬ ((i : Int) = (c : Int)) := by omega
  have hi2 : (c : Int) < (c : Int) + 1 := by omega
  have hi3 : (i : Int) ≤ c := by omega
  have mixed : Tryd.prog.follows .mixedOrders = true := by kernel_rfl
  have hw1 : IntKind.i64.wrap ((i : Int) + 1) = (i : Int) + 1 := by rw [IntKind.wrap_i64]; omega
  have hb1 : (0 : Int) ≤ (i : Int) + 1 := by omega
  have htn : ((i : Int) + 1).toNat = i + 1 := by omega
  have hb2 : ¬ (c = i + 1) ∨ c = i + 1 := by omega
  have hb3 : (i : Int) ≤ (c : Int) + 1 := by omega
  have hb4 : ¬ (c = i) := by omega
  have hb5 : ((i : Int) + 1) ≤ (c : Int) + 1 := by omega
  have hGi : ¬ (G = i) := by omega
  have hGi1 : ¬ (G = i + 1) := by omega
  have hsub : c + 1 - (i + 1) = c - i := by omega
  have hGl : (c : Int) + 1 ≤ G := by omega
  clear h3 h4 h5 h6 hcl hh ho ho' he hce hD hDl hDc hus r1 r2 r3 hchg hchg0 hst hcp1 hcp2 hv hrz hold hR hRl hRt hW1 hbw hvw k1 k2 k3 k4 k5 k6 hR1 hR2 hW3 hcat hG hi0 hz0 hz1 hz2 hik
  go_enter Tryd.func54, Tryd.ntmps54
  have hcp1 := HP1.out
  go_wp2_with (first | (refine Lib.wpList_append_run w rfl (.tmp 34) (.tmp 39) 50 3 rfl (.slice (some ⟨g, 0, none⟩) i c) (.int .i64 ((c + 1 - i : Nat) : Int)) rfl rfl _ _ (hrz2 _) ?_) | (simp only [hcp1]))
  go_region_law_o (refine step_copy_runI rfl _ _ 50 50 rfl (.slice (some ⟨w.heap.size, (i + 1) * 3, none⟩) (c - i) (G - (i + 1))) (.slice (some ⟨g, i * 3, none⟩) (c - i) (c - i)) (by simp [Act.eval, Act.put]; try omega) (by simp [Act.eval, Act.put]; try omega) (HP2.out _ _ _) ?_)
  go_wp2
  exact bodyPost_ret (v := .slice (some ⟨w.heap.size, 0, none⟩) (c + 1) G) (by simp [results]) rfl HT.out
end Go.Proofs.YthehpafkaefohaaDoor
namespace Go.Proofs.YthehpafkaefohaaDoor
open Go.RowKit
theorem insert_any (v : Value) (fs : List DF) (nm : ByteArray) (vb i : Nat) (w : World) (h : LOwn 58 mFl 0 w v fs) (hv : w.heap[vb]? = some (.cells #[.string nm, .slice none 0 0, .int .i64 0] 58)) (hne : ∀ g, v.ownBlock = some g → vb ≠ g) (hsz : fs.length ≤ 1000000) (hi : i ≤ fs.length) :
    Calls Tryd.prog 54 #[v, .int .i64 i, .slice (some ⟨vb, 0, none⟩) 1 1] w (IPost v (fs.take i ++ ⟨nm, [], 0⟩ :: fs.drop i) w) := by
  rcases Nat.lt_or_eq_of_le hi with h1 | rfl
  · obtain ⟨x, hx⟩ : ∃ x, fs[i]? = some x := ⟨_, List.getElem?_eq_getElem h1⟩
    obtain ⟨g, c, cur, us, rfl, _, h4, _⟩ := h.elem hx
    by_cases hc : fs.length + 1 ≤ c
    · exact insert_room g c fs nm vb i w h hv (hne g rfl) hsz h1 hc
    · exact insert_grow g c fs nm vb i w h hv hsz h1 (by omega)
  · rw [List.take_length, List.drop_length]
    exact insert_end v fs nm vb w h hv hsz
theorem DkAt.box {w : World} {d : Nat} {st : DkSt} {v : Value} (h : DkAt w d st v) {b : Nat} {cs : Array Value} {T : TypeId} (hb : w.heap[b]? = some (.cells cs T)) (hT : T ≠ 52 ∧ T ≠ 58) : b ∉ dkS d v := fun hx => by
  obtain ⟨cs2, T2, h3, h4⟩ := h.types b hx
  rw [hb] at h3
  injection h3 with h3
  injection h3 with _ h3
  subst h3
  rcases h4 with h4 | h4
  · exact hT.1 h4
  · exact hT.2 h4
theorem atF_set {fs : List DF} {i : Nat} {f : DF} (g : DF → DF) (h : fs[i]? = some f) : atF fs i g = fs.set i (g f) := by
  apply List.ext_getElem?
  intro j
  rw [atF_get, List.getElem?_set]
  have hlt := (List.getElem?_eq_some_iff.1 h).1
  by_cases e : i = j
  · subst e
    rw [if_pos rfl, if_pos rfl, if_pos hlt, h]
    rfl
  · rw [if_neg e, if_neg e]
def DOut (d : Nat) (v : Value) (st' : DkSt) (w w' : World) : Prop := ∃ v', DkAt w' d st' v' ∧ ChgS (dkS d v) w w' ∧ NR v v' w
/-- the bytes of a file are set -/
theorem DkAt.set_bytes {w w5 : World} {d : Nat} {st : DkSt} {g c p N : Nat} {f : DF} {z : Value} {xs : List UInt8} (h : DkAt w d st (.slice (some ⟨g, 0, none⟩) N c)) (_hN : st.fs.length = N) (hf : st.fs[p]? = some f) (hb : Below w.heap.size w w5) (hz : Bytes 0 w5 z xs) :
    DkAt (w5.setCell ⟨g, p * 3 + 1, none⟩ z) d { st with fs := atF st.fs p fun f => { f with bs := xs } } (.slice (some ⟨g, 0, none⟩) N c) ∧ ChgS (dkS d (.slice (some ⟨g, 0, none⟩) N c)) w (w5.setCell ⟨g, p * 3 + 1, none⟩ z) := by
  have h5 := h.below hb
  have hgd : g ≠ d := h.d_ne g rfl
  refine ⟨⟨?_, ?_⟩, ?_⟩
  · exact (Below.heap_setCell _ _ _ _ (Ne.symm hgd)).trans h5.blk
  · show LOwn _ _ _ _ _ (atF st.fs p fun f => { f with bs := xs })
    rw [atF_set _ hf]
    refine LOwn.turn mFl_law (by decide) (n := N) h5.own (i := p) (j := 1) hf (by decide) fun us hus => ?_
    obtain ⟨q, rfl, _⟩ := mFl_form hus
    exact mFl_mk (f := { f with bs := xs }) hz
  · exact ((ChgS.refl _ w).then hb).set (.inl (by simp [dkS, Value.ownBlock])) _ _
end Go.Proofs.YthehpafkaefohaaDoor
namespace Go.Proofs.YthehpafkaefohaaDoor
open Go
/-- f at each operation, by its number -/
def Steps (f : Nat → Oper → Prop) : Nat → List Oper → Prop
  | _, [] => True
  | i, o :: r => f i o ∧ Steps f (i + 1) r
theorem Steps.at {f : Nat → Oper → Prop} : ∀ (l : List Oper) (i j : Nat) (o : Oper), Steps f i l → l[j]? = some o → f (i + j) o
  | [], _, _, _, _, h => by simp at h
  | o' :: r, i, 0, o, hs, h => by simp at h; subst h; exact hs.1
  | o' :: r, i, j + 1, o, hs, h => by
    have := Steps.at r (i + 1) j o hs.2 (by simpa using h)
    rwa [show i + 1 + j = i + (j + 1) by omega] at this
/-- what has been carried out is closed under 'comes after' -/
def Closed (ops : Array Oper) (L : Nat → Bool) : Prop :=
  ∀ (i : Nat) (o : Oper) (e : Edge), ops[i]? = some o → L i = true → e ∈ o.after.toList → Region.binds .any e = true → L e.on = true
/-- one operation keeps the condition -/
def StepOk (P : Program) (ops : Array Oper) (Q : Exit → Act → World → Prop) (I : (Nat → Bool) → Act → World → Prop) (i : Nat) (o : Oper) : Prop :=
  ∀ (L : Nat → Bool) (a : Act) (w : World), I L a w → Closed ops L → (∀ e ∈ o.after.toList, Region.binds .any e = true → L e.on = true) → L i = false →
    ∀ K' : Act → World → Prop, (∀ a w, I (fun j => j == i || L j) a w → K' a w) → if Region.wanted o (yielded ops a.tmps) = true then Oper.wp P o a w K' Q else K' (a.put o.dst undef) w
/-- the operations stand in an order that fits -/
def sorted (ops : Array Oper) : Bool := (List.range ops.size).all fun i => ((ops[i]?).map (·.after.all fun e => !Region.binds .any e || decide (e.on < i))).getD true
def listOf (L : Array Bool) (i : Nat) : Bool := L.getD i false
theorem wpAny_inv {P : Program} {ops : Array Oper} {Q : Exit → Act → World → Prop} {I : (Nat → Bool) → Act → World → Prop} (hsort : sorted ops = true)
    (hI : ∀ (L L' : Nat → Bool) a w, (∀ i, i < ops.size → L i = L' i) → I L a w → I L' a w)
    (hstep : Steps (StepOk P ops Q I) 0 ops.toList)
    (hdone : ∀ L a w, I L a w → (∀ i, i < ops.size → L i = true) → Q .normal a w) :
    ∀ (n : Nat) (L : Array Bool) (a : Act) (w : World), L.size = ops.size → (L.toList.count false ≤ n) → Closed ops (listOf L) → I (listOf L) a w → wpAny P .any ops Q n L a w := by
  have hrdy : ∀ (L : Array Bool), L.size = ops.size → Region.ready .any ops L = [] → ∀ i, i < ops.size → listOf L i = true := by
    intro L hL hr i
    induction i using Nat.strongRecOn with
    | _ i ih =>
      intro hi
      by_cases hl : listOf L i = true
      · exact hl
      · exfalso
        have hmem : i ∈ Region.ready .any ops L := by
          unfold Region.ready
          rw [List.mem_filter]
          refine ⟨List.mem_range.2 hi, ?_⟩
          have h1 : L.getD i true = false := by
            have : i < L.size := by omega
            simp only [listOf, Array.getD, this, dif_pos] at hl ⊢
            simpa using hl
          have ho : ops[i]? = some ops[i] := Array.getElem?_eq_getElem hi
          rw [h1, ho]
          simp only [Bool.not_false, Bool.true_and, Option.map_some, Option.getD_some]
          rw [Array.all_eq_true]
          intro j hj
          have hs := hsort
          unfold sorted at hs
          rw [List.all_eq_true] at hs
          have := hs i (List.mem_range.2 hi)
          rw [ho] at this
          simp only [Option.map_some, Option.getD_some, Array.all_eq_true] at this
          have hlt := this j hj
          simp only [Bool.or_eq_true, Bool.not_eq_true', decide_eq_true_eq] at hlt
          rcases hlt with hlt | hlt
          · simp [hlt]
          · have := ih _ hlt (by omega)
            simp only [listOf] at this
            simp [this]
        rw [hr] at hmem
        cases hmem
  intro n
  induction n with
  | zero =>
    intro L a w hL hc hcl hi
    have hall : ∀ i, i < ops.size → listOf L i = true := by
      intro i hi'
      have hlt : i < L.size := by omega
      have hz : L.toList.count false = 0 := by omega
      rw [List.count_eq_zero] at hz
      cases hb : L[i] with
      | true => simp [listOf, Array.getD, hlt, hb]
      | false => exact (hz (by rw [← hb]; exact Array.mem_toList_iff.2 (Array.getElem_mem hlt))).elim
    refine ⟨?_, hdone _ a w hi hall⟩
    unfold Region.ready
    rw [List.filter_eq_nil_iff]
    intro i hi'
    have hlt : i < L.size := by rw [hL]; exact List.mem_range.1 hi'
    have := hall i (List.mem_range.1 hi')
    simp only [listOf, Array.getD, hlt, dif_pos] at this
    have h9 : L[i] = true := this
    simp [Array.getD, hlt, h9]
  | succ n ih =>
    intro L a w hL hc hcl hi
    refine ⟨fun hr => hdone _ a w hi (hrdy L hL hr), ?_⟩
    intro i hi'
    unfold Region.ready at hi'
    rw [List.mem_filter] at hi'
    obtain ⟨hr, hp⟩ := hi'
    have hlt := List.mem_range.1 hr
    have hltL : i < L.size := by omega
    have ho : ops[i]? = some ops[i] := Array.getElem?_eq_getElem hlt
    rw [ho] at hp
    simp only [Option.map_some, Option.getD_some, Bool.and_eq_true, Bool.not_eq_true', Array.all_eq_true] at hp
    obtain ⟨hp1, hp2⟩ := hp
    have hLi : L[i] = false := by simpa [Array.getD, hltL] using hp1
    have hpre : ∀ e ∈ (ops[i]).after.toList, Region.binds .any e = true → listOf L e.on = true := by
      intro e he hb
      obtain ⟨j, hj, rfl⟩ := Array.mem_iff_getElem.1 (Array.mem_toList_iff.1 he)
      have := hp2 j hj
      rw [hb] at this
      simpa [listOf] using this
    have hset : ∀ j, j < ops.size → (fun j => j == i || listOf L j) j = listOf (L.setIfInBounds i true) j := by
      intro j hj
      by_cases hji : j = i
      · subst hji; simp [listOf, Array.getD, hltL]
      · have : j < L.size := by omega
        simp [listOf, Array.getD, this, hji, Ne.symm hji]
    have hst := Steps.at ops.toList 0 i ops[i] hstep (by simp)
    rw [Nat.zero_add] at hst
    refine wpOp_step ho fun K' hK' => hst (listOf L) a w hi hcl hpre (by simp [listOf, Array.getD, hltL, hLi]) K' fun a' w' h' => hK' a' w' ?_
    refine ih _ a' w' (by simp [hL]) ?_ ?_ (hI _ _ a' w' hset h')
    · have e1 : L.toList = L.toList.take i ++ L[i] :: L.toList.drop (i + 1) := by
        have h8 : i < L.toList.length := by simpa using hltL
        have := List.drop_eq_getElem_cons h8
        rw [Array.getElem_toList] at this
        rw [← this, List.take_append_drop]
      have e2 : (L.setIfInBounds i true).toList = L.toList.take i ++ true :: L.toList.drop (i + 1) := by
        rw [Array.toList_setIfInBounds, List.set_eq_take_append_cons_drop]; simp [hltL]
      rw [e2]
      rw [e1, hLi] at hc
      simp only [List.count_append, List.count_cons] at hc ⊢
      simp at hc ⊢
      omega
    · intro j o e hjo hj he hb
      have hjl : j < ops.size := (Array.getElem?_eq_some_iff.1 hjo).1
      rw [← hset j hjl] at hj
      have hsort' := hsort
      unfold sorted at hsort'
      rw [List.all_eq_true] at hsort'
      have hon := hsort' j (List.mem_range.2 hjl)
      rw [hjo] at hon
      simp only [Option.map_some, Option.getD_some, Array.all_eq_true] at hon
      obtain ⟨q, hq, rfl⟩ := Array.mem_iff_getElem.1 (Array.mem_toList_iff.1 he)
      have hlt2 := hon q hq
      rw [hb] at hlt2
      simp only [Bool.not_true, Bool.false_or, decide_eq_true_eq] at hlt2
      rw [← hset _ (by omega)]
      simp only [Bool.or_eq_true, beq_iff_eq] at hj ⊢
      rcases hj with rfl | hj
      · right
        rw [ho] at hjo
        cases hjo
        exact hpre _ he hb
      · right
        exact hcl j o _ hjo hj he hb
theorem wp_region_inv {P : Program} {id : Nat} {ops : Array Oper} {Q : Exit → Act → World → Prop} {a : Act} {w : World} (I : (Nat → Bool) → Act → World → Prop) (hm : P.follows .mixedOrders = true) (hsort : sorted ops = true)
    (hI : ∀ (L L' : Nat → Bool) a w, (∀ i, i < ops.size → L i = L' i) → I L a w → I L' a w)
    (h0 : I (fun _ => false) a w.drew)
    (hstep : Steps (StepOk P ops Q I) 0 ops.toList)
    (hdone : ∀ L a w, I L a w → (∀ i, i < ops.size → L i = true) → Q .normal a w) : (Code.region id ops true).wp P Q a w := by
  refine wp_region_any hm ?_
  have hf : ∀ i, listOf (Array.replicate ops.size false) i = false := by
    intro i
    simp only [listOf, Array.getD]
    split
    · simp
    · rfl
  refine wpAny_inv hsort hI hstep hdone ops.size _ a _ (by simp) ?_ ?_ ?_
  · refine Nat.le_trans List.count_le_length (by simp)
  · intro i o e _ h
    rw [hf] at h; cases h
  · exact hI _ _ _ _ (fun i _ => (hf i).symm) h0
def At (a : Act) (d : Nat) (v : Value) : Prop := a.tmps[d]? = some v
theorem At.eval {a : Act} {d : Nat} {v : Value} (h : At a d v) : a.eval (.tmp d) = v := by
  unfold At at h
  simp [Act.eval, h]
theorem At.put {a : Act} {d d' : Nat} {v v' : Value} (h : At a d v) (hne : d ≠ d') : At (a.put (some d') v') d v := by
  unfold At at *
  simp [Act.put, Array.getElem?_setIfInBounds_ne (Ne.symm hne), h]
theorem At.mk {a : Act} {d : Nat} (v : Value) (h : d < a.tmps.size) : At (a.put (some d) v) d v := by
  simp [At, Act.put, h]
/-- a frame with the slots ds out of another -/
def setAll (t : Array Value) : List Nat → Array Value → Array Value
  | [], b => b
  | d :: ds, b => setAll t ds (b.setIfInBounds d (t.getD d undef))
theorem setAll_size (t : Array Value) : ∀ (ds : List Nat) (b : Array Value), (setAll t ds b).size = b.size
  | [], _ => rfl
  | d :: ds, b => by rw [setAll, setAll_size t ds]; simp
theorem setAll_at (t : Array Value) : ∀ (ds : List Nat) (b : Array Value), t.size = b.size → (∀ i, i ∉ ds → t[i]? = b[i]?) → setAll t ds b = t
  | [], b, hs, h => by
    apply Array.ext_getElem?
    intro i
    exact (h i (by simp)).symm
  | d :: ds, b, hs, h => by
    refine setAll_at t ds _ (by simpa using hs) fun i hi => ?_
    by_cases hd : d = i
    · subst hd
      rw [Array.getElem?_setIfInBounds]
      simp only [if_true]
      split
      · rename_i hlt
        have : d < t.size := by omega
        simp [Array.getD, this]
      · rename_i hlt
        rw [Array.getElem?_eq_none (by omega)]
    · rw [Array.getElem?_setIfInBounds_ne hd]
      exact h i (by simp [Ne.symm hd, hi])
end Go.Proofs.YthehpafkaefohaaDoor
namespace Go.Proofs.YthehpafkaefohaaDoor
open Go
/-- number n is the last one, and waits for all the others: for each there is one that waits for it -/
def lastB (ops : Array Oper) (n : Nat) : Bool :=
  sorted ops && decide (n + 1 = ops.size) && (List.range n).all fun i => (List.range ops.size).any fun k => ((ops[k]?).map (·.after.any fun e => Region.binds .any e && e.on == i)).getD false
/-- who has come up has waited for those ahead -/
def Clo (ops : Array Oper) (L : Array Bool) : Prop :=
  ∀ (k : Nat) (o : Oper) (e : Edge), ops[k]? = some o → L.getD k false = true → e ∈ o.after → Region.binds .any e = true → L.getD e.on false = true
/-- behind the others the last one is carried out -/
def lastQ (P : Program) (ops : Array Oper) (Q : Exit → Act → World → Prop) (n : Nat) : Exit → Act → World → Prop
  | .normal, a, w => wpOp P ops Q n (Q .normal) a w
  | e, a, w => Q e a w
theorem wpOp_ofLast {P : Program} {ops : Array Oper} {Q : Exit → Act → World → Prop} {n i : Nat} {K : Act → World → Prop} {a : Act} {w : World} (h : wpOp P ops (lastQ P ops Q n) i K a w) : wpOp P ops Q i K a w := by
  unfold wpOp at *
  split
  · simpa [*] using h
  · rename_i o ho
    simp only [ho] at h
    split
    · rename_i hw
      simp only [hw, if_true] at h
      rcases h with h | ⟨h1, h2⟩
      · refine .inl ?_
        unfold Oper.wp at *
        generalize (execOp a.eval o).run P w = r at *
        cases r with
        | ok m w' =>
          cases m <;> simp only [Oper.upon] at h ⊢ <;>
            first
              | exact h
              | exact Calls.mono h (fun e w'' he => by cases e <;> exact he)
        | halt x w' => cases x <;> simp only [Oper.upon] at h ⊢ <;> exact h
      · exact .inr ⟨h1, h2⟩
    · rename_i hw; simp only [hw] at h; exact h
theorem listed_all {ops : Array Oper} {n : Nat} (hs : sorted ops = true) (hn : n + 1 = ops.size) {L : Array Bool} (hL : L.size = ops.size) (hr : Region.ready .any ops (L.setIfInBounds n true) = []) : ∀ i, i < n → L.getD i false = true := by
  intro i
  induction i using Nat.strongRecOn with
  | _ i ih =>
    intro hi
    by_cases hl : L.getD i false = true
    · exact hl
    · exfalso
      have hmem : i ∈ Region.ready .any ops (L.setIfInBounds n true) := by
        unfold Region.ready
        rw [List.mem_filter]
        refine ⟨List.mem_range.2 (by omega), ?_⟩
        have h1 : (L.setIfInBounds n true).getD i true = false := by
          rw [getD_set_ne true (by omega)]
          have : i < L.size := by omega
          simp only [Array.getD, this, dif_pos] at hl ⊢
          simpa using hl
        have ho : ops[i]? = some ops[i] := Array.getElem?_eq_getElem (by omega)
        rw [h1, ho]
        simp only [Bool.not_false, Bool.true_and, Option.map_some, Option.getD_some]
        rw [Array.all_eq_true]
        intro j hj
        have hs' := hs
        unfold sorted at hs'
        rw [List.all_eq_true] at hs'
        have := hs' i (List.mem_range.2 (by omega))
        rw [ho] at this
        simp only [Option.map_some, Option.getD_some, Array.all_eq_true] at this
        have hlt := this j hj
        simp only [Bool.or_eq_true, Bool.not_eq_true', decide_eq_true_eq] at hlt
        rcases hlt with hlt | hlt
        · simp [hlt]
        · have := ih _ hlt (by omega)
          rw [getD_set_ne false (by omega)]
          simp [this]
      rw [hr] at hmem
      cases hmem
theorem wpAny_last {P : Program} {ops : Array Oper} {Q : Exit → Act → World → Prop} {S : World → Prop} {n : Nat} (hB : lastB ops n = true) :
    ∀ (fuel : Nat) (L : Array Bool) (a : Act) (w : World), L.size = ops.size → L.getD n true = false → Clo ops L →
      wpAnyH P .any ops (lastQ P ops Q n) S fuel (L.setIfInBounds n true) a w → wpAny P .any ops Q (fuel + 1) L a w := by
  unfold lastB at hB
  simp only [Bool.and_eq_true, decide_eq_true_eq] at hB
  obtain ⟨⟨hs, hn⟩, hw⟩ := hB
  have hno : ops[n]? = some ops[n] := Array.getElem?_eq_getElem (by omega)
  -- number n comes up just when all the others have
  have hlast : ∀ (L : Array Bool), Clo ops L → n ∈ Region.ready .any ops L → ∀ m i, n - i ≤ m → i < n → L.getD i false = true := by
    intro L hcl hm m
    obtain ⟨_, o, ho, hall⟩ := mem_ready.1 hm
    induction m with
    | zero => intro i h1 h2; omega
    | succ m ih =>
      intro i hm hi
      rw [List.all_eq_true] at hw
      have := hw i (List.mem_range.2 hi)
      rw [List.any_eq_true] at this
      obtain ⟨k, hk, hk2⟩ := this
      have hks := List.mem_range.1 hk
      have hok : ops[k]? = some ops[k] := Array.getElem?_eq_getElem hks
      rw [hok] at hk2
      simp only [Option.map_some, Option.getD_some, Array.any_eq_true, Bool.and_eq_true, beq_iff_eq] at hk2
      obtain ⟨j, hj, hb, he⟩ := hk2
      have hs' := hs
      unfold sorted at hs'
      rw [List.all_eq_true] at hs'
      have h8 := hs' k (List.mem_range.2 hks)
      rw [hok] at h8
      simp only [Option.map_some, Option.getD_some, Array.all_eq_true] at h8
      have hlt := h8 j hj
      rw [hb] at hlt
      simp only [Bool.not_true, Bool.false_or, decide_eq_true_eq] at hlt
      by_cases e : k = n
      · subst e
        rw [hok] at ho
        cases ho
        have := hall _ (Array.getElem_mem hj) hb
        rwa [he] at this
      · have h7 := ih k (by omega) (by omega)
        have := hcl k _ _ hok h7 (Array.getElem_mem hj) hb
        rwa [he] at this
  -- the end: all but n have come up
  have hend : ∀ (L : Array Bool) (a : Act) (w : World) (fuel : Nat), L.size = ops.size → L.getD n true = false → Region.ready .any ops (L.setIfInBounds n true) = [] → lastQ P ops Q n .normal a w → wpAny P .any ops Q (fuel + 1) L a w := by
    intro L a w fuel hL hLn hr hq
    have hall := listed_all hs hn hL hr
    have hmem : n ∈ Region.ready .any ops L := by
      unfold Region.ready
      rw [List.mem_filter]
      refine ⟨List.mem_range.2 (by omega), ?_⟩
      rw [hLn, hno]
      simp only [Bool.not_false, Bool.true_and, Option.map_some, Option.getD_some]
      rw [Array.all_eq_true]
      intro j hj
      have hs' := hs
      unfold sorted at hs'
      rw [List.all_eq_true] at hs'
      have := hs' n (List.mem_range.2 (by omega))
      rw [hno] at this
      simp only [Option.map_some, Option.getD_some, Array.all_eq_true] at this
      have hlt := this j hj
      simp only [Bool.or_eq_true, Bool.not_eq_true', decide_eq_true_eq] at hlt
      rcases hlt with hlt | hlt
      · simp [hlt]
      · simp [hall _ hlt]
    refine ⟨fun h0 => (by rw [h0] at hmem; cases hmem), fun i hi => ?_⟩
    have hin : i = n := by
      by_cases e : i = n
      · exact e
      · exfalso
        have h1 := (mem_ready.1 hi).1
        have hlt : i < ops.size := by
          unfold Region.ready at hi
          exact List.mem_range.1 (List.mem_filter.1 hi).1
        have h2 := hall i (by omega)
        have : i < L.size := by omega
        simp only [Array.getD, this, dif_pos] at h1 h2
        have h1' : L[i] = false := h1
        have h2' : L[i] = true := h2
        rw [h1'] at h2'; cases h2'
    subst hin
    have hq' : wpOp P ops Q i (Q .normal) a w := hq
    exact wpOp_mono (fun a' w' h' => wpAny_done hr h' fuel) hq'
  intro fuel
  induction fuel with
  | zero =>
    intro L a w hL hLn _ h
    exact hend L a w 0 hL hLn h.1 h.2
  | succ fuel ih =>
    intro L a w hL hLn hcl h
    by_cases hr : Region.ready .any ops (L.setIfInBounds n true) = []
    · exact hend L a w (fuel + 1) hL hLn hr (h.1 hr)
    · have hne : ∀ i ∈ Region.ready .any ops L, i ≠ n := by
        intro i hi e
        subst e
        have hall := fun j hj => hlast L hcl hi i j (by omega) hj
        apply hr
        unfold Region.ready
        rw [List.filter_eq_nil_iff]
        intro j hj
        have hjs := List.mem_range.1 hj
        by_cases e : j = i
        · subst e
          simp [Array.getD, hL, hjs]
        · rw [getD_set_ne true (Ne.symm e)]
          have := hall j (by omega)
          have hjl : j < L.size := by omega
          simp only [Array.getD, hjl, dif_pos] at this ⊢
          have h9 : L[j] = true := this
          simp [h9]
      refine ⟨fun h0 => ?_, fun i hi => ?_⟩
      · exfalso
        obtain ⟨j, hj⟩ := List.exists_mem_of_ne_nil _ hr
        have hj1 := mem_ready.1 hj
        have hjs : j < ops.size := by
          unfold Region.ready at hj
          exact List.mem_range.1 (List.mem_filter.1 hj).1
        have hjn : j ≠ n := by
          intro e
          subst e
          have := hj1.1
          simp [Array.getD, hL, hjs] at this
        have : j ∈ Region.ready .any ops L := by
          rw [mem_ready]
          refine ⟨?_, ?_⟩
          · have := hj1.1
            rwa [getD_set_ne true (Ne.symm hjn)] at this
          · obtain ⟨o, ho, hall⟩ := hj1.2
            refine ⟨o, ho, fun e he hb => ?_⟩
            have h9 := hall e he hb
            have hs' := hs
            unfold sorted at hs'
            rw [List.all_eq_true] at hs'
            have h8 := hs' j (List.mem_range.2 hjs)
            rw [ho] at h8
            simp only [Option.map_some, Option.getD_some, Array.all_eq_true] at h8
            obtain ⟨q, hq, rfl⟩ := Array.mem_iff_getElem.1 he
            have hlt := h8 q hq
            rw [hb] at hlt
            simp only [Bool.not_true, Bool.false_or, decide_eq_true_eq] at hlt
            rwa [getD_set_ne false (by omega)] at h9
        rw [h0] at this
        cases this
      · have hin := hne i hi
        refine wpOp_mono (fun a' w' h' => ?_) (wpOp_ofLast (h.2 i (ready_mono hi hin)))
        refine ih (L.setIfInBounds i true) a' w' (by simp [hL]) (by rw [getD_set_ne true hin]; exact hLn) ?_ ?_
        · intro k o e ho hk he hb
          by_cases hki : k = i
          · subst hki
            obtain ⟨_, o', ho', hall⟩ := mem_ready.1 hi
            rw [ho'] at ho
            cases ho
            exact getD_set_true (hall e he hb)
          · rw [getD_set_ne false (Ne.symm hki)] at hk
            exact getD_set_true (hcl k o e ho hk he hb)
        rw [Array.setIfInBounds_comm _ _ hin]
        exact h'.2
/-- THE LAW: the others, in whatever order, under the condition S; then the last one -/
theorem wp_region_last {P : Program} {id : Nat} {l : List Oper} {Q : Exit → Act → World → Prop} {a : Act} {w : World} (S : World → Prop) (n : Nat) (hm : P.follows .mixedOrders = true) (hB : lastB l.toArray n = true) (hS : S w.drew)
    (h : S w.drew → wpAnyH P .any l.toArray (lastQ P l.toArray Q n) S n ((Array.replicate l.toArray.size false).setIfInBounds n true) a w.drew) : (Code.region id l.toArray true).wp P Q a w := by
  have hn : n < l.toArray.size := by
    unfold lastB at hB
    simp only [Bool.and_eq_true, decide_eq_true_eq] at hB
    omega
  have hn1 : n + 1 = l.toArray.size := by
    unfold lastB at hB
    simp only [Bool.and_eq_true, decide_eq_true_eq] at hB
    omega
  refine wp_region_any hm ?_
  have := wpAny_last hB n (Array.replicate l.toArray.size false) a _ (by simp) (by simp only [Array.getD]; split <;> simp_all) (by intro k o e _ hk; simp [Array.getD] at hk) (h hS)
  rw [hn1] at this
  exact this
/-- a region that draws its order, all its operations under S; n: how many they are -/
theorem wp_region_all {P : Program} {id : Nat} {l : List Oper} {Q : Exit → Act → World → Prop} {a : Act} {w : World} (S : World → Prop) (n : Nat) (hm : P.follows .mixedOrders = true) (hn : l.length = n) (hS : S w.drew)
    (h : S w.drew → wpAnyH P .any l.toArray Q S n (Array.replicate n false) a w.drew) : (Code.region id l.toArray true).wp P Q a w :=
  wp_region_held_drew hm hS (fun hs => by
    have e : l.toArray.size = n := by simpa using hn
    rw [e]
    exact h hs)
/-- take number i first -/
theorem takeL {P : Program} {md : Region.Mode} {l : List Oper} {Q : Exit → Act → World → Prop} {S : World → Prop} {i : Nat} {oi : Oper} {v : Value} {fuel : Nat} {listed : Array Bool} {a : Act} {w : World} (hi : l[i]? = some oi)
    (hs : Region.noSelect l.toArray = true) (hf : Region.free md l.toArray listed i = true) (hr : (Region.ready md l.toArray listed).contains i = true)
    (hQ : ∀ c a w, Q (.panic c) (a.put oi.dst v) w → Q (.panic c) a w) (hy : YieldsIf P l.toArray S oi v a) (hS : S w)
    (h : wpAnyH P md l.toArray Q S fuel (listed.setIfInBounds i true) (a.put oi.dst v) w) : wpAnyH P md l.toArray Q S (fuel + 1) listed a w :=
  wpAnyH_take (by simpa using hi) hs hf hr hQ hy hS h
/-- number i is the only one that may come up: it is carried out -/
theorem stepL {P : Program} {md : Region.Mode} {l : List Oper} {Q : Exit → Act → World → Prop} {S : World → Prop} {i : Nat} {o : Oper} {fuel : Nat} {listed : Array Bool} {a : Act} {w : World} (ho : l[i]? = some o)
    (hr : Region.ready md l.toArray listed = [i])
    (h : ∀ K' : Act → World → Prop, Shut (∀ a w, S w → (S w → wpAnyH P md l.toArray Q S fuel (listed.setIfInBounds i true) a w) → K' a w) → if Region.wanted o (yielded l.toArray a.tmps) = true then Oper.wp P o a w K' Q else K' (a.put o.dst undef) w) : wpAnyH P md l.toArray Q S (fuel + 1) listed a w :=
  wpAnyH_ready hr (by simp) (AllReadyH.cons (by simpa using ho) h AllReadyH.nil)
/-- several may come up -/
theorem readyL {P : Program} {md : Region.Mode} {l : List Oper} {Q : Exit → Act → World → Prop} {S : World → Prop} {rs : List Nat} {fuel : Nat} {listed : Array Bool} {a : Act} {w : World} (hr : Region.ready md l.toArray listed = rs) (hne : rs ≠ [])
    (h : AllReadyH P md l.toArray Q S fuel listed a w rs) : wpAnyH P md l.toArray Q S (fuel + 1) listed a w := wpAnyH_ready hr hne h
theorem consL {P : Program} {md : Region.Mode} {l : List Oper} {Q : Exit → Act → World → Prop} {S : World → Prop} {fuel : Nat} {listed : Array Bool} {a : Act} {w : World} {i : Nat} {o : Oper} {rs : List Nat} (ho : l[i]? = some o)
    (h : ∀ K' : Act → World → Prop, Shut (∀ a w, S w → (S w → wpAnyH P md l.toArray Q S fuel (listed.setIfInBounds i true) a w) → K' a w) → if Region.wanted o (yielded l.toArray a.tmps) = true then Oper.wp P o a w K' Q else K' (a.put o.dst undef) w)
    (hs : AllReadyH P md l.toArray Q S fuel listed a w rs) : AllReadyH P md l.toArray Q S fuel listed a w (i :: rs) := AllReadyH.cons (by simpa using ho) h hs
/-- the last one -/
theorem doneL {P : Program} {l : List Oper} {Q : Exit → Act → World → Prop} {n : Nat} {o : Oper} {a : Act} {w : World} (ho : l[n]? = some o)
    (h : ∀ K' : Act → World → Prop, Shut (∀ a w, Q .normal a w → K' a w) → if Region.wanted o (yielded l.toArray a.tmps) = true then Oper.wp P o a w K' Q else K' (a.put o.dst undef) w) : lastQ P l.toArray Q n .normal a w :=
  show wpOp P l.toArray Q n (Q .normal) a w from wpOp_step (by simpa using ho) (fun K' hK => h K' hK)
end Go.Proofs.YthehpafkaefohaaDoor
namespace Go.Proofs.YthehpafkaefohaaDoor
open Go.RowKit
theorem blk_ne {w : World} {b b' : Nat} {cs cs' : Array Value} {T T' : TypeId} (h : w.heap[b]? = some (.cells cs T)) (h' : w.heap[b']? = some (.cells cs' T')) (hT : T ≠ T') : b ≠ b' := fun e => by
  subst e
  rw [h] at h'
  injection h' with h'
  injection h' with _ h'
  exact hT h'
theorem ChgS.cell {S : List Nat} {w w' : World} {b : Nat} {v : Value} (h : ChgS S w w') (hc : w.cell? ⟨b, 0, none⟩ = some v) (hb : b ∉ S) : w'.cell? ⟨b, 0, none⟩ = some v :=
  (World.cell?_of_block (w := w) (a := ⟨b, 0, none⟩) (h.block b (block_lt_of_cell hc) hb)).trans hc
theorem cell_past {w : World} {b g o : Nat} {z v : Value} (h : w.cell? ⟨b, 0, none⟩ = some v) (hne : b ≠ g) : (w.setCell ⟨g, o, none⟩ z).cell? ⟨b, 0, none⟩ = some v :=
  (World.cell?_of_block (w := w) (a := ⟨b, 0, none⟩) (Below.heap_setCell _ _ _ _ hne)).trans h
set_option maxRecDepth 20000 in
set_option maxHeartbeats 2000000 in
theorem append1_has {w : World} {d : Nat} {st : DkSt} {v : Value} (h : DkAt w d st v) (_hsz : st.fs.length ≤ 1000000) (hu : usedF st.fs ≤ 1000000000) (bo bd bi bn bb : Nat) (n : ByteArray) (u : Value) (bs : List UInt8)
    (ho : w.cell? ⟨bo, 0, none⟩ = some (.bool true)) (hd : w.cell? ⟨bd, 0, none⟩ = some (.pointer (some ⟨d, 0, none⟩))) (hi : w.cell? ⟨bi, 0, none⟩ = some (.int .i64 (plc st.fs n))) (_hn : w.cell? ⟨bn, 0, none⟩ = some (.string n)) (hb : w.cell? ⟨bb, 0, none⟩ = some (u))
    (xd : bd ∉ dkS d v) (xi : bi ∉ dkS d v) (xb : bb ∉ dkS d v) (hr : RdB w u bs) (hl : bs.length ≤ 1000000000) (hh : hasN st.fs n = true) :
    Calls Tryd.prog 53 #[.pointer (some ⟨bo, 0, none⟩), .pointer (some ⟨bd, 0, none⟩), .pointer (some ⟨bi, 0, none⟩), .pointer (some ⟨bn, 0, none⟩), .pointer (some ⟨bb, 0, none⟩)] w fun e w' => e = .returned (.tuple #[]) ∧ DOut d v { st with fs := putF st.fs n bs } w w' := by
  obtain ⟨f, hf, he⟩ := hasN_at hh
  obtain ⟨p, hp⟩ : ∃ p, plc st.fs n = p := ⟨_, rfl⟩
  rw [hp] at hf hi
  have hput : putF st.fs n bs = atF st.fs p fun f => { f with bs := f.bs ++ bs } := by unfold putF; rw [if_pos hh, hp]
  obtain ⟨g, c, u1, rfl, d0, d1, d2, hby, csg, hcsg⟩ := file_at h.own hf
  have HG := Lib.hid hcsg
  obtain ⟨A1, c1, rfl, _, _⟩ := hby.reads.form
  obtain ⟨A2, c2, rfl, _, _⟩ := hr.form
  have hpl := (List.getElem?_eq_some_iff.1 hf).1
  have hfl : f.bs.length ≤ usedF st.fs := by
    have h1 := usedF_take st.fs p f hf
    have h2 := usedF_take_le st.fs (p + 1)
    omega
  obtain ⟨N, hN⟩ : ∃ N, st.fs.length = N := ⟨_, rfl⟩
  have hpn : (p : Int) < N := by omega
  obtain ⟨q0, _, _, _, _⟩ := h.cells
  have e0 := ho
  have e1 := hd
  have e2 := hi
  have e3 := hb
  have HCC := Lib.hid (fun b w2 (hb2 : Below w.heap.size w w2) (hx : w2.heap[b]? = some (.cells #[.slice A1 f.bs.length c1, .slice A2 bs.length c2] 43)) => concat_any b _ _ _ _ w2 (hby.reads.below hb2) (hr.below hb2) hx (by omega))
  have HD := Lib.hid h
  have HF := Lib.hid hf
  have HP := Lib.hid hput
  have HN := Lib.hid hN
  rw [hN] at HD q0
  obtain ⟨L1, hL1⟩ : ∃ L, f.bs.length = L := ⟨_, rfl⟩
  obtain ⟨L2, hL2⟩ : ∃ L, bs.length = L := ⟨_, rfl⟩
  rw [hL1] at HCC d1
  rw [hL2] at HCC e3
  have n1 : bd ≠ g := fun e => xd (by rw [e]; simp [dkS, Value.ownBlock])
  have n2 : bi ≠ g := fun e => xi (by rw [e]; simp [dkS, Value.ownBlock])
  have n3 : bb ≠ g := fun e => xb (by rw [e]; simp [dkS, Value.ownBlock])
  have n4 := blk_ne h.blk hcsg (by decide)
  clear xd xi xb hcsg h _hsz hu ho hd hi _hn hb hr hl hh he hp hput hby hfl hN hf hL1 hL2
  have f1 := blk_free HG.out (p * 3 + 1)
  go_enter Tryd.func53, Tryd.ntmps53
  go_upto_region 2 with fail
  refine wp_region_last (fun w' => w'.cell? ⟨bd, 0, none⟩ = some (.pointer (some ⟨d, 0, none⟩)) ∧ w'.cell? ⟨bi, 0, none⟩ = some (.int .i64 p) ∧ w'.cell? ⟨bb, 0, none⟩ = some (.slice A2 L2 c2) ∧ w'.cell? ⟨d, 0, none⟩ = some (.slice (some ⟨g, 0, none⟩) N c) ∧ w'.cell? ⟨g, p * 3 + 1, none⟩ = some (.slice A1 L1 c1)) 18 (by kernel_rfl) (by kernel_rfl) ⟨e1, e2, e3, q0, d1⟩ (fun hHeld => ?_)
  refine takeL (i := 0) (v := ?_) rfl (by kernel_rfl) (by kernel_rfl) (by kernel_rfl) (fun _ _ _ h => h) (.inl ⟨by rfl, ?_⟩) (by assumption) ?_
  rotate_left
  · (intro w hSw; (try dsimp only at hSw); go_simp; (first | done | with_reducible rfl))
  try simp only [Act.put, List.setIfInBounds_toArray, List.set_cons_zero, List.set_cons_succ]
  refine takeL (i := 1) (v := ?_) rfl (by kernel_rfl) (by kernel_rfl) (by kernel_rfl) (fun _ _ _ h => h) (.inl ⟨by rfl, ?_⟩) (by assumption) ?_
  rotate_left
  · (intro w hSw; (try dsimp only at hSw); go_simp; (first | done | with_reducible rfl))
  try simp only [Act.put, List.setIfInBounds_toArray, List.set_cons_zero, List.set_cons_succ]
  refine takeL (i := 2) (v := ?_) rfl (by kernel_rfl) (by kernel_rfl) (by kernel_rfl) (fun _ _ _ h => h) (.inl ⟨by rfl, ?_⟩) (by assumption) ?_
  rotate_left
  · (intro w hSw; (try dsimp only at hSw); go_simp; (first | done | with_reducible rfl))
  try simp only [Act.put, List.setIfInBounds_toArray, List.set_cons_zero, List.set_cons_succ]
  refine takeL (i := 3) (v := ?_) rfl (by kernel_rfl) (by kernel_rfl) (by kernel_rfl) (fun _ _ _ h => h) (.inl ⟨by rfl, ?_⟩) (by assumption) ?_
  rotate_left
  · (intro w hSw; (try dsimp only at hSw); go_simp; (first | done | with_reducible rfl))
  try simp only [Act.put, List.setIfInBounds_toArray, List.set_cons_zero, List.set_cons_succ]
  refine takeL (i := 4) (v := ?_) rfl (by kernel_rfl) (by kernel_rfl) (by kernel_rfl) (fun _ _ _ h => h) (.inl ⟨by rfl, ?_⟩) (by assumption) ?_
  rotate_left
  · (intro w hSw; (try dsimp only at hSw); go_simp; (first | done | with_reducible rfl))
  try simp only [Act.put, List.setIfInBounds_toArray, List.set_cons_zero, List.set_cons_succ]
  refine takeL (i := 5) (v := ?_) rfl (by kernel_rfl) (by kernel_rfl) (by kernel_rfl) (fun _ _ _ h => h) (.inl ⟨by rfl, ?_⟩) (by assumption) ?_
  rotate_left
  · (intro w hSw; (try dsimp only at hSw); go_simp; (first | done | with_reducible rfl))
  try simp only [Act.put, List.setIfInBounds_toArray, List.set_cons_zero, List.set_cons_succ]
  refine takeL (i := 6) (v := ?_) rfl (by kernel_rfl) (by kernel_rfl) (by kernel_rfl) (fun _ _ _ h => h) (.inl ⟨by rfl, ?_⟩) (by assumption) ?_
  rotate_left
  · (intro w hSw; (try dsimp only at hSw); go_simp; (first | done | with_reducible rfl))
  try simp only [Act.put, List.setIfInBounds_toArray, List.set_cons_zero, List.set_cons_succ]
  refine takeL (i := 7) (v := ?_) rfl (by kernel_rfl) (by kernel_rfl) (by kernel_rfl) (fun _ _ _ h => h) (.inl ⟨by rfl, ?_⟩) (by assumption) ?_
  rotate_left
  · (intro w hSw; (try dsimp only at hSw); go_simp; (first | done | with_reducible rfl))
  try simp only [Act.put, List.setIfInBounds_toArray, List.set_cons_zero, List.set_cons_succ]
  refine takeL (i := 8) (v := ?_) rfl (by kernel_rfl) (by kernel_rfl) (by kernel_rfl) (fun _ _ _ h => h) (.inl ⟨by rfl, ?_⟩) (by assumption) ?_
  rotate_left
  · (intro w hSw; (try dsimp only at hSw); go_simp; (first | done | with_reducible rfl))
  try simp only [Act.put, List.setIfInBounds_toArray, List.set_cons_zero, List.set_cons_succ]
  refine takeL (i := 9) (v := ?_) rfl (by kernel_rfl) (by kernel_rfl) (by kernel_rfl) (fun _ _ _ h => h) (.inl ⟨by rfl, ?_⟩) (by assumption) ?_
  rotate_left
  · (intro w hSw; (try dsimp only at hSw); go_simp; (first | done | with_reducible rfl))
  try simp only [Act.put, List.setIfInBounds_toArray, List.set_cons_zero, List.set_cons_succ]
  refine takeL (i := 10) (v := ?_) rfl (by kernel_rfl) (by kernel_rfl) (by kernel_rfl) (fun _ _ _ h => h) (.inl ⟨by rfl, ?_⟩) (by assumption) ?_
  rotate_left
  · (intro w hSw; (try dsimp only at hSw); go_simp; (first | done | with_reducible rfl))
  try simp only [Act.put, List.setIfInBounds_toArray, List.set_cons_zero, List.set_cons_succ]
  refine takeL (i := 11) (v := ?_) rfl (by kernel_rfl) (by kernel_rfl) (by kernel_rfl) (fun _ _ _ h => h) (.inl ⟨by rfl, ?_⟩) (by assumption) ?_
  rotate_left
  · (intro w hSw; (try dsimp only at hSw); go_simp; (first | done | with_reducible rfl))
  try simp only [Act.put, List.setIfInBounds_toArray, List.set_cons_zero, List.set_cons_succ]
  refine takeL (i := 12) (v := ?_) rfl (by kernel_rfl) (by kernel_rfl) (by kernel_rfl) (fun _ _ _ h => h) (.inl ⟨by rfl, ?_⟩) (by assumption) ?_
  rotate_left
  · (intro w hSw; (try dsimp only at hSw); go_simp; (first | done | with_reducible rfl))
  try simp only [Act.put, List.setIfInBounds_toArray, List.set_cons_zero, List.set_cons_succ]
  refine takeL (i := 13) (v := ?_) rfl (by kernel_rfl) (by kernel_rfl) (by kernel_rfl) (fun _ _ _ h => h) (.inl ⟨by rfl, ?_⟩) (by assumption) ?_
  rotate_left
  · (intro w hSw; (try dsimp only at hSw); go_simp; (first | done | with_reducible rfl))
  try simp only [Act.put, List.setIfInBounds_toArray, List.set_cons_zero, List.set_cons_succ]
  refine stepL (i := 14) rfl (by kernel_rfl) (fun K hK => ?_)
  go_simp
  refine hK.out _ _ (have b := (Below.refl w.heap.size w).alloc (Nat.le_refl _) (.cells #[.slice A1 L1 c1, .slice A2 L2 c2] 43) |>.drew; ⟨cell_later b e1, cell_later b e2, cell_later b e3, cell_later b q0, cell_later b d1⟩) (fun hHeld => ?_)
  clear hK K
  try simp only [Act.put, List.setIfInBounds_toArray, List.set_cons_zero, List.set_cons_succ]
  refine stepL (i := 15) rfl (by kernel_rfl) (fun K hK => ?_)
  go_simp
  go_at_call 55
  refine (HCC.out _ _ (((Below.refl _ _).alloc (Nat.le_refl _) _).drew) (alloc_at w _)).mono ?_
  rintro e w5 ⟨z, rfl, hz, hb5⟩
  obtain ⟨A5, c5, rfl, _, _⟩ := hz.reads.form
  have HZ := Lib.hid (bytes_mono hz (Nat.zero_le _))
  have HB5 := Lib.hid ((((Below.refl w.heap.size w).alloc (Nat.le_refl _) _).drew).trans (hb5.mono (by simp)))
  have t2 := blk_free (blk_below HB5.out HG.out) (p * 3 + 1)
  have t1 := cell_later HB5.out d1
  clear hz hb5
  go_wp2_with fail
  refine hK.out _ _ ⟨cell_later HB5.out e1, cell_later HB5.out e2, cell_later HB5.out e3, cell_later HB5.out q0, t1⟩ (fun hHeld => ?_)
  clear hK K
  try simp only [Act.put, List.setIfInBounds_toArray, List.set_cons_zero, List.set_cons_succ]
  refine takeL (i := 16) (v := ?_) rfl (by kernel_rfl) (by kernel_rfl) (by kernel_rfl) (fun _ _ _ h => h) (.inl ⟨by rfl, ?_⟩) (by assumption) ?_
  rotate_left
  · (intro w hSw; (try dsimp only at hSw); go_simp; (first | done | with_reducible rfl))
  try simp only [Act.put, List.setIfInBounds_toArray, List.set_cons_zero, List.set_cons_succ]
  refine takeL (i := 17) (v := ?_) rfl (by kernel_rfl) (by kernel_rfl) (by kernel_rfl) (fun _ _ _ h => h) (.inl ⟨by rfl, ?_⟩) (by assumption) ?_
  rotate_left
  · (intro w hSw; (try dsimp only at hSw); go_simp; (first | done | with_reducible rfl))
  try simp only [Act.put, List.setIfInBounds_toArray, List.set_cons_zero, List.set_cons_succ]
  refine wpAnyH_done (by kernel_rfl) ?_ _
  refine doneL rfl (fun K hK => ?_)
  go_simp
  refine hK.out _ _ ?_
  clear hK K hHeld
  go_wp2_with fail
  have hz := HZ.out
  rw [List.length_append] at hz
  have hx := HD.out.set_bytes HN.out HF.out HB5.out hz
  refine bodyPost_end (v := .tuple #[]) (by simp [results]) rfl ⟨rfl, _, ?_, hx.2, NR.refl _ _⟩
  rw [HP.out]
  have h1 := hx.1
  rw [← HN.out] at h1
  rw [atF_set _ HF.out] at h1 ⊢
  exact h1
end Go.Proofs.YthehpafkaefohaaDoor
namespace Go.Proofs.YthehpafkaefohaaDoor
open Go.RowKit
set_option maxRecDepth 20000 in
set_option maxHeartbeats 2000000 in
theorem append1_no {w : World} {d : Nat} {st : DkSt} {v : Value} (h : DkAt w d st v) (hs : SortedF st.fs) (hsz : st.fs.length ≤ 1000000) (bo bd bi bn bb : Nat) (n : ByteArray) (u : Value) (bs : List UInt8)
    (ho : w.cell? ⟨bo, 0, none⟩ = some (.bool false)) (hd : w.cell? ⟨bd, 0, none⟩ = some (.pointer (some ⟨d, 0, none⟩))) (hi : w.cell? ⟨bi, 0, none⟩ = some (.int .i64 (plc st.fs n))) (hn : w.cell? ⟨bn, 0, none⟩ = some (.string n)) (hb : w.cell? ⟨bb, 0, none⟩ = some (u))
    (xd : bd ∉ dkS d v) (xi : bi ∉ dkS d v) (xn : bn ∉ dkS d v) (xb : bb ∉ dkS d v) (hr : RdB w u bs) (hrn : ∀ k, Value.readBlock u = some k → k ∉ dkS d v) (hl : bs.length ≤ 1000000000) (hh : hasN st.fs n = false) :
    Calls Tryd.prog 53 #[.pointer (some ⟨bo, 0, none⟩), .pointer (some ⟨bd, 0, none⟩), .pointer (some ⟨bi, 0, none⟩), .pointer (some ⟨bn, 0, none⟩), .pointer (some ⟨bb, 0, none⟩)] w fun e w' => e = .returned (.tuple #[]) ∧ DOut d v { st with fs := putF st.fs n bs } w w' := by
  obtain ⟨p, hp⟩ : ∃ p, plc st.fs n = p := ⟨_, rfl⟩
  have hple : p ≤ st.fs.length := by rw [← hp]; exact plc_le _ _
  obtain ⟨F, hF⟩ : ∃ F, insF st.fs ⟨n, [], 0⟩ = F := ⟨_, rfl⟩
  have hFd : F = st.fs.take p ++ ⟨n, [], 0⟩ :: st.fs.drop p := by rw [← hF, ← hp]; rfl
  have hput : putF st.fs n bs = atF F p fun f => { f with bs := f.bs ++ bs } := by unfold putF; rw [if_neg (by simp [hh]), hp, hF]
  have hf : F[p]? = some ⟨n, [], 0⟩ := by
    have := (plc_ins (f := ⟨n, [], 0⟩) hs hh).2
    rw [hF] at this
    show F[p]? = _
    rw [← hp]; exact this
  have hFl : F.length = st.fs.length + 1 := by rw [← hF, insF_len]
  rw [hp] at hi
  obtain ⟨A0, c0, rfl⟩ := h.own.form
  obtain ⟨A2, c2, rfl, _, _⟩ := hr.form
  obtain ⟨q0, _, _, _, _⟩ := h.cells
  have f0 := blk_free h.blk 0
  have e0 := ho
  have e1 := hd
  have e2 := hi
  have e3 := hb
  have e4 := hn
  have HD0 := Lib.hid h
  have HR0 := Lib.hid hr
  have HRN := Lib.hid hrn
  have HB := Lib.hid (And.intro hd (And.intro hi (And.intro hb hn)))
  have HX := Lib.hid (And.intro xd (And.intro xi (And.intro xb xn)))
  have m1 : bd ≠ d := fun e => xd (by rw [e]; simp [dkS])
  have m2 : bi ≠ d := fun e => xi (by rw [e]; simp [dkS])
  have m4 : bn ≠ d := fun e => xn (by rw [e]; simp [dkS])
  obtain ⟨N, hN⟩ : ∃ N, st.fs.length = N := ⟨_, rfl⟩
  have HCI := Lib.hid (fun vb w2 (hb2 : Below w.heap.size w w2) (hv : w2.heap[vb]? = some (.cells #[.string n, .slice none 0 0, .int .i64 0] 58)) (hvb : w.heap.size ≤ vb) => insert_any (.slice A0 st.fs.length c0) st.fs n vb p w2 (h.below hb2).own hv (fun g hg e => by have := (h.own.rowT g hg).1; omega) hsz hple)
  rw [← hFd, hN] at HCI
  rw [hN] at q0 HD0 HX HRN
  have HFF := Lib.hid hf
  have HP := Lib.hid hput
  have HFL := Lib.hid hFl
  have HNN := Lib.hid hN
  have HSZ := Lib.hid hsz
  have HLL := Lib.hid hl
  obtain ⟨L2, hL2⟩ : ∃ L, bs.length = L := ⟨_, rfl⟩
  rw [hL2] at e3 HRN
  have HL2 := Lib.hid hL2
  clear xd xi xn xb h hs hsz ho hd hi hn hb hr hrn hl hh hp hF hFd hput hf hN hFl hL2
  have a3 := cell_later (((Below.refl w.heap.size w).alloc (Nat.le_refl _) (.cells #[.string n, .slice none 0 0, .int .i64 0] 58))) q0
  go_enter Tryd.func53, Tryd.ntmps53
  go_upto_region 1 with fail
  refine wp_region_last (fun w' => w'.cell? ⟨bd, 0, none⟩ = some (.pointer (some ⟨d, 0, none⟩)) ∧ w'.cell? ⟨bi, 0, none⟩ = some (.int .i64 p) ∧ w'.cell? ⟨bn, 0, none⟩ = some (.string n) ∧ w'.cell? ⟨d, 0, none⟩ = some (.slice A0 N c0)) 12 (by kernel_rfl) (by kernel_rfl) ⟨e1, e2, e4, q0⟩ (fun hHeld => ?_)
  refine takeL (i := 0) (v := ?_) rfl (by kernel_rfl) (by kernel_rfl) (by kernel_rfl) (fun _ _ _ h => h) (.inl ⟨by rfl, ?_⟩) (by assumption) ?_
  rotate_left
  · (intro w hSw; (try dsimp only at hSw); go_simp; (first | done | with_reducible rfl))
  try simp only [Act.put, List.setIfInBounds_toArray, List.set_cons_zero, List.set_cons_succ]
  refine takeL (i := 1) (v := ?_) rfl (by kernel_rfl) (by kernel_rfl) (by kernel_rfl) (fun _ _ _ h => h) (.inl ⟨by rfl, ?_⟩) (by assumption) ?_
  rotate_left
  · (intro w hSw; (try dsimp only at hSw); go_simp; (first | done | with_reducible rfl))
  try simp only [Act.put, List.setIfInBounds_toArray, List.set_cons_zero, List.set_cons_succ]
  refine takeL (i := 2) (v := ?_) rfl (by kernel_rfl) (by kernel_rfl) (by kernel_rfl) (fun _ _ _ h => h) (.inl ⟨by rfl, ?_⟩) (by assumption) ?_
  rotate_left
  · (intro w hSw; (try dsimp only at hSw); go_simp; (first | done | with_reducible rfl))
  try simp only [Act.put, List.setIfInBounds_toArray, List.set_cons_zero, List.set_cons_succ]
  refine takeL (i := 3) (v := ?_) rfl (by kernel_rfl) (by kernel_rfl) (by kernel_rfl) (fun _ _ _ h => h) (.inl ⟨by rfl, ?_⟩) (by assumption) ?_
  rotate_left
  · (intro w hSw; (try dsimp only at hSw); go_simp; (first | done | with_reducible rfl))
  try simp only [Act.put, List.setIfInBounds_toArray, List.set_cons_zero, List.set_cons_succ]
  refine takeL (i := 4) (v := ?_) rfl (by kernel_rfl) (by kernel_rfl) (by kernel_rfl) (fun _ _ _ h => h) (.inl ⟨by rfl, ?_⟩) (by assumption) ?_
  rotate_left
  · (intro w hSw; (try dsimp only at hSw); go_simp; (first | done | with_reducible rfl))
  try simp only [Act.put, List.setIfInBounds_toArray, List.set_cons_zero, List.set_cons_succ]
  refine takeL (i := 5) (v := ?_) rfl (by kernel_rfl) (by kernel_rfl) (by kernel_rfl) (fun _ _ _ h => h) (.inl ⟨by rfl, ?_⟩) (by assumption) ?_
  rotate_left
  · (intro w hSw; (try dsimp only at hSw); go_simp; (first | done | with_reducible rfl))
  try simp only [Act.put, List.setIfInBounds_toArray, List.set_cons_zero, List.set_cons_succ]
  refine takeL (i := 6) (v := ?_) rfl (by kernel_rfl) (by kernel_rfl) (by kernel_rfl) (fun _ _ _ h => h) (.inl ⟨by rfl, ?_⟩) (by assumption) ?_
  rotate_left
  · (intro w hSw; (try dsimp only at hSw); go_simp; (first | done | with_reducible rfl))
  try simp only [Act.put, List.setIfInBounds_toArray, List.set_cons_zero, List.set_cons_succ]
  refine takeL (i := 7) (v := ?_) rfl (by kernel_rfl) (by kernel_rfl) (by kernel_rfl) (fun _ _ _ h => h) (.inl ⟨by rfl, ?_⟩) (by assumption) ?_
  rotate_left
  · (intro w hSw; (try dsimp only at hSw); go_simp; (first | done | with_reducible rfl))
  try simp only [Act.put, List.setIfInBounds_toArray, List.set_cons_zero, List.set_cons_succ]
  refine stepL (i := 8) rfl (by kernel_rfl) (fun K hK => ?_)
  go_simp
  refine hK.out _ _ (have b := (Below.refl w.heap.size w).alloc (Nat.le_refl _) (.cells #[.string n, .slice none 0 0, .int .i64 0] 58) |>.drew; ⟨cell_later b e1, cell_later b e2, cell_later b e4, cell_later b q0⟩) (fun hHeld => ?_)
  clear hK K
  try simp only [Act.put, List.setIfInBounds_toArray, List.set_cons_zero, List.set_cons_succ]
  refine stepL (i := 9) rfl (by kernel_rfl) (fun K hK => ?_)
  go_simp
  go_at_call 54
  refine (HCI.out _ _ (((Below.refl _ _).alloc (Nat.le_refl _) _).drew) (alloc_at w _) (Nat.le_refl _)).mono ?_
  rintro e w3 ⟨z, rfl, hz, hc3, hnr⟩
  obtain ⟨A5, c5, rfl⟩ := hz.form
  have HZ := Lib.hid hz
  have HDB3 := Lib.hid (hc3.blk (blk_alloc (w := w) HD0.out.blk (.cells #[.string n, .slice none 0 0, .int .i64 0] 58)) (fun hm => HD0.out.d_ne d (by simpa using hm) rfl))
  have HC3 := Lib.hid (((((ChgS.refl (dkS d (.slice A0 N c0)) w).alloc (.cells #[.string n, .slice none 0 0, .int .i64 0] 58)).drewN 1).trans (b := (w.alloc (.cells #[.string n, .slice none 0 0, .int .i64 0] 58)).drew) hc3 (fun x hx => .inl (List.mem_cons_of_mem _ hx))))
  have HNR := Lib.hid hnr
  have e1' := HC3.out.cell HB.out.1 HX.out.1
  have e2' := HC3.out.cell HB.out.2.1 HX.out.2.1
  have e4' := HC3.out.cell HB.out.2.2.2 HX.out.2.2.2
  have t1 := blk_cell HDB3.out 0
  have t2 := blk_free HDB3.out 0
  simp at t1
  clear hz hc3 hnr
  go_wp2_with fail
  refine hK.out _ _ ⟨e1', e2', e4', t1⟩ (fun hHeld => ?_)
  clear hK K
  try simp only [Act.put, List.setIfInBounds_toArray, List.set_cons_zero, List.set_cons_succ]
  refine takeL (i := 10) (v := ?_) rfl (by kernel_rfl) (by kernel_rfl) (by kernel_rfl) (fun _ _ _ h => h) (.inl ⟨by rfl, ?_⟩) (by assumption) ?_
  rotate_left
  · (intro w hSw; (try dsimp only at hSw); go_simp; (first | done | with_reducible rfl))
  try simp only [Act.put, List.setIfInBounds_toArray, List.set_cons_zero, List.set_cons_succ]
  refine takeL (i := 11) (v := ?_) rfl (by kernel_rfl) (by kernel_rfl) (by kernel_rfl) (fun _ _ _ h => h) (.inl ⟨by rfl, ?_⟩) (by assumption) ?_
  rotate_left
  · (intro w hSw; (try dsimp only at hSw); go_simp; (first | done | with_reducible rfl))
  try simp only [Act.put, List.setIfInBounds_toArray, List.set_cons_zero, List.set_cons_succ]
  refine wpAnyH_done (by kernel_rfl) ?_ _
  refine doneL rfl (fun K hK => ?_)
  go_simp
  refine hK.out _ _ ?_
  clear hK K hHeld
  have hlt : d < w.heap.size := blk_lt HD0.out.blk
  have hnd : ∀ k, (Value.slice A5 F.length c5).ownBlock = some k → k ≠ d := fun k hk => by
    rcases HNR.out k hk with h1 | h1
    · exact HD0.out.d_ne k h1
    · have : w.heap.size ≤ (w.alloc (.cells #[.string n, .slice none 0 0, .int .i64 0] 58)).drew.heap.size := by simp
      omega
  have hda := HD0.out.set_fs (HDB3.out.trans HD0.out.blk.symm) HZ.out hnd
  have hca : ChgS (dkS d (.slice A0 N c0)) w (w3.setCell ⟨d, 0, none⟩ (.slice A5 F.length c5)) := HC3.out.set (.inl (by simp [dkS])) _ _
  have hna : NR (.slice A0 N c0) (.slice A5 F.length c5) w := fun k hk => by
    rcases HNR.out k hk with h1 | h1
    · exact .inl h1
    · have : w.heap.size ≤ (w.alloc (.cells #[.string n, .slice none 0 0, .int .i64 0] 58)).drew.heap.size := by simp
      exact .inr (by omega)
  clear a3 e1' e2' e4' t1 t2 e1 e2 e3 e4 q0 f0 m1 m2 m4 hnd HDB3 HC3 HNR HZ hlt
  obtain ⟨wA, hwA⟩ : ∃ x, (w3.setCell ⟨d, 0, none⟩ (.slice A5 F.length c5)) = x := ⟨_, rfl⟩
  rw [hwA] at hda hca ⊢
  clear hwA
  have hd := hca.cell HB.out.1 HX.out.1
  have hi := hca.cell HB.out.2.1 HX.out.2.1
  have hb := hca.cell HB.out.2.2.1 HX.out.2.2.1
  have hr := HR0.out.chgS hca (by rw [HL2.out]; exact HRN.out)
  rw [HL2.out] at hr
  have hf := HFF.out
  have hls := HLL.out
  have hfl := HFL.out
  have hszz := HSZ.out
  obtain ⟨NF, hNF⟩ : ∃ NF, F.length = NF := ⟨_, rfl⟩
  rw [hNF] at hda hfl hna ⊢
  have hpl := (List.getElem?_eq_some_iff.1 hf).1
  rw [hNF] at hpl
  obtain ⟨g, c, u1, hv5, d0, d1, d2, hby, csg, hcsg⟩ := file_at hda.own hf
  injection hv5 with hv51 hv52 hv53
  subst hv51
  subst hv53
  obtain ⟨A1, c1, rfl, _, _⟩ := hby.reads.form
  have hpn : (p : Int) < NF := by omega
  obtain ⟨q0, _, _, _, _⟩ := hda.cells
  have e1 := hd
  have e2 := hi
  have e3 := hb
  rw [HL2.out] at e3
  have f1 := blk_free hcsg (p * 3 + 1)
  have hgn : g ∈ dkS d (.slice A0 N c0) ∨ w.heap.size ≤ g := dkS_sub hna g (by simp [dkS, Value.ownBlock])
  have n1 : bd ≠ g := fun e => by
    rcases hgn with h1 | h1
    · exact HX.out.1 (e ▸ h1)
    · have := block_lt_of_cell HB.out.1; simp at this; omega
  have n2 : bi ≠ g := fun e => by
    rcases hgn with h1 | h1
    · exact HX.out.2.1 (e ▸ h1)
    · have := block_lt_of_cell HB.out.2.1; simp at this; omega
  have n3 : bb ≠ g := fun e => by
    rcases hgn with h1 | h1
    · exact HX.out.2.2.1 (e ▸ h1)
    · have := block_lt_of_cell HB.out.2.2.1; simp at this; omega
  have n4 := blk_ne hda.blk hcsg (by decide)
  have HG := Lib.hid hcsg
  have HCC := Lib.hid (fun b w2 (hb2 : Below wA.heap.size wA w2) (hx : w2.heap[b]? = some (.cells #[.slice A1 0 c1, .slice A2 L2 c2] 43)) => concat_any b _ _ _ _ w2 (hby.reads.below hb2) (hr.below hb2) hx (by simp; omega))
  have HD := Lib.hid hda
  have HCA := Lib.hid hca
  have HNA := Lib.hid hna
  have HNF := Lib.hid hNF
  clear hgn hd hi hb hr hf hls hfl hszz hpl hv52 hby hcsg hda hca hna hNF HB HX HCI HR0 HRN HD0
  go_upto_region 2 with fail
  refine wp_region_last (fun w' => w'.cell? ⟨bd, 0, none⟩ = some (.pointer (some ⟨d, 0, none⟩)) ∧ w'.cell? ⟨bi, 0, none⟩ = some (.int .i64 p) ∧ w'.cell? ⟨bb, 0, none⟩ = some (.slice A2 L2 c2) ∧ w'.cell? ⟨d, 0, none⟩ = some (.slice (some ⟨g, 0, none⟩) NF c5) ∧ w'.cell? ⟨g, p * 3 + 1, none⟩ = some (.slice A1 0 c1)) 18 (by kernel_rfl) (by kernel_rfl) ⟨e1, e2, e3, q0, d1⟩ (fun hHeld => ?_)
  refine takeL (i := 0) (v := ?_) rfl (by kernel_rfl) (by kernel_rfl) (by kernel_rfl) (fun _ _ _ h => h) (.inl ⟨by rfl, ?_⟩) (by assumption) ?_
  rotate_left
  · (intro w hSw; (try dsimp only at hSw); go_simp; (first | done | with_reducible rfl))
  try simp only [Act.put, List.setIfInBounds_toArray, List.set_cons_zero, List.set_cons_succ]
  refine takeL (i := 1) (v := ?_) rfl (by kernel_rfl) (by kernel_rfl) (by kernel_rfl) (fun _ _ _ h => h) (.inl ⟨by rfl, ?_⟩) (by assumption) ?_
  rotate_left
  · (intro w hSw; (try dsimp only at hSw); go_simp; (first | done | with_reducible rfl))
  try simp only [Act.put, List.setIfInBounds_toArray, List.set_cons_zero, List.set_cons_succ]
  refine takeL (i := 2) (v := ?_) rfl (by kernel_rfl) (by kernel_rfl) (by kernel_rfl) (fun _ _ _ h => h) (.inl ⟨by rfl, ?_⟩) (by assumption) ?_
  rotate_left
  · (intro w hSw; (try dsimp only at hSw); go_simp; (first | done | with_reducible rfl))
  try simp only [Act.put, List.setIfInBounds_toArray, List.set_cons_zero, List.set_cons_succ]
  refine takeL (i := 3) (v := ?_) rfl (by kernel_rfl) (by kernel_rfl) (by kernel_rfl) (fun _ _ _ h => h) (.inl ⟨by rfl, ?_⟩) (by assumption) ?_
  rotate_left
  · (intro w hSw; (try dsimp only at hSw); go_simp; (first | done | with_reducible rfl))
  try simp only [Act.put, List.setIfInBounds_toArray, List.set_cons_zero, List.set_cons_succ]
  refine takeL (i := 4) (v := ?_) rfl (by kernel_rfl) (by kernel_rfl) (by kernel_rfl) (fun _ _ _ h => h) (.inl ⟨by rfl, ?_⟩) (by assumption) ?_
  rotate_left
  · (intro w hSw; (try dsimp only at hSw); go_simp; (first | done | with_reducible rfl))
  try simp only [Act.put, List.setIfInBounds_toArray, List.set_cons_zero, List.set_cons_succ]
  refine takeL (i := 5) (v := ?_) rfl (by kernel_rfl) (by kernel_rfl) (by kernel_rfl) (fun _ _ _ h => h) (.inl ⟨by rfl, ?_⟩) (by assumption) ?_
  rotate_left
  · (intro w hSw; (try dsimp only at hSw); go_simp; (first | done | with_reducible rfl))
  try simp only [Act.put, List.setIfInBounds_toArray, List.set_cons_zero, List.set_cons_succ]
  refine takeL (i := 6) (v := ?_) rfl (by kernel_rfl) (by kernel_rfl) (by kernel_rfl) (fun _ _ _ h => h) (.inl ⟨by rfl, ?_⟩) (by assumption) ?_
  rotate_left
  · (intro w hSw; (try dsimp only at hSw); go_simp; (first | done | with_reducible rfl))
  try simp only [Act.put, List.setIfInBounds_toArray, List.set_cons_zero, List.set_cons_succ]
  refine takeL (i := 7) (v := ?_) rfl (by kernel_rfl) (by kernel_rfl) (by kernel_rfl) (fun _ _ _ h => h) (.inl ⟨by rfl, ?_⟩) (by assumption) ?_
  rotate_left
  · (intro w hSw; (try dsimp only at hSw); go_simp; (first | done | with_reducible rfl))
  try simp only [Act.put, List.setIfInBounds_toArray, List.set_cons_zero, List.set_cons_succ]
  refine takeL (i := 8) (v := ?_) rfl (by kernel_rfl) (by kernel_rfl) (by kernel_rfl) (fun _ _ _ h => h) (.inl ⟨by rfl, ?_⟩) (by assumption) ?_
  rotate_left
  · (intro w hSw; (try dsimp only at hSw); go_simp; (first | done | with_reducible rfl))
  try simp only [Act.put, List.setIfInBounds_toArray, List.set_cons_zero, List.set_cons_succ]
  refine takeL (i := 9) (v := ?_) rfl (by kernel_rfl) (by kernel_rfl) (by kernel_rfl) (fun _ _ _ h => h) (.inl ⟨by rfl, ?_⟩) (by assumption) ?_
  rotate_left
  · (intro w hSw; (try dsimp only at hSw); go_simp; (first | done | with_reducible rfl))
  try simp only [Act.put, List.setIfInBounds_toArray, List.set_cons_zero, List.set_cons_succ]
  refine takeL (i := 10) (v := ?_) rfl (by kernel_rfl) (by kernel_rfl) (by kernel_rfl) (fun _ _ _ h => h) (.inl ⟨by rfl, ?_⟩) (by assumption) ?_
  rotate_left
  · (intro w hSw; (try dsimp only at hSw); go_simp; (first | done | with_reducible rfl))
  try simp only [Act.put, List.setIfInBounds_toArray, List.set_cons_zero, List.set_cons_succ]
  refine takeL (i := 11) (v := ?_) rfl (by kernel_rfl) (by kernel_rfl) (by kernel_rfl) (fun _ _ _ h => h) (.inl ⟨by rfl, ?_⟩) (by assumption) ?_
  rotate_left
  · (intro w hSw; (try dsimp only at hSw); go_simp; (first | done | with_reducible rfl))
  try simp only [Act.put, List.setIfInBounds_toArray, List.set_cons_zero, List.set_cons_succ]
  refine takeL (i := 12) (v := ?_) rfl (by kernel_rfl) (by kernel_rfl) (by kernel_rfl) (fun _ _ _ h => h) (.inl ⟨by rfl, ?_⟩) (by assumption) ?_
  rotate_left
  · (intro w hSw; (try dsimp only at hSw); go_simp; (first | done | with_reducible rfl))
  try simp only [Act.put, List.setIfInBounds_toArray, List.set_cons_zero, List.set_cons_succ]
  refine takeL (i := 13) (v := ?_) rfl (by kernel_rfl) (by kernel_rfl) (by kernel_rfl) (fun _ _ _ h => h) (.inl ⟨by rfl, ?_⟩) (by assumption) ?_
  rotate_left
  · (intro w hSw; (try dsimp only at hSw); go_simp; (first | done | with_reducible rfl))
  try simp only [Act.put, List.setIfInBounds_toArray, List.set_cons_zero, List.set_cons_succ]
  refine stepL (i := 14) rfl (by kernel_rfl) (fun K hK => ?_)
  go_simp
  refine hK.out _ _ (have b := (Below.refl wA.heap.size wA).alloc (Nat.le_refl _) (.cells #[.slice A1 0 c1, .slice A2 L2 c2] 43) |>.drew; ⟨cell_later b e1, cell_later b e2, cell_later b e3, cell_later b q0, cell_later b d1⟩) (fun hHeld => ?_)
  clear hK K
  try simp only [Act.put, List.setIfInBounds_toArray, List.set_cons_zero, List.set_cons_succ]
  refine stepL (i := 15) rfl (by kernel_rfl) (fun K hK => ?_)
  go_simp
  go_at_call 55
  refine (HCC.out _ _ (((Below.refl _ _).alloc (Nat.le_refl _) _).drew) (alloc_at wA _)).mono ?_
  rintro e w5 ⟨z, rfl, hz, hb5⟩
  obtain ⟨A6, c6, rfl, _, _⟩ := hz.reads.form
  have HZ := Lib.hid (bytes_mono hz (Nat.zero_le _))
  have HB5 := Lib.hid ((((Below.refl wA.heap.size wA).alloc (Nat.le_refl _) _).drew).trans (hb5.mono (by simp)))
  have t2 := blk_free (blk_below HB5.out HG.out) (p * 3 + 1)
  have t1 := cell_later HB5.out d1
  clear hz hb5
  go_wp2_with fail
  refine hK.out _ _ ⟨cell_later HB5.out e1, cell_later HB5.out e2, cell_later HB5.out e3, cell_later HB5.out q0, t1⟩ (fun hHeld => ?_)
  clear hK K
  try simp only [Act.put, List.setIfInBounds_toArray, List.set_cons_zero, List.set_cons_succ]
  refine takeL (i := 16) (v := ?_) rfl (by kernel_rfl) (by kernel_rfl) (by kernel_rfl) (fun _ _ _ h => h) (.inl ⟨by rfl, ?_⟩) (by assumption) ?_
  rotate_left
  · (intro w hSw; (try dsimp only at hSw); go_simp; (first | done | with_reducible rfl))
  try simp only [Act.put, List.setIfInBounds_toArray, List.set_cons_zero, List.set_cons_succ]
  refine takeL (i := 17) (v := ?_) rfl (by kernel_rfl) (by kernel_rfl) (by kernel_rfl) (fun _ _ _ h => h) (.inl ⟨by rfl, ?_⟩) (by assumption) ?_
  rotate_left
  · (intro w hSw; (try dsimp only at hSw); go_simp; (first | done | with_reducible rfl))
  try simp only [Act.put, List.setIfInBounds_toArray, List.set_cons_zero, List.set_cons_succ]
  refine wpAnyH_done (by kernel_rfl) ?_ _
  refine doneL rfl (fun K hK => ?_)
  go_simp
  refine hK.out _ _ ?_
  clear hK K hHeld
  go_wp2_with fail
  have hz : Bytes 0 w5 (.slice A6 bs.length c6) bs := by simpa using HZ.out
  have hx := HD.out.set_bytes HNF.out HFF.out HB5.out hz
  have hca9 := HCA.out.trans hx.2 (dkS_sub HNA.out)
  have hna9 := HNA.out
  rw [← HNN.out] at hca9 hna9
  refine bodyPost_end (v := .tuple #[]) (by simp [results]) rfl ⟨rfl, _, ?_, hca9, hna9⟩
  rw [HP.out]
  have h1 := hx.1
  rw [atF_set _ HFF.out] at h1 ⊢
  exact h1
end Go.Proofs.YthehpafkaefohaaDoor
namespace Go.Proofs.YthehpafkaefohaaDoor
open Go.RowKit
theorem DkAt.cells2 {w : World} {d : Nat} {st : DkSt} {v : Value} (h : DkAt w d st v) : w.frozen? ⟨d, 2, none⟩ = false ∧ w.frozen? ⟨d, 3, none⟩ = false ∧ w.frozen? ⟨d, 0, none⟩ = false := ⟨blk_free h.blk _, blk_free h.blk _, blk_free h.blk _⟩
set_option maxRecDepth 20000 in
set_option maxHeartbeats 1000000 in
theorem deed_burnt {w : World} {d : Nat} {st : DkSt} {v : Value} (h : DkAt w d st v) (hz : st.fuse = 0) (f : Nat) (caps : Array Value) :
    Calls Tryd.prog 52 #[.pointer (some ⟨d, 0, none⟩), .func (.func f) #[] caps] w (DPost d v { st with fuse := -1, dark := true } 15 w) := by
  obtain ⟨_, _, c2, c3, _⟩ := h.cells
  obtain ⟨f2, f3, _⟩ := h.cells2
  rw [hz] at c2
  have HP : Hid (DPost d v { st with fuse := -1, dark := true } 15 w (.returned (.int .i64 15)) ((w.setCell ⟨d, 2, none⟩ (.int .i64 (-1))).setCell ⟨d, 3, none⟩ (.bool true))) :=
    ⟨v, rfl, (h.set_fuse (-1)).set_dark true, ((ChgS.refl _ w).setD (by simp [dkS]) _ _).setD (by simp [dkS]) _ _, NR.refl _ _⟩
  clear h
  go_enter Tryd.func52, Tryd.ntmps52
  go_wp2
  exact bodyPost_ret (v := .int .i64 15) (by simp [results]) rfl HP.out
set_option maxRecDepth 20000 in
set_option maxHeartbeats 1000000 in
theorem deed_app {w : World} {d : Nat} {st : DkSt} {v : Value} (h : DkAt w d st v) (hz : st.fuse ≠ 0) (hlo : -1 ≤ st.fuse) (hhi : st.fuse ≤ 1000000000000) (b1 b2 b3 b4 b5 : Nat) (Q : World → Prop)
    (HF : ∀ w1, DkAt w1 d { st with fuse := if 0 < st.fuse then st.fuse - 1 else st.fuse } v → ChgS [d] w w1 → Calls Tryd.prog 53 #[.pointer (some ⟨b1, 0, none⟩), .pointer (some ⟨b2, 0, none⟩), .pointer (some ⟨b3, 0, none⟩), .pointer (some ⟨b4, 0, none⟩), .pointer (some ⟨b5, 0, none⟩)] w1 (fun e w' => e = .returned (.tuple #[]) ∧ Q w')) :
    Calls Tryd.prog 52 #[.pointer (some ⟨d, 0, none⟩), .func (.func 53) #[] #[.pointer (some ⟨b1, 0, none⟩), .pointer (some ⟨b2, 0, none⟩), .pointer (some ⟨b3, 0, none⟩), .pointer (some ⟨b4, 0, none⟩), .pointer (some ⟨b5, 0, none⟩)]] w (fun e w' => e = .returned (.int .i64 0) ∧ Q w') := by
  obtain ⟨_, _, c2, c3, _⟩ := h.cells
  obtain ⟨f2, f3, _⟩ := h.cells2
  by_cases hp : 0 < st.fuse
  · have HC := Lib.hid (HF _ (by rw [if_pos hp]; exact h.set_fuse (st.fuse - 1)) ((ChgS.refl _ w).setD (by simp) 2 (.int .i64 (st.fuse - 1))))
    generalize st.fuse = q at *
    clear h HF
    go_enter Tryd.func52, Tryd.ntmps52
    go_wp2_with fail
    refine HC.out.mono ?_
    rintro e w2 ⟨rfl, hq⟩
    go_wp2
    exact bodyPost_ret (v := .int .i64 0) (by simp [results]) rfl ⟨rfl, hq⟩
  · have HC := Lib.hid (HF w (by rw [if_neg hp]; exact h) (ChgS.refl _ w))
    have hneg : st.fuse = -1 := by omega
    rw [hneg] at c2
    clear h HF
    go_enter Tryd.func52, Tryd.ntmps52
    go_wp2_with fail
    refine HC.out.mono ?_
    rintro e w2 ⟨rfl, hq⟩
    go_wp2
    exact bodyPost_ret (v := .int .i64 0) (by simp [results]) rfl ⟨rfl, hq⟩
set_option maxRecDepth 20000 in
set_option maxHeartbeats 1000000 in
theorem deed_of {w : World} {d : Nat} {st : DkSt} {v : Value} (h : DkAt w d st v) (hz : st.fuse ≠ 0) (hlo : -1 ≤ st.fuse) (hhi : st.fuse ≤ 1000000000000) (b1 b2 : Nat) (Q : World → Prop)
    (HF : ∀ w1, DkAt w1 d { st with fuse := if 0 < st.fuse then st.fuse - 1 else st.fuse } v → ChgS [d] w w1 → Calls Tryd.prog 68 #[.pointer (some ⟨b1, 0, none⟩), .pointer (some ⟨b2, 0, none⟩)] w1 (fun e w' => e = .returned (.tuple #[]) ∧ Q w')) :
    Calls Tryd.prog 52 #[.pointer (some ⟨d, 0, none⟩), .func (.func 68) #[] #[.pointer (some ⟨b1, 0, none⟩), .pointer (some ⟨b2, 0, none⟩)]] w (fun e w' => e = .returned (.int .i64 0) ∧ Q w') := by
  obtain ⟨_, _, c2, c3, _⟩ := h.cells
  obtain ⟨f2, f3, _⟩ := h.cells2
  by_cases hp : 0 < st.fuse
  · have HC := Lib.hid (HF _ (by rw [if_pos hp]; exact h.set_fuse (st.fuse - 1)) ((ChgS.refl _ w).setD (by simp) 2 (.int .i64 (st.fuse - 1))))
    generalize st.fuse = q at *
    clear h HF
    go_enter Tryd.func52, Tryd.ntmps52
    go_wp2_with fail
    refine HC.out.mono ?_
    rintro e w2 ⟨rfl, hq⟩
    go_wp2
    exact bodyPost_ret (v := .int .i64 0) (by simp [results]) rfl ⟨rfl, hq⟩
  · have HC := Lib.hid (HF w (by rw [if_neg hp]; exact h) (ChgS.refl _ w))
    have hneg : st.fuse = -1 := by omega
    rw [hneg] at c2
    clear h HF
    go_enter Tryd.func52, Tryd.ntmps52
    go_wp2_with fail
    refine HC.out.mono ?_
    rintro e w2 ⟨rfl, hq⟩
    go_wp2
    exact bodyPost_ret (v := .int .i64 0) (by simp [results]) rfl ⟨rfl, hq⟩
end Go.Proofs.YthehpafkaefohaaDoor
namespace Go.Proofs.YthehpafkaefohaaDoor
open Go.RowKit
def APost (d : Nat) (v : Value) (r : DkSt × Int) (w : World) : Ending → World → Prop := DPost d v r.1 r.2 w
theorem DPost.from {d : Nat} {v : Value} {st' : DkSt} {r : Int} {w w1 : World} {e : Ending} {w' : World} (hb : Below w.heap.size w w1) (h : DPost d v st' r w1 e w') : DPost d v st' r w e w' := by
  obtain ⟨v', h1, h2, h3, h4⟩ := h
  exact ⟨v', h1, h2, (ChgS.of_below (S := dkS d v) hb).trans h3 (fun x hx => .inl hx), fun k hk => (h4 k hk).imp id (fun h => Nat.le_trans hb.size h)⟩
theorem below3 (w : World) (o1 o2 o3 : Obj) : Below w.heap.size w (((w.alloc o1).alloc o2).alloc o3) :=
  (((Below.refl _ _).alloc (Nat.le_refl _) _).alloc (by simp) _).alloc (by simp; omega) _
set_option maxRecDepth 20000 in
set_option maxHeartbeats 2000000 in
theorem append_dark {w : World} {d : Nat} {st : DkSt} {v : Value} (h : DkAt w d st v) (n : ByteArray) (u : Value) (bs : List UInt8) (hr : RdB w u bs) (hd : st.dark = true) :
    Calls Tryd.prog 27 #[.pointer (some ⟨d, 0, none⟩), .string n, u] w (APost d v (dAppend st n bs) w) := by
  have hq : dAppend st n bs = (st, 15) := by unfold dAppend; rw [if_pos hd]
  have hb3 : Below w.heap.size w (((w.alloc (.cells #[.pointer (some ⟨d, 0, none⟩)] 24)).alloc (.cells #[.string n] 9)).alloc (.cells #[u] 43)) := below3 w _ _ _
  have HL := lit_any (h.below hb3)
  have hlE : litE st = 15 := by unfold litE; rw [if_pos hd]
  rw [hlE] at HL
  have HP : Hid (APost d v (dAppend st n bs) w (.returned (.int .i64 15)) (((w.alloc (.cells #[.pointer (some ⟨d, 0, none⟩)] 24)).alloc (.cells #[.string n] 9)).alloc (.cells #[u] 43))) := by
    show DPost _ _ _ _ _ _ _
    rw [hq]
    exact ⟨v, rfl, h.below hb3, ChgS.of_below hb3, NR.refl _ _⟩
  have HC := Lib.hid HL
  obtain ⟨A, c, rfl, _, _⟩ := hr.form
  clear h hr hq hb3 HL hlE
  go_enter Tryd.func27, Tryd.ntmps27
  go_wp2_with fail
  refine HC.out.mono ?_
  rintro e w2 ⟨rfl, hw⟩
  subst hw
  go_wp2
  exact bodyPost_ret (v := .int .i64 15) (by simp [results]) rfl HP.out
set_option maxRecDepth 20000 in
set_option maxHeartbeats 2000000 in
theorem append_noname {w : World} {d : Nat} {st : DkSt} {v : Value} (h : DkAt w d st v) (n : ByteArray) (hns : n.size ≤ 1000000) (u : Value) (bs : List UInt8) (hr : RdB w u bs) (hd : st.dark = false) (hn : namedB n = false) :
    Calls Tryd.prog 27 #[.pointer (some ⟨d, 0, none⟩), .string n, u] w (APost d v (dAppend st n bs) w) := by
  have hq : dAppend st n bs = (st, 16) := by unfold dAppend; rw [if_neg (by simp [hd]), if_pos hn]
  have hb3 : Below w.heap.size w (((w.alloc (.cells #[.pointer (some ⟨d, 0, none⟩)] 24)).alloc (.cells #[.string n] 9)).alloc (.cells #[u] 43)) := below3 w _ _ _
  have HL := lit_any (h.below hb3)
  have hlE : litE st = 0 := by unfold litE; rw [if_neg (by simp [hd])]
  rw [hlE] at HL
  have HP : Hid (APost d v (dAppend st n bs) w (.returned (.int .i64 16)) (((w.alloc (.cells #[.pointer (some ⟨d, 0, none⟩)] 24)).alloc (.cells #[.string n] 9)).alloc (.cells #[u] 43))) := by
    show DPost _ _ _ _ _ _ _
    rw [hq]
    exact ⟨v, rfl, h.below hb3, ChgS.of_below hb3, NR.refl _ _⟩
  have HC := Lib.hid HL
  have HN := Lib.hid (named_any n (((w.alloc (.cells #[.pointer (some ⟨d, 0, none⟩)] 24)).alloc (.cells #[.string n] 9)).alloc (.cells #[u] 43)) (by omega))
  rw [hn] at HN
  obtain ⟨A, c, rfl, _, _⟩ := hr.form
  clear h hr hq hb3 HL hlE hn
  go_enter Tryd.func27, Tryd.ntmps27
  go_wp2_with fail
  refine HC.out.mono ?_
  rintro e w2 ⟨rfl, hw⟩
  subst hw
  go_wp2_with fail
  refine HN.out.mono ?_
  rintro e w2 ⟨rfl, hw⟩
  subst hw
  go_wp2
  exact bodyPost_ret (v := .int .i64 16) (by simp [results]) rfl HP.out
end Go.Proofs.YthehpafkaefohaaDoor
namespace Go.Proofs.YthehpafkaefohaaDoor
open Go.RowKit
theorem below1 (w : World) (o1 : Obj) : Below w.heap.size w (w.alloc o1) := (Below.refl _ _).alloc (Nat.le_refl _) _
theorem below2 (w : World) (o1 o2 : Obj) : Below w.heap.size w ((w.alloc o1).alloc o2) := ((Below.refl _ _).alloc (Nat.le_refl _) _).alloc (by simp) _
theorem alloc_at1 (w : World) (a b : Obj) : ((w.alloc a).alloc b).heap[w.heap.size + 1]? = some b := by
  have := alloc_at (w.alloc a) b
  rwa [show (w.alloc a).heap.size = w.heap.size + 1 by simp] at this
theorem alloc_atS (w : World) (p : Addr) (z : Value) (b : Obj) : ((w.setCell p z).alloc b).heap[w.heap.size]? = some b := by
  have := alloc_at (w.setCell p z) b
  rwa [show (w.setCell p z).heap.size = w.heap.size by simp [World.setCell]] at this
theorem below_set {B b : Nat} {a w : World} (h : Below B a w) (hb : B ≤ b) (o : Nat) (u : Value) : Below B a (w.setCell ⟨b, o, none⟩ u) :=
  ⟨h.os, h.tape, h.output, by simpa [World.setCell] using h.size, fun k hk => (Below.heap_setCell _ _ _ _ (show k ≠ b by omega)).trans (h.block k hk)⟩
def ptr0 (b : Nat) : Value := .pointer (some ⟨b, 0, none⟩)
def R6 (w W3 : World) (x y a b : Value) (wx : World) : Prop := ∃ bi bo : Nat, a = .pointer (some ⟨bi, 0, none⟩) ∧ b = .pointer (some ⟨bo, 0, none⟩) ∧ wx.cell? ⟨bi, 0, none⟩ = some x ∧ wx.cell? ⟨bo, 0, none⟩ = some y ∧ Below w.heap.size w wx ∧ Below W3.heap.size W3 wx ∧ W3.heap.size ≤ bi ∧ W3.heap.size ≤ bo
theorem R6_aa {w W3 w2 : World} {x y : Value} {T U : TypeId} (h3 : Below w.heap.size w W3) (h : Below W3.heap.size W3 w2) : R6 w W3 x y (.pointer (some ⟨w2.heap.size, 0, none⟩)) (.pointer (some ⟨w2.heap.size + 1, 0, none⟩)) ((w2.alloc (.cells #[x] T)).alloc (.cells #[y] U)) := by
  have hz := h.size
  have hB : Below W3.heap.size W3 ((w2.alloc (.cells #[x] T)).alloc (.cells #[y] U)) := (h.alloc hz _).alloc (by simp; omega) _
  exact ⟨_, _, rfl, rfl, by rw [blk_cell (blk_alloc (alloc_at w2 _) _)]; rfl, by rw [blk_cell (alloc_at1 w2 _ _)]; rfl, h3.trans (hB.mono h3.size), hB, hz, by omega⟩
theorem R6_bb {w W3 w2 : World} {x y : Value} {T U : TypeId} (h3 : Below w.heap.size w W3) (h : Below W3.heap.size W3 w2) : R6 w W3 x y (.pointer (some ⟨w2.heap.size + 1, 0, none⟩)) (.pointer (some ⟨w2.heap.size, 0, none⟩)) ((w2.alloc (.cells #[y] U)).alloc (.cells #[x] T)) := by
  have hz := h.size
  have hB : Below W3.heap.size W3 ((w2.alloc (.cells #[y] U)).alloc (.cells #[x] T)) := (h.alloc hz _).alloc (by simp; omega) _
  exact ⟨_, _, rfl, rfl, by rw [blk_cell (alloc_at1 w2 _ _)]; rfl, by rw [blk_cell (blk_alloc (alloc_at w2 _) _)]; rfl, h3.trans (hB.mono h3.size), hB, by omega, hz⟩
theorem R6_sa {w W3 w2 : World} {x y z : Value} {T U : TypeId} (h3 : Below w.heap.size w W3) (h : Below W3.heap.size W3 w2) (r0 : w2.heap[W3.heap.size]? = some (.cells #[z] T)) : R6 w W3 x y (.pointer (some ⟨W3.heap.size, 0, none⟩)) (.pointer (some ⟨w2.heap.size, 0, none⟩)) ((w2.setCell ⟨W3.heap.size, 0, none⟩ x).alloc (.cells #[y] U)) := by
  have hz := h.size
  have hB : Below W3.heap.size W3 ((w2.setCell ⟨W3.heap.size, 0, none⟩ x).alloc (.cells #[y] U)) := (below_set h (Nat.le_refl _) 0 _).alloc (by simpa [World.setCell] using hz) _
  exact ⟨_, _, rfl, rfl, by rw [blk_cell (blk_alloc (blk_set r0 0 _) _)]; rfl, by rw [blk_cell (alloc_atS w2 _ _ _)]; rfl, h3.trans (hB.mono h3.size), hB, Nat.le_refl _, hz⟩
theorem R6_sb {w W3 w2 : World} {x y z : Value} {T U : TypeId} (h3 : Below w.heap.size w W3) (h : Below W3.heap.size W3 w2) (r0 : w2.heap[W3.heap.size]? = some (.cells #[z] T)) : R6 w W3 x y (.pointer (some ⟨w2.heap.size, 0, none⟩)) (.pointer (some ⟨W3.heap.size, 0, none⟩)) ((w2.setCell ⟨W3.heap.size, 0, none⟩ y).alloc (.cells #[x] U)) := by
  obtain ⟨bi, bo, h1, h2, h3', h4, h5, h6, h7, h8⟩ := R6_sa (x := y) (y := x) (U := U) h3 h r0
  exact ⟨bo, bi, h2, h1, h4, h3', h5, h6, h8, h7⟩
theorem R6_sc {w W3 w2 : World} {x y z : Value} {T U : TypeId} (h3 : Below w.heap.size w W3) (h : Below W3.heap.size W3 w2) (r0 : w2.heap[W3.heap.size]? = some (.cells #[z] T)) : R6 w W3 x y (.pointer (some ⟨W3.heap.size, 0, none⟩)) (.pointer (some ⟨w2.heap.size, 0, none⟩)) ((w2.alloc (.cells #[y] U)).setCell ⟨W3.heap.size, 0, none⟩ x) := by
  have hz := h.size
  have hlt := blk_lt r0
  have hB : Below W3.heap.size W3 ((w2.alloc (.cells #[y] U)).setCell ⟨W3.heap.size, 0, none⟩ x) := below_set (h.alloc hz _) (Nat.le_refl _) 0 _
  exact ⟨_, _, rfl, rfl, by rw [blk_cell (blk_set (blk_alloc r0 _) 0 _)]; rfl, by rw [blk_cell (blk_set_ne (alloc_at w2 _) _ (show w2.heap.size ≠ W3.heap.size by omega))]; rfl, h3.trans (hB.mono h3.size), hB, Nat.le_refl _, hz⟩
theorem R6_sd {w W3 w2 : World} {x y z : Value} {T U : TypeId} (h3 : Below w.heap.size w W3) (h : Below W3.heap.size W3 w2) (r0 : w2.heap[W3.heap.size]? = some (.cells #[z] T)) : R6 w W3 x y (.pointer (some ⟨w2.heap.size, 0, none⟩)) (.pointer (some ⟨W3.heap.size, 0, none⟩)) ((w2.alloc (.cells #[x] U)).setCell ⟨W3.heap.size, 0, none⟩ y) := by
  obtain ⟨bi, bo, h1, h2, h3', h4, h5, h6, h7, h8⟩ := R6_sc (x := y) (y := x) (U := U) h3 h r0
  exact ⟨bo, bi, h2, h1, h4, h3', h5, h6, h8, h7⟩
theorem R6_ss {w W3 w2 : World} {x y z z' : Value} {T U : TypeId} (h3 : Below w.heap.size w W3) (h : Below W3.heap.size W3 w2) (r0 : w2.heap[W3.heap.size]? = some (.cells #[z] T)) (r4 : w2.heap[W3.heap.size + 1]? = some (.cells #[z'] U)) : R6 w W3 x y (.pointer (some ⟨W3.heap.size, 0, none⟩)) (.pointer (some ⟨W3.heap.size + 1, 0, none⟩)) ((w2.setCell ⟨W3.heap.size, 0, none⟩ x).setCell ⟨W3.heap.size + 1, 0, none⟩ y) := by
  have hz := h.size
  have hB : Below W3.heap.size W3 ((w2.setCell ⟨W3.heap.size, 0, none⟩ x).setCell ⟨W3.heap.size + 1, 0, none⟩ y) := below_set (below_set h (Nat.le_refl _) 0 _) (Nat.le_succ _) 0 _
  exact ⟨_, _, rfl, rfl, by rw [blk_cell (blk_set_ne (blk_set r0 0 _) _ (show W3.heap.size ≠ W3.heap.size + 1 by omega))]; rfl, by rw [blk_cell (blk_set (blk_set_ne r4 _ (show W3.heap.size + 1 ≠ W3.heap.size by omega)) 0 _)]; rfl, h3.trans (hB.mono h3.size), hB, Nat.le_refl _, Nat.le_succ _⟩
theorem R6_st {w W3 w2 : World} {x y z z' : Value} {T U : TypeId} (h3 : Below w.heap.size w W3) (h : Below W3.heap.size W3 w2) (r0 : w2.heap[W3.heap.size]? = some (.cells #[z] T)) (r4 : w2.heap[W3.heap.size + 1]? = some (.cells #[z'] U)) : R6 w W3 x y (.pointer (some ⟨W3.heap.size + 1, 0, none⟩)) (.pointer (some ⟨W3.heap.size, 0, none⟩)) ((w2.setCell ⟨W3.heap.size + 1, 0, none⟩ x).setCell ⟨W3.heap.size, 0, none⟩ y) := by
  have hz := h.size
  have hB : Below W3.heap.size W3 ((w2.setCell ⟨W3.heap.size + 1, 0, none⟩ x).setCell ⟨W3.heap.size, 0, none⟩ y) := below_set (below_set h (Nat.le_succ _) 0 _) (Nat.le_refl _) 0 _
  exact ⟨_, _, rfl, rfl, by rw [blk_cell (blk_set_ne (blk_set r4 0 _) _ (show W3.heap.size + 1 ≠ W3.heap.size by omega))]; rfl, by rw [blk_cell (blk_set (blk_set_ne r0 _ (show W3.heap.size ≠ W3.heap.size + 1 by omega)) 0 _)]; rfl, h3.trans (hB.mono h3.size), hB, Nat.le_succ _, Nat.le_refl _⟩
theorem DkAt.fresh {w : World} {d : Nat} {st : DkSt} {v : Value} (h : DkAt w d st v) {b : Nat} (hb : w.heap.size ≤ b) : b ∉ dkS d v := fun hx => by
  obtain ⟨cs, T, h1, _⟩ := h.types b hx
  have := blk_lt h1
  omega
theorem cell_pastO {w : World} {b g o o' : Nat} {z v : Value} (h : w.cell? ⟨b, o', none⟩ = some v) (hne : b ≠ g) : (w.setCell ⟨g, o, none⟩ z).cell? ⟨b, o', none⟩ = some v :=
  (World.cell?_of_block (w := w) (a := ⟨b, o', none⟩) (Below.heap_setCell _ _ _ _ hne)).trans h
theorem append_go {w w9 : World} {d : Nat} {st : DkSt} {v : Value} (h : DkAt w d st v) (ok : DkOk st) (hfu : st.fuse ≤ 1000000000000) (n : ByteArray) (u : Value) (bs : List UInt8) (hr : RdB w u bs) (hrn : ∀ k, Value.readBlock u = some k → k ∉ dkS d v) (hl : bs.length ≤ 1000000000)
    (hb9 : Below w.heap.size w w9) (b1 b2 b3 b4 b5 : Nat) (h1 : w9.cell? ⟨b1, 0, none⟩ = some (.bool (hasN st.fs n))) (h2 : w9.cell? ⟨b2, 0, none⟩ = some (.pointer (some ⟨d, 0, none⟩))) (h3 : w9.cell? ⟨b3, 0, none⟩ = some (.int .i64 (plc st.fs n))) (h4 : w9.cell? ⟨b4, 0, none⟩ = some (.string n)) (h5 : w9.cell? ⟨b5, 0, none⟩ = some u)
    (y1 : w.heap.size ≤ b1) (y2 : w.heap.size ≤ b2) (y3 : w.heap.size ≤ b3) (y4 : w.heap.size ≤ b4) (y5 : w.heap.size ≤ b5) :
    Calls Tryd.prog 52 #[.pointer (some ⟨d, 0, none⟩), .func (.func 53) #[] #[.pointer (some ⟨b1, 0, none⟩), .pointer (some ⟨b2, 0, none⟩), .pointer (some ⟨b3, 0, none⟩), .pointer (some ⟨b4, 0, none⟩), .pointer (some ⟨b5, 0, none⟩)]] w9 (APost d v (dDeed st (putF st.fs n bs)) w) := by
  have h9 := h.below hb9
  by_cases hz : st.fuse = 0
  · have hq : dDeed st (putF st.fs n bs) = ({ st with fuse := -1, dark := true }, 15) := by unfold dDeed; rw [if_pos hz]
    refine (deed_burnt h9 hz _ _).mono fun e w' hp => ?_
    show DPost _ _ _ _ _ _ _
    rw [hq]
    exact hp.from hb9
  · have hq : dDeed st (putF st.fs n bs) = ({ st with fuse := if 0 < st.fuse then st.fuse - 1 else st.fuse, fs := putF st.fs n bs }, 0) := by unfold dDeed; rw [if_neg hz]
    refine (deed_app h9 hz ok.fuse hfu b1 b2 b3 b4 b5 (DOut d v { st with fuse := if 0 < st.fuse then st.fuse - 1 else st.fuse, fs := putF st.fs n bs } w) ?_).mono ?_
    · intro w1 hd1 hc1
      have hcd : ChgS (dkS d v) w9 w1 := hc1.sub fun x hx => .inl (List.mem_singleton.1 hx ▸ List.mem_cons_self ..)
      have x1 := h.fresh y1
      have x2 := h.fresh y2
      have x3 := h.fresh y3
      have x4 := h.fresh y4
      have x5 := h.fresh y5
      have g1 := hcd.cell h1 x1
      have g2 := hcd.cell h2 x2
      have g3 := hcd.cell h3 x3
      have g4 := hcd.cell h4 x4
      have g5 := hcd.cell h5 x5
      have gr := (hr.below hb9).chgS hcd hrn
      have hm := ok.many
      have hus : usedF st.fs ≤ 1000000000 := by have := ok.used; have := ok.room; omega
      have fin : ∀ (e : Ending) (w' : World), (e = .returned (.tuple #[]) ∧ DOut d v { ({ st with fuse := if 0 < st.fuse then st.fuse - 1 else st.fuse } : DkSt) with fs := putF st.fs n bs } w1 w') → e = .returned (.tuple #[]) ∧ DOut d v { st with fuse := if 0 < st.fuse then st.fuse - 1 else st.fuse, fs := putF st.fs n bs } w w' := by
        rintro e w' ⟨he, v', a1, a2, a3⟩
        refine ⟨he, v', a1, ((ChgS.of_below (S := dkS d v) hb9).trans hcd (fun x hx => .inl hx)).trans a2 (fun x hx => .inl hx), fun k hk => (a3 k hk).imp id fun h => ?_⟩
        exact Nat.le_trans (Nat.le_trans hb9.size hcd.size) h
      cases hh : hasN st.fs n with
      | true =>
        rw [hh] at g1
        exact (append1_has (st := { st with fuse := if 0 < st.fuse then st.fuse - 1 else st.fuse }) hd1 (by show st.fs.length ≤ _; omega) hus b1 b2 b3 b4 b5 n u bs g1 g2 g3 g4 g5 x2 x3 x5 gr hl hh).mono fin
      | false =>
        rw [hh] at g1
        exact (append1_no (st := { st with fuse := if 0 < st.fuse then st.fuse - 1 else st.fuse }) hd1 ok.sorted (by show st.fs.length ≤ _; omega) b1 b2 b3 b4 b5 n u bs g1 g2 g3 g4 g5 x2 x3 x4 x5 gr hrn hl hh).mono fin
    · rintro e w' ⟨rfl, v', a1, a2, a3⟩
      show DPost _ _ _ _ _ _ _
      rw [hq]
      exact ⟨v', rfl, a1, a2, a3⟩
end Go.Proofs.YthehpafkaefohaaDoor

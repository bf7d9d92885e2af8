/- Walks: slices.Delete of a file; the closure that takes a file away. Conditions: sizes a machine can have. -/
import Derived.Test.YthehpafkaefohaaGreatDoorCkM20
import Derived.Test.YthehpafkaefohaaGreatDoorCkM19
import Derived.Deep.RegionLaw
import Derived.Lib.SliceRun
import Derived.Test.YthehpafkaefohaaGreatDoorCkM28
namespace Go.Proofs.YthehpafkaefohaaGreatDoor
open Go.RowKit
theorem setC_chg (g : Nat) {S : List Nat} {a : World} (hg : g ∈ S ∨ a.heap.size ≤ g) : ∀ (vs : List Value) (o : Nat) (w : World), ChgS S a w → ChgS S a (w.setCells g o vs)
  | [], _, _, h => h
  | v :: vs, o, _, h => setC_chg g hg vs (o + 1) _ (h.set hg o v)
theorem setC_blk {g : Nat} {T : TypeId} : ∀ (vs : List Value) (o : Nat) (w : World) (cur : Array Value), w.heap[g]? = some (.cells cur T) → o + vs.length ≤ cur.size →
    ∃ cur' : Array Value, (w.setCells g o vs).heap[g]? = some (.cells cur' T) ∧ cur'.size = cur.size ∧ ∀ i, cur'[i]? = if o ≤ i ∧ i < o + vs.length then vs[i - o]? else cur[i]?
  | [], o, w, cur, h, _ => ⟨cur, h, rfl, fun i => by rw [if_neg (by simp only [List.length_nil]; omega)]⟩
  | v :: vs, o, w, cur, h, hl => by
    simp only [List.length_cons] at hl
    obtain ⟨cur', h1, h2, h3⟩ := setC_blk vs (o + 1) (w.setCell ⟨g, o, none⟩ v) (cur.setIfInBounds o v) (blk_set h o v) (by simp only [Array.size_setIfInBounds]; omega)
    refine ⟨cur', h1, by rw [h2]; simp, fun i => ?_⟩
    rw [h3, Array.getElem?_setIfInBounds]
    simp only [List.length_cons]
    by_cases e : o = i
    · subst e
      rw [if_neg (by omega), if_pos rfl, if_pos (by omega), if_pos (by omega)]
      simp
    · by_cases e2 : o + 1 ≤ i ∧ i < o + 1 + vs.length
      · rw [if_pos e2, if_pos (by omega), show i - o = (i - (o + 1)) + 1 by omega]
        simp
      · rw [if_neg e2, if_neg e, if_neg (by omega)]
def zFs : List Value := [.string ⟨#[]⟩, .slice none 0 0, .int .i64 0]
theorem clear_file (w : World) (ty : TypeId) (g o c : Nat) {cur : Array Value} {T : TypeId} (h : w.heap[g]? = some (.cells cur T)) (hl : o + 3 ≤ cur.size) :
    (Builtin.clear_ #[82] ty #[.slice (some ⟨g, o, none⟩) 1 c]).run Tryz.prog w = .ok (.tuple #[]) (w.setCells g o zFs) := by
  have hv : (zeroValue 115).run Tryz.prog w = .ok (.agg #[.string ⟨#[]⟩, .slice none 0 0, .int .i64 0]) w := by kernel_rfl
  have hzc : (Builtin.zeroCells (Value.agg #[.string ⟨#[]⟩, .slice none 0 0, .int .i64 0]).cells 1).toList = zFs := by kernel_rfl
  have hst := run_storeCells_cells (P := Tryz.prog) g o zFs 0 w (fun j hj => by
    have hj : j < 3 := hj
    rw [Nat.add_zero, blk_cell h, Array.getElem?_eq_getElem (show o + j < cur.size by omega)]
    rfl) (fun j _ => by rw [Nat.add_zero]; exact blk_free h _) (by intro v hv'; simp [zFs] at hv'; rcases hv' with rfl | rfl | rfl <;> rfl)
  simp only [Nat.add_zero] at hst
  simp [Builtin.clear_, run_underlying elF.ut, hv, hzc, hst]
/-- a row without one of its elements -/
theorem LOwn.del {α : Type} {T : TypeId} {m : Mv α} (hm : m.Lawful) {base : Nat} {w w' : World} {g c : Nat} {xs : List α} {i : Nat} (h : LOwn T m base w (.slice (some ⟨g, 0, none⟩) xs.length c) xs) (hi : i < xs.length) (hs : Stay m.ts w w')
    {cur cur' : Array Value} (hh : w.heap[g]? = some (.cells cur T)) (hh' : w'.heap[g]? = some (.cells cur' T)) (hsz : cur'.size = cur.size) (hc : ∀ j, j < (xs.length - 1) * m.n → cur'[j]? = if j < i * m.n then cur[j]? else cur[j + m.n]?) :
    LOwn T m base w' (.slice (some ⟨g, 0, none⟩) (xs.length - 1) c) (xs.eraseIdx i) := by
  obtain ⟨cells, ho, he⟩ := h
  have hcl := ho.1
  rcases ho.2 with ⟨h9, _⟩ | ⟨g', cap, cur2, h1, hb, hh2, h3, h4, h5, h6⟩
  · cases h9
  · injection h1 with h1 h8 h7
    injection h1 with h1
    injection h1 with h1
    subst h1; subst h7
    rw [hh] at hh2
    injection hh2 with hh2
    injection hh2 with hh2 _
    subst hh2
    have hn1 : (xs.length - 1) * m.n + m.n = xs.length * m.n := by
      have : (xs.length - 1 + 1) * m.n = xs.length * m.n := by rw [show xs.length - 1 + 1 = xs.length by omega]
      rw [Nat.add_mul, Nat.one_mul] at this
      exact this
    have hcg : ∀ j, j < xs.length * m.n → cells[j]? = cur[j]? := fun j hj => by
      rw [← h6, List.getElem?_take, if_pos hj, Array.getElem?_toList]
    have hcs : xs.length * m.n ≤ cur.size := by rw [h5]; exact Nat.mul_le_mul_right _ h3
    refine ⟨cur'.toList.take ((xs.length - 1) * m.n), ⟨by rw [List.length_take, List.length_eraseIdx_of_lt hi, show cur'.toList.length = cur'.size from rfl, hsz]; exact Nat.min_eq_left (by omega), .inr ⟨g, c, cur', by rw [List.length_eraseIdx_of_lt hi], hb, hh', by rw [List.length_eraseIdx_of_lt hi]; omega, h4, by rw [hsz, h5], by rw [List.length_eraseIdx_of_lt hi]⟩⟩, fun j x hj => ?_⟩
    have hjl : j < xs.length - 1 := by
      have := (List.getElem?_eq_some_iff.1 hj).1
      rw [List.length_eraseIdx_of_lt hi] at this
      exact this
    rw [List.getElem?_eraseIdx] at hj
    have hmul : j * m.n + m.n ≤ (xs.length - 1) * m.n := by
      have : (j + 1) * m.n ≤ (xs.length - 1) * m.n := Nat.mul_le_mul_right _ hjl
      rwa [Nat.add_mul, Nat.one_mul] at this
    have hseg : ((cur'.toList.take ((xs.length - 1) * m.n)).drop (j * m.n)).take m.n = if j < i then (cells.drop (j * m.n)).take m.n else (cells.drop ((j + 1) * m.n)).take m.n := by
      apply List.ext_getElem?
      intro q
      by_cases hq : q < m.n
      · rw [List.getElem?_take, if_pos hq, List.getElem?_drop, List.getElem?_take, if_pos (by omega), Array.getElem?_toList, hc _ (by omega)]
        by_cases hji : j < i
        · have : (j + 1) * m.n ≤ i * m.n := Nat.mul_le_mul_right _ hji
          rw [Nat.add_mul, Nat.one_mul] at this
          rw [if_pos (by omega), if_pos hji, List.getElem?_take, if_pos hq, List.getElem?_drop, hcg _ (by omega)]
        · have : i * m.n ≤ j * m.n := Nat.mul_le_mul_right _ (by omega)
          rw [if_neg (by omega), if_neg hji, List.getElem?_take, if_pos hq, List.getElem?_drop, hcg _ (by rw [Nat.add_mul, Nat.one_mul]; omega), Nat.add_mul, Nat.one_mul]
          congr 1
          omega
      · rw [List.getElem?_take, if_neg hq]
        split <;> rw [List.getElem?_take, if_neg hq]
    rw [hseg]
    split at hj
    · rename_i hji
      rw [if_pos hji]
      exact hm.okeep (he j x hj) hs
    · rename_i hji
      rw [if_neg hji]
      exact hm.okeep (he (j + 1) x hj) hs
set_option maxRecDepth 20000 in
set_option maxHeartbeats 2000000 in
theorem delete_any (g c i : Nat) (fs : List DF) (w : World) (h : LOwn 115 mFl 0 w (.slice (some ⟨g, 0, none⟩) fs.length c) fs) (hi : i < fs.length) (hsz : fs.length ≤ 1000000) :
    Calls Tryz.prog 123 #[.slice (some ⟨g, 0, none⟩) fs.length c, .int .i64 i, .int .i64 ((i : Int) + 1)] w fun e w' => e = .returned (.slice (some ⟨g, 0, none⟩) (fs.length - 1) c) ∧ LOwn 115 mFl 0 w' (.slice (some ⟨g, 0, none⟩) (fs.length - 1) c) (fs.eraseIdx i) ∧ ChgS [g] w w' := by
  obtain ⟨i0, hi0, hz0, hz1, hz2⟩ := info_parts elF.info
  obtain ⟨x, hx⟩ : ∃ x, fs[i]? = some x := ⟨_, List.getElem?_eq_getElem hi⟩
  obtain ⟨g', c', cur, us, hv, hh, h3, h4, _, _⟩ := h.elem hx
  injection hv with hv1 hv2 hv3
  injection hv1 with hv1
  injection hv1 with hv1
  subst hv1; subst hv3
  have hcur : cur.size = c * 3 := by
    obtain ⟨cells, ho, _⟩ := h
    rcases ho.2 with ⟨h9, _⟩ | ⟨g', cap, cur2, h1, hb, hh2, _, _, h5, _⟩
    · cases h9
    · injection h1 with h1 h8 h7
      injection h1 with h1
      injection h1 with h1
      subst h1; subst h7
      rw [hh] at hh2
      injection hh2 with hh2
      injection hh2 with hh2 _
      subst hh2
      exact h5
  obtain ⟨N, hN⟩ : ∃ N, fs.length = N := ⟨_, rfl⟩
  rw [hN] at hi hsz h3 hv2
  obtain ⟨news, hnews⟩ : ∃ news, news = (cur.toList.drop ((i + 1) * 3)).take ((N - (i + 1)) * 3) := ⟨_, rfl⟩
  have hnl : news.length = (N - (i + 1)) * 3 := by rw [hnews, List.length_take, List.length_drop, Array.length_toList, hcur]; omega
  have hng : ∀ j u, news[j]? = some u → cur[(i + 1) * 3 + j]? = some u := fun j u hu => by
    rw [hnews, List.getElem?_take] at hu
    split at hu
    · rw [List.getElem?_drop, Array.getElem?_toList] at hu
      exact hu
    · cases hu
  have hgn : ∀ j, j < (N - (i + 1)) * 3 → news[j]? = cur[(i + 1) * 3 + j]? := fun j hj => by
    rw [hnews, List.getElem?_take, if_pos hj, List.getElem?_drop, Array.getElem?_toList]
  obtain ⟨A, hA, hsrc⟩ : ∃ A : Addr, (if c = i + 1 then some (⟨g, 0, none⟩ : Addr) else some ⟨g, (i + 1) * 3, none⟩) = some A ∧ Hid (∀ t u, news[t]? = some u → w.drew.cell? (A.add t) = some u) := by
    by_cases hc : c = i + 1
    · refine ⟨⟨g, 0, none⟩, by simp [hc], fun t u hu => ?_⟩
      have := (List.getElem?_eq_some_iff.1 hu).1
      omega
    · refine ⟨⟨g, (i + 1) * 3, none⟩, by simp [hc], fun t u hu => ?_⟩
      rw [Addr.add_lit]
      show w.cell? _ = _
      rw [blk_cell hh]
      exact hng t u hu
  have HP : Hid (LOwn 115 mFl 0 ((w.drew.setCells g (0 + i * 3) news).setCells g ((N - 1) * 3) zFs) (.slice (some ⟨g, 0, none⟩) (N - 1) c) (fs.eraseIdx i) ∧ ChgS [g] w ((w.drew.setCells g (0 + i * 3) news).setCells g ((N - 1) * 3) zFs)) := by
    have hch : ChgS [g] w ((w.drew.setCells g (0 + i * 3) news).setCells g ((N - 1) * 3) zFs) := setC_chg g (.inl (by simp)) _ _ _ (setC_chg g (.inl (by simp)) _ _ _ ((ChgS.refl [g] w).drewN 1))
    refine ⟨?_, hch⟩
    obtain ⟨cur1, a1, a2, a3⟩ := setC_blk news (0 + i * 3) w.drew cur hh (by omega)
    obtain ⟨cur2, b1, b2, b3⟩ := setC_blk zFs ((N - 1) * 3) (w.drew.setCells g (0 + i * 3) news) cur1 a1 (by
      show (N - 1) * 3 + 3 ≤ _
      omega)
    have hst : Stay mFl.ts w ((w.drew.setCells g (0 + i * 3) news).setCells g ((N - 1) * 3) zFs) := hch.stay fun x hx cs T fr hxx hT => by
      have hx : x = g := by simpa using hx
      subst hx
      rw [hh] at hxx
      injection hxx with hxx
      injection hxx with _ hxx
      subst hxx
      exact absurd hT (by decide)
    have := LOwn.del (i := i) mFl_law h (by omega) hst hh b1 (by omega) (fun j hj => by
      have hj : j < (fs.length - 1) * 3 := hj
      rw [hN] at hj
      rw [b3, if_neg (by omega), a3]
      show _ = if j < i * 3 then cur[j]? else cur[j + 3]?
      by_cases hji : j < i * 3
      · rw [if_pos hji, if_neg (by omega)]
      · rw [if_neg hji, if_pos (by omega), hgn _ (by omega)]
        congr 1
        omega)
    rw [hN] at this
    exact this
  have s1 : Hid (news.length = (N - (i + 1)) * 3) := hnl
  have s2 : Hid (∀ u ∈ news, u.oneCell' = true) := by
    intro u hu
    obtain ⟨j, hj⟩ := List.getElem?_of_mem hu
    have hjl := (List.getElem?_eq_some_iff.1 hj).1
    have hj2 := hng j u hj
    obtain ⟨cells, ho, he⟩ := h
    have hone := cells_one mFl_law ho.1 he
    rcases ho.2 with ⟨h9, _⟩ | ⟨g', cap, cur2, h1, hb, hh2, _, _, h5, h6⟩
    · cases h9
    · injection h1 with h1 h8 h7
      injection h1 with h1
      injection h1 with h1
      subst h1; subst h7
      rw [hh] at hh2
      injection hh2 with hh2
      injection hh2 with hh2 _
      subst hh2
      refine hone u ?_
      refine List.mem_of_getElem? (i := (i + 1) * 3 + j) ?_
      rw [← h6, List.getElem?_take, if_pos (by rw [hN]; show _ < N * 3; omega), Array.getElem?_toList]
      exact hj2
  have s3 : Hid (∀ t, t < news.length → (w.drew.cell? ⟨g, 0 + i * 3 + t, none⟩).isSome = true ∧ w.drew.frozen? ⟨g, 0 + i * 3 + t, none⟩ = false) := by
    intro t ht
    rw [hnl] at ht
    refine ⟨?_, blk_free (w := w.drew) hh _⟩
    rw [blk_cell (w := w.drew) hh, Array.getElem?_eq_getElem (show 0 + i * 3 + t < cur.size by omega)]
    rfl
  obtain ⟨W1, hW1⟩ : ∃ W1, W1 = w.drew.setCells g (0 + i * 3) news := ⟨_, rfl⟩
  have hcl : ∀ ty, (Builtin.clear_ #[82] ty #[.slice (some ⟨g, (i + (N - (i + 1))) * 3, none⟩) (N - (i + (N - (i + 1)))) (c - (i + (N - (i + 1))))]).run Tryz.prog W1 = .ok (.tuple #[]) (W1.setCells g ((N - 1) * 3) zFs) := fun ty => by
    obtain ⟨cur1, a1, a2, a3⟩ := setC_blk news (0 + i * 3) w.drew cur hh (by omega)
    rw [hW1, show i + (N - (i + 1)) = N - 1 by omega, show N - (N - 1) = 1 by omega]
    exact clear_file _ ty g _ _ a1 (by omega)
  have hW : Hid (W1 = w.drew.setCells g (0 + i * 3) news) := hW1
  rw [← hW1] at HP
  have HN := Lib.hid hN
  rw [hN]
  have e1 : (i : Int) + 1 ≤ N := by omega
  have e2 : (0 : Int) ≤ (i : Int) + 1 := by omega
  have e3 : ((i : Int) + 1).toNat = i + 1 := by omega
  have e4 : ¬ ((i : Int) == (i : Int) + 1) = true := by simp; omega
  have e5 : ((i : Int) == (i : Int) + 1) = false := by simp; omega
  have hic : i ≤ c := by omega
  have hNc : N ≤ c := h3
  have hiN : i ≤ N := by omega
  clear hW1 h hx hh hcur hnews hnl hng hgn hN hv2 h3
  go_enter Tryz.func123, Tryz.ntmps123
  go_wp2_with fail
  go_region_law (refine step_append_room rfl (.tmp 22) (.tmp 25) 82 rfl 115 i0 3 elF.ut hi0 hz1 g 0 i c (by simp [Act.eval, Act.put]) A (N - (i + 1)) (c - (i + 1)) news (by simp [Act.eval, Act.put]) s1.out hsrc.out s2.out (by omega) s3.out ?_; rw [← hW.out])
  go_wp2
  refine bodyPost_ret (v := .slice (some ⟨g, 0, none⟩) (i + (N - (i + 1))) c) (by simp [results]) rfl ?_
  rw [show i + (N - (i + 1)) = N - 1 by omega]
  exact ⟨rfl, HP.out⟩
/-- a file less in the row -/
theorem DkAt.set_del {w w5 : World} {d : Nat} {st : DkSt} {g c p N : Nat} (h : DkAt w d st (.slice (some ⟨g, 0, none⟩) N c)) (hc : ChgS [g] w w5) (ho : LOwn 115 mFl 0 w5 (.slice (some ⟨g, 0, none⟩) (N - 1) c) (st.fs.eraseIdx p)) :
    DOut d (.slice (some ⟨g, 0, none⟩) N c) { st with fs := st.fs.eraseIdx p } w (w5.setCell ⟨d, 0, none⟩ (.slice (some ⟨g, 0, none⟩) (N - 1) c)) := by
  have hgd : g ≠ d := h.d_ne g rfl
  have hb : w5.heap[d]? = w.heap[d]? := hc.block d (blk_lt h.blk) (by simpa using hgd.symm)
  refine ⟨_, h.set_fs hb ho (fun k hk => ?_), ?_, fun k hk => .inl hk⟩
  · have : g = k := by simpa [Value.ownBlock] using hk
    rw [← this]; exact hgd
  · exact (hc.sub (U := dkS d (.slice (some ⟨g, 0, none⟩) N c)) fun x hx => .inl (by
      have : x = g := by simpa using hx
      rw [this]; simp [dkS, Value.ownBlock])).setD (by simp [dkS]) 0 _
set_option maxRecDepth 20000 in
set_option maxHeartbeats 2000000 in
theorem remove1_any {w : World} {d : Nat} {st : DkSt} {v : Value} (h : DkAt w d st v) (hm : st.fs.length ≤ 1000000) (bd p : Nat) (f : DF) (hf : st.fs[p]? = some f) (hd : w.cell? ⟨bd, 0, none⟩ = some (.pointer (some ⟨d, 0, none⟩))) (xd : bd ∉ dkS d v) :
    Calls Tryz.prog 122 #[.int .i64 p, .pointer (some ⟨bd, 0, none⟩)] w fun e w' => e = .returned (.tuple #[]) ∧ DOut d v { st with fs := st.fs.eraseIdx p } w w' := by
  obtain ⟨g, c, u1, rfl, _, _, _, _, csg, hcsg⟩ := file_at h.own hf
  have hpl := (List.getElem?_eq_some_iff.1 hf).1
  have hdr : Below w.heap.size w w.drew := (Below.refl _ _).drew
  have HC := Lib.hid (delete_any g c p st.fs w.drew (h.below hdr).own hpl hm)
  obtain ⟨N, hN⟩ : ∃ N, st.fs.length = N := ⟨_, rfl⟩
  rw [hN] at HC
  obtain ⟨q0, _, _, _, _⟩ := h.cells
  have f0 := blk_free h.blk 0
  rw [hN] at q0 h xd
  have HD := Lib.hid h
  have n1 : bd ≠ g := fun e => xd (by rw [e]; simp [dkS, Value.ownBlock])
  have n2 : d ≠ g := fun e => h.d_ne g rfl e.symm
  have e1 : IntKind.i64.wrap ((p : Int) + 1) = (p : Int) + 1 := by rw [IntKind.wrap_i64]; omega
  clear h hf xd hcsg hpl hm hdr hN
  go_enter Tryz.func122, Tryz.ntmps122
  refine wp_region_last (fun w' => w'.cell? ⟨bd, 0, none⟩ = some (.pointer (some ⟨d, 0, none⟩)) ∧ w'.cell? ⟨d, 0, none⟩ = some (.slice (some ⟨g, 0, none⟩) N c)) 11 (by kernel_rfl) (by kernel_rfl) ⟨hd, q0⟩ (fun hHeld => ?_)
  refine takeL (i := 0) (v := ?_) rfl (by kernel_rfl) (by kernel_rfl) (by kernel_rfl) (fun _ _ _ h => h) (.inl ⟨by rfl, ?_⟩) (by assumption) ?_
  rotate_left
  · (intro w hSw; (try dsimp only at hSw); go_simp; (first | done | with_reducible rfl))
  try simp only [Act.put, List.setIfInBounds_toArray, List.set_cons_zero, List.set_cons_succ]
  refine takeL (i := 1) (v := ?_) rfl (by kernel_rfl) (by kernel_rfl) (by kernel_rfl) (fun _ _ _ h => h) (.inl ⟨by rfl, ?_⟩) (by assumption) ?_
  rotate_left
  · (intro w hSw; (try dsimp only at hSw); go_simp; (first | done | with_reducible rfl))
  try simp only [Act.put, List.setIfInBounds_toArray, List.set_cons_zero, List.set_cons_succ]
  refine takeL (i := 2) (v := ?_) rfl (by kernel_rfl) (by kernel_rfl) (by kernel_rfl) (fun _ _ _ h => h) (.inl ⟨by rfl, ?_⟩) (by assumption) ?_
  rotate_left
  · (intro w hSw; (try dsimp only at hSw); go_simp; (first | done | with_reducible rfl))
  try simp only [Act.put, List.setIfInBounds_toArray, List.set_cons_zero, List.set_cons_succ]
  refine takeL (i := 3) (v := ?_) rfl (by kernel_rfl) (by kernel_rfl) (by kernel_rfl) (fun _ _ _ h => h) (.inl ⟨by rfl, ?_⟩) (by assumption) ?_
  rotate_left
  · (intro w hSw; (try dsimp only at hSw); go_simp; (first | done | with_reducible rfl))
  try simp only [Act.put, List.setIfInBounds_toArray, List.set_cons_zero, List.set_cons_succ]
  refine takeL (i := 4) (v := ?_) rfl (by kernel_rfl) (by kernel_rfl) (by kernel_rfl) (fun _ _ _ h => h) (.inl ⟨by rfl, ?_⟩) (by assumption) ?_
  rotate_left
  · (intro w hSw; (try dsimp only at hSw); go_simp; (first | done | with_reducible rfl))
  try simp only [Act.put, List.setIfInBounds_toArray, List.set_cons_zero, List.set_cons_succ]
  refine takeL (i := 5) (v := ?_) rfl (by kernel_rfl) (by kernel_rfl) (by kernel_rfl) (fun _ _ _ h => h) (.inl ⟨by rfl, ?_⟩) (by assumption) ?_
  rotate_left
  · (intro w hSw; (try dsimp only at hSw); go_simp; (first | done | with_reducible rfl))
  try simp only [Act.put, List.setIfInBounds_toArray, List.set_cons_zero, List.set_cons_succ]
  refine takeL (i := 6) (v := ?_) rfl (by kernel_rfl) (by kernel_rfl) (by kernel_rfl) (fun _ _ _ h => h) (.inl ⟨by rfl, ?_⟩) (by assumption) ?_
  rotate_left
  · (intro w hSw; (try dsimp only at hSw); go_simp; (first | done | with_reducible rfl))
  try simp only [Act.put, List.setIfInBounds_toArray, List.set_cons_zero, List.set_cons_succ]
  refine takeL (i := 7) (v := ?_) rfl (by kernel_rfl) (by kernel_rfl) (by kernel_rfl) (fun _ _ _ h => h) (.inl ⟨by rfl, ?_⟩) (by assumption) ?_
  rotate_left
  · (intro w hSw; (try dsimp only at hSw); go_simp; (first | done | with_reducible rfl))
  try simp only [Act.put, List.setIfInBounds_toArray, List.set_cons_zero, List.set_cons_succ]
  refine stepL (i := 8) rfl (by kernel_rfl) (fun K hK => ?_)
  go_simp
  go_at_call 123
  refine HC.out.mono ?_
  rintro e w5 ⟨rfl, ho, hc⟩
  have HO5 := Lib.hid ho
  have HC5 := Lib.hid hc
  have hd5 := hc.cell hd (by simpa using n1)
  have q5 := hc.cell q0 (by simpa using n2)
  have f5 : w5.frozen? ⟨d, 0, none⟩ = false := by rw [World.frozen?_of_block (w := w) (a := ⟨d, 0, none⟩) (hc.block d (blk_lt HD.out.blk) (by simpa using n2))]; exact f0
  clear ho hc
  go_wp2_with fail
  refine hK.out _ _ ⟨hd5, q5⟩ (fun hHeld => ?_)
  clear hK K
  try simp only [Act.put, List.setIfInBounds_toArray, List.set_cons_zero, List.set_cons_succ]
  refine takeL (i := 9) (v := ?_) rfl (by kernel_rfl) (by kernel_rfl) (by kernel_rfl) (fun _ _ _ h => h) (.inl ⟨by rfl, ?_⟩) (by assumption) ?_
  rotate_left
  · (intro w hSw; (try dsimp only at hSw); go_simp; (first | done | with_reducible rfl))
  try simp only [Act.put, List.setIfInBounds_toArray, List.set_cons_zero, List.set_cons_succ]
  refine takeL (i := 10) (v := ?_) rfl (by kernel_rfl) (by kernel_rfl) (by kernel_rfl) (fun _ _ _ h => h) (.inl ⟨by rfl, ?_⟩) (by assumption) ?_
  rotate_left
  · (intro w hSw; (try dsimp only at hSw); go_simp; (first | done | with_reducible rfl))
  try simp only [Act.put, List.setIfInBounds_toArray, List.set_cons_zero, List.set_cons_succ]
  refine wpAnyH_done (by kernel_rfl) ?_ _
  refine doneL rfl (fun K hK => ?_)
  go_simp
  refine hK.out _ _ ?_
  clear hK K hHeld
  go_wp2_with fail
  refine bodyPost_end (v := .tuple #[]) (by simp [results]) rfl ⟨rfl, ?_⟩
  exact HD.out.set_del (((ChgS.refl [g] w).drewN 1).trans HC5.out (fun x hx => .inl hx)) HO5.out
end Go.Proofs.YthehpafkaefohaaGreatDoor

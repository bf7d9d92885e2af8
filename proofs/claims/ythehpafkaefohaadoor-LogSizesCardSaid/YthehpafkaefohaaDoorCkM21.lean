/- Walks: a log's small methods. Conditions: sizes a machine can have. -/
import Derived.Test.YthehpafkaefohaaDoorCkLgD10
import Derived.Test.YthehpafkaefohaaDoorCkM20
import Derived.Test.YthehpafkaefohaaDoorCkLgN1
import Derived.Deep.Upon
namespace Go.Proofs.YthehpafkaefohaaDoor
open Go.RowKit
def LStep (d l : Nat) (S : List Nat) (dk' : DkSt) (lg' : LgSt) (w w' : World) : Prop := ∃ S', LB w' d l dk' lg' S' ∧ Nx S w w' S'
theorem LStep.refl {d l : Nat} {S : List Nat} {dk : DkSt} {lg : LgSt} {w : World} (h : LB w d l dk lg S) : LStep d l S dk lg w w := ⟨S, h, Nx.refl _ _⟩
theorem LStep.below {d l : Nat} {S : List Nat} {dk : DkSt} {lg : LgSt} {w w1 w2 : World} (h : LStep d l S dk lg w w1) (hb : Below w1.heap.size w1 w2) : LStep d l S dk lg w w2 := by
  obtain ⟨S', h1, h2⟩ := h
  exact ⟨S', h1.below hb, h2.below hb⟩
theorem LStep.from {d l : Nat} {S : List Nat} {dk : DkSt} {lg : LgSt} {w w1 w2 : World} (hb : Below w.heap.size w w1) (h : LStep d l S dk lg w1 w2) : LStep d l S dk lg w w2 := by
  obtain ⟨S', h1, h2⟩ := h
  exact ⟨S', h1, (Nx.refl S w).below hb |>.trans h2⟩
theorem LB.set {d l : Nat} {S : List Nat} {dk : DkSt} {lg lg' : LgSt} {w : World} (h : LB w d l dk lg S) {o : Nat} {z : Value} (hs : ∀ u, LgAt w l d lg u → LgAt (w.setCell ⟨l, o, none⟩ z) l d lg' u) : LB (w.setCell ⟨l, o, none⟩ z) d l dk lg' S ∧ Nx S w (w.setCell ⟨l, o, none⟩ z) S := by
  obtain ⟨v, u, h1, h2, rfl⟩ := h
  refine ⟨⟨v, u, h1.keepL h2 ((ChgS.refl _ w).set (.inl (by simp)) o z), hs u h2, rfl⟩, (ChgS.refl _ w).set (.inl (by simp)) o z, fun x hx => .inl hx⟩
theorem LStep.over {d l : Nat} {S : List Nat} {dk : DkSt} {lg : LgSt} {w w1 : World} (h : LStep d l S dk lg w w1) : LStep d l S dk { lg with over := true } w (w1.setCell ⟨l, 5, none⟩ (.bool true)) := by
  obtain ⟨S', h1, h2⟩ := h
  obtain ⟨a, b⟩ := h1.set (fun u hu => hu.set_over true)
  exact ⟨S', a, h2.trans b⟩
theorem LB.cells {d l : Nat} {S : List Nat} {dk : DkSt} {lg : LgSt} {w : World} (h : LB w d l dk lg S) : ∃ u, w.heap[l]? = some (.cells #[.pointer (some ⟨d, 0, none⟩), .int .i64 lg.size, u, .int .i64 lg.last, .int .i64 lg.acked, .bool lg.over] 56) ∧ FsAt w u lg.firsts := by
  obtain ⟨v, u, h1, h2, rfl⟩ := h
  exact ⟨u, h2.blk, h2.own⟩
/-- a block of another type is none of the disk's and the log's -/
theorem LB.out {d l : Nat} {S : List Nat} {dk : DkSt} {lg : LgSt} {w : World} (h : LB w d l dk lg S) {b : Nat} {cs : Array Value} {T : TypeId} (hb : w.heap[b]? = some (.cells cs T)) (hT : T ≠ 52 ∧ T ≠ 58 ∧ T ≠ 56 ∧ T ≠ 3) : b ∉ S := fun hx => by
  obtain ⟨v, u, h1, h2, rfl⟩ := h
  rcases List.mem_append.1 hx with hx | hx
  · exact h1.box hb ⟨hT.1, hT.2.1⟩ hx
  · obtain ⟨cs2, T2, h3, h4⟩ := h2.types b hx
    rw [hb] at h3
    injection h3 with h3
    injection h3 with _ h3
    subst h3
    rcases h4 with h4 | h4
    · exact hT.2.2.1 h4
    · exact hT.2.2.2 h4
theorem LB.fresh {d l : Nat} {S : List Nat} {dk : DkSt} {lg : LgSt} {w : World} (h : LB w d l dk lg S) {b : Nat} (hb : w.heap.size ≤ b) : b ∉ S := fun hx => by
  have := h.lt b hx
  omega
def upE (lg : LgSt) : Int := if lg.over = true then 17 else 0
set_option maxRecDepth 20000 in
set_option maxHeartbeats 1000000 in
theorem up_any {w : World} {d l : Nat} {S : List Nat} {dk : DkSt} {lg : LgSt} (h : LB w d l dk lg S) : Calls Tryd.prog 20 #[.pointer (some ⟨l, 0, none⟩)] w fun e w' => e = .returned (.int .i64 (upE lg)) ∧ w = w' := by
  obtain ⟨u, hb, _⟩ := h.cells
  have c0 := blk_cell hb 0
  have c5 := blk_cell hb 5
  simp at c0 c5
  unfold upE
  cases ho : lg.over with
  | true =>
    rw [ho] at c5
    clear h hb ho
    go_enter Tryd.func20, Tryd.ntmps20
    go_wp2
    go_ret
    exact ⟨rfl, rfl⟩
  | false =>
    rw [ho] at c5
    clear h hb ho
    go_enter Tryd.func20, Tryd.ntmps20
    go_wp2
    go_ret
    exact ⟨rfl, rfl⟩
set_option maxRecDepth 20000 in
set_option maxHeartbeats 1000000 in
theorem file_any {w : World} {d l : Nat} {S : List Nat} {dk : DkSt} {lg : LgSt} (h : LB w d l dk lg S) (hg : GB S w) (hne : lg.firsts ≠ []) : Calls Tryd.prog 22 #[.pointer (some ⟨l, 0, none⟩)] w fun e w' => e = .returned (.string (fileL lg)) ∧ Below w.heap.size w w' := by
  obtain ⟨u, hb, ho⟩ := h.cells
  have hpos : 0 < lg.firsts.length := List.length_pos_iff.2 hne
  have hlast : lg.firsts[lg.firsts.length - 1]? = some (lastN lg.firsts) := by
    unfold lastN
    rw [List.getLastD_eq_getLast?, ← List.getLast?_eq_getElem?]
    cases hq : lg.firsts.getLast? with
    | none => rw [List.getLast?_eq_none_iff] at hq; exact absurd hq hne
    | some x => rfl
  obtain ⟨g, og, c, rfl, d0, hgl, _, _⟩ := first_at ho hlast
  have hgk := hg.gok
  have HC := Lib.hid (fun w2 (hb2 : Below w.heap.size w w2) => name_any (lastN lg.firsts) w2 (hgk.below hb2))
  have hmax := ho.len
  unfold fileL
  obtain ⟨x, hx⟩ : ∃ x, lastN lg.firsts = x := ⟨_, rfl⟩
  rw [hx] at HC d0 ⊢
  obtain ⟨N, hN⟩ : ∃ N, lg.firsts.length = N := ⟨_, rfl⟩
  rw [hN] at hpos d0 hb hmax
  have c2 := blk_cell hb 2
  simp at c2
  obtain ⟨K, rfl⟩ : ∃ K, N = K + 1 := ⟨N - 1, by omega⟩
  rw [Nat.add_sub_cancel] at d0
  have e3 : IntKind.i64.wrap (K : Int) = (K : Int) := by rw [IntKind.wrap_i64]; simp only [maxLen] at hmax; omega
  have e2 : (K : Int) < (K : Int) + 1 := by omega
  have e5 : (0 : Int) ≤ (K : Int) := by omega
  have HB0 := Lib.hid (Below.refl w.heap.size w)
  clear h hg hne ho hlast hgl hgk hx hN hb
  go_enter Tryd.func22, Tryd.ntmps22
  go_upto_region 1 with fail
  go_region_held3 (fun w' => w'.cell? ⟨l, 2, none⟩ = some (.slice (some ⟨g, og, none⟩) (K + 1) c) ∧ w'.cell? ⟨g, og + K, none⟩ = some (.int .i64 x))
    (first | exact ⟨c2, d0⟩ | exact ⟨cell_later HB5.out c2, cell_later HB5.out d0⟩ | go_keep)
    (first | (go_at_call 12; refine (HC.out _ HB0.out.drew).mono ?_; rintro e w5 ⟨rfl, hb⟩; have HB5 : Hid (Below w.heap.size w w5) := Lib.hid (drewN_start (w := w) (q := 1) hb); clear hb))
  all_goals (
    go_wp2_with fail
    exact bodyPost_ret (v := .string (nameL x)) (by simp [results]) rfl ⟨rfl, HB5.out⟩)
end Go.Proofs.YthehpafkaefohaaDoor
namespace Go.Proofs.YthehpafkaefohaaDoor
open Go.RowKit
theorem GB.below {S : List Nat} {w w2 : World} (h : GB S w) (hb : Below w.heap.size w w2) : GB S w2 := by
  obtain ⟨w0, h1, h2, h3⟩ := h
  exact ⟨w0, h1, h2.trans (hb.mono h2.size), h3⟩
theorem GB.nx {S S' : List Nat} {w w2 : World} (h : GB S w) (hn : Nx S w w2 S') : GB S' w2 := by
  obtain ⟨w0, h1, h2, h3⟩ := h
  refine ⟨w0, h1, h2.trans ⟨hn.chg.os, hn.chg.tape, hn.chg.output, Nat.le_trans h2.size hn.chg.size |> fun h => hn.chg.size, fun k hk => hn.chg.block k (Nat.lt_of_lt_of_le hk h2.size) (fun hm => ?_)⟩, fun x hx => ?_⟩
  · have := h3 k hm
    omega
  · rcases hn.sub x hx with h4 | h4
    · exact h3 x h4
    · exact Nat.le_trans h2.size h4
theorem disk_step {w w2 w' : World} {d l : Nat} {dk dk' : DkSt} {lg : LgSt} {v u : Value} {r : Int} {e : Ending} (h1 : DkAt w d dk v) (h2 : LgAt w l d lg u) (hb : Below w.heap.size w w2) (hp : DPost d v dk' r w2 e w') : e = .returned (.int .i64 r) ∧ LStep d l (dkS d v ++ (l :: u.ownBlock.toList)) dk' lg w w' := by
  obtain ⟨v', he, hd, hc, hn⟩ := hp
  refine ⟨he, dkS d v' ++ (l :: u.ownBlock.toList), ⟨v', u, hd, (h2.below hb).keepD (h1.below hb) hc, rfl⟩, ?_, ?_⟩
  · exact (ChgS.of_below (S := dkS d v ++ (l :: u.ownBlock.toList)) hb).trans hc (fun x hx => .inl (List.mem_append_left _ hx))
  · intro x hx
    rcases List.mem_append.1 hx with hx | hx
    · rcases dkS_sub hn x hx with h3 | h3
      · exact .inl (List.mem_append_left _ h3)
      · exact .inr (Nat.le_trans hb.size h3)
    · exact .inl (List.mem_append_right _ hx)
def SPostL (d l : Nat) (S : List Nat) (r : DkSt × Int) (lg : LgSt) (w : World) (e : Ending) (w' : World) : Prop := e = .returned (.int .i64 r.2) ∧ LStep d l S r.1 lg w w'
theorem sync_step {w w2 : World} {d l : Nat} {S : List Nat} {dk : DkSt} {lg : LgSt} (h : LB w d l dk lg S) (ok : DkOk dk) (hfu : dk.fuse ≤ 1000000000000) (hb : Below w.heap.size w w2) (n : ByteArray) : Calls Tryd.prog 29 #[.pointer (some ⟨d, 0, none⟩), .string n] w2 (SPostL d l S (dSync dk n) lg w) := by
  obtain ⟨v, u, h1, h2, rfl⟩ := h
  exact (sync_any (h1.below hb) ok hfu n).mono fun e w' hp => disk_step h1 h2 hb hp
theorem append_step {w w2 : World} {d l : Nat} {S : List Nat} {dk : DkSt} {lg : LgSt} (h : LB w d l dk lg S) (ok : DkOk dk) (hfu : dk.fuse ≤ 1000000000000) (hb : Below w.heap.size w w2) (n : ByteArray) (hns : n.size ≤ 1000000) (z : Value) (bs : List UInt8) (hr : RdB w2 z bs) (hrn : ∀ k, Value.readBlock z = some k → k ∉ S) (hl : bs.length ≤ 1000000000)
    : Calls Tryd.prog 27 #[.pointer (some ⟨d, 0, none⟩), .string n, z] w2 (SPostL d l S (dAppend dk n bs) lg w) := by
  obtain ⟨v, u, h1, h2, rfl⟩ := h
  exact (append_any (h1.below hb) ok hfu n hns z bs hr (fun k hk hm => hrn k hk (List.mem_append_left _ hm)) hl).mono fun e w' hp => disk_step h1 h2 hb hp
theorem LStep.cell {d l : Nat} {S : List Nat} {dk : DkSt} {lg : LgSt} {w w' : World} (h : LStep d l S dk lg w w') {b : Nat} {v : Value} (hc : w.cell? ⟨b, 0, none⟩ = some v) (hb : b ∉ S) : w'.cell? ⟨b, 0, none⟩ = some v := by
  obtain ⟨S', _, h2⟩ := h
  exact h2.chg.cell hc hb
theorem LStep.ptr {d l : Nat} {S : List Nat} {dk : DkSt} {lg : LgSt} {w w' : World} (h : LStep d l S dk lg w w') : w'.cell? ⟨l, 0, none⟩ = some (.pointer (some ⟨d, 0, none⟩)) := by
  obtain ⟨S', h1, _⟩ := h
  obtain ⟨u, hb, _⟩ := h1.cells
  exact blk_cell hb 0
set_option maxRecDepth 20000 in
set_option maxHeartbeats 2000000 in
theorem lsync1_any {w : World} {d l : Nat} {S : List Nat} {dk : DkSt} {lg : LgSt} (h : LB w d l dk lg S) (ok : DkOk dk) (hfu : dk.fuse ≤ 1000000000000) (hg : GB S w) (hne : lg.firsts ≠ []) (bl : Nat) (hb : w.cell? ⟨bl, 0, none⟩ = some (.pointer (some ⟨l, 0, none⟩))) (xb : bl ∉ S) :
    Calls Tryd.prog 28 #[.pointer (some ⟨bl, 0, none⟩)] w (SPostL d l S (dSync dk (fileL lg)) lg w) := by
  have HF := Lib.hid (fun w2 (hb2 : Below w.heap.size w w2) => file_any (h.below hb2) (hg.below hb2) hne)
  have HS := Lib.hid (fun w2 (hb2 : Below w.heap.size w w2) => sync_step h ok hfu hb2 (fileL lg))
  obtain ⟨u, hbl, _⟩ := h.cells
  have c0 : w.cell? ⟨l, 0, none⟩ = some (.pointer (some ⟨d, 0, none⟩)) := blk_cell hbl 0
  have HX := Lib.hid xb
  have HB0 := Lib.hid (Below.refl w.heap.size w)
  clear h ok hfu hg hne hbl xb
  obtain ⟨nm, hnm⟩ : ∃ nm, fileL lg = nm := ⟨_, rfl⟩
  rw [hnm] at HF HS ⊢
  clear hnm
  go_enter Tryd.func28, Tryd.ntmps28
  go_upto_region 1 with fail
  go_region_held3 (fun w' => w'.cell? ⟨bl, 0, none⟩ = some (.pointer (some ⟨l, 0, none⟩)) ∧ w'.cell? ⟨l, 0, none⟩ = some (.pointer (some ⟨d, 0, none⟩)))
    (first | exact ⟨hb, c0⟩ | exact ⟨cell_later HB5.out hb, cell_later HB5.out c0⟩ | exact ⟨HL.out.cell hb HX.out, HL.out.ptr⟩ | go_keep)
    (first | (go_at_call 22; refine (HF.out _ HB0.out.drew).mono ?_; rintro e w5 ⟨rfl, hb⟩; have HB5 : Hid (Below w.heap.size w w5) := Lib.hid (drewN_start (w := w) (q := 1) hb); clear hb) | (go_at_call 29; refine (HS.out _ HB5.out).mono ?_; rintro e w6 ⟨rfl, hl⟩; have HL := Lib.hid hl; clear hl))
  all_goals (
    go_wp2_with fail
    exact bodyPost_ret (v := .int .i64 (dSync dk nm).2) (by simp [results]) rfl ⟨rfl, HL.out⟩)
set_option maxRecDepth 20000 in
set_option maxHeartbeats 2000000 in
theorem lwrite1_any {w : World} {d l : Nat} {S : List Nat} {dk : DkSt} {lg : LgSt} (h : LB w d l dk lg S) (ok : DkOk dk) (hfu : dk.fuse ≤ 1000000000000) (hg : GB S w) (hne : lg.firsts ≠ []) (bl bf : Nat) (hb : w.cell? ⟨bl, 0, none⟩ = some (.pointer (some ⟨l, 0, none⟩))) (xb : bl ∉ S)
    (z : Value) (bs : List UInt8) (hf : w.cell? ⟨bf, 0, none⟩ = some z) (xf : bf ∉ S) (hr : RdB w z bs) (hrn : ∀ k, Value.readBlock z = some k → k ∉ S) (hl : bs.length ≤ 1000000000) :
    Calls Tryd.prog 26 #[.pointer (some ⟨bl, 0, none⟩), .pointer (some ⟨bf, 0, none⟩)] w (SPostL d l S (dAppend dk (fileL lg) bs) lg w) := by
  have HF := Lib.hid (fun w2 (hb2 : Below w.heap.size w w2) => file_any (h.below hb2) (hg.below hb2) hne)
  have hsz : (fileL lg).size ≤ 1000000 := Nat.le_trans (nameL_size _) (by omega)
  have HS := Lib.hid (fun w2 (hb2 : Below w.heap.size w w2) => append_step h ok hfu hb2 (fileL lg) hsz z bs (hr.below hb2) hrn hl)
  obtain ⟨u, hbl, _⟩ := h.cells
  have c0 : w.cell? ⟨l, 0, none⟩ = some (.pointer (some ⟨d, 0, none⟩)) := blk_cell hbl 0
  have HX := Lib.hid xb
  have HXF := Lib.hid xf
  have HB0 := Lib.hid (Below.refl w.heap.size w)
  obtain ⟨A2, c2, rfl, _, _⟩ := hr.form
  clear h ok hfu hg hne hbl xb xf hr hrn hl hsz
  obtain ⟨nm, hnm⟩ : ∃ nm, fileL lg = nm := ⟨_, rfl⟩
  rw [hnm] at HF HS ⊢
  clear hnm
  go_enter Tryd.func26, Tryd.ntmps26
  go_upto_region 1 with fail
  go_region_held3 (fun w' => w'.cell? ⟨bl, 0, none⟩ = some (.pointer (some ⟨l, 0, none⟩)) ∧ w'.cell? ⟨bf, 0, none⟩ = some (.slice A2 bs.length c2) ∧ w'.cell? ⟨l, 0, none⟩ = some (.pointer (some ⟨d, 0, none⟩)))
    (first | exact ⟨hb, hf, c0⟩ | exact ⟨cell_later HB5.out hb, cell_later HB5.out hf, cell_later HB5.out c0⟩ | exact ⟨HL.out.cell hb HX.out, HL.out.cell hf HXF.out, HL.out.ptr⟩ | go_keep)
    (first | (go_at_call 22; refine (HF.out _ HB0.out.drew).mono ?_; rintro e w5 ⟨rfl, hb⟩; have HB5 : Hid (Below w.heap.size w w5) := Lib.hid (drewN_start (w := w) (q := 1) hb); clear hb) | (go_at_call 27; refine (HS.out _ HB5.out).mono ?_; rintro e w6 ⟨rfl, hl⟩; have HL := Lib.hid hl; clear hl))
  all_goals (
    go_wp2_with fail
    exact bodyPost_ret (v := .int .i64 (dAppend dk nm bs).2) (by simp [results]) rfl ⟨rfl, HL.out⟩)
end Go.Proofs.YthehpafkaefohaaDoor
namespace Go.Proofs.YthehpafkaefohaaDoor
open Go.RowKit
def ovr (lg : LgSt) (e : Int) : LgSt := if e = 0 then lg else { lg with over := true }
set_option maxRecDepth 20000 in
set_option maxHeartbeats 1000000 in
theorem all_sync {w : World} {d l : Nat} {S : List Nat} {r : DkSt × Int} {lg : LgSt} (b b1 : Nat) (hb : w.cell? ⟨b, 0, none⟩ = some (.func (.func 28) #[] #[.pointer (some ⟨b1, 0, none⟩)]))
    (HF : Calls Tryd.prog 28 #[.pointer (some ⟨b1, 0, none⟩)] w (SPostL d l S r lg w)) :
    Calls Tryd.prog 25 #[.pointer (some ⟨l, 0, none⟩), .slice (some ⟨b, 0, none⟩) 1 1] w (SPostL d l S (r.1, r.2) (ovr lg r.2) w) := by
  have HC := Lib.hid HF
  clear HF
  obtain ⟨dk, q⟩ := r
  go_enter Tryd.func25, Tryd.ntmps25
  go_wp2
  refine wp_loop_rounds 2 ?_
  rw [rounds_succ]
  go_wp2_with fail
  refine HC.out.mono ?_
  rintro e w2 ⟨rfl, hl⟩
  have HL := Lib.hid hl
  clear hl
  have hc5 : ∃ z, w2.cell? ⟨l, 5, none⟩ = some z := by
    obtain ⟨S', h1, _⟩ := HL.out
    obtain ⟨u, hbl, _⟩ := h1.cells
    exact ⟨_, blk_cell hbl 5⟩
  have hf5 : w2.frozen? ⟨l, 5, none⟩ = false := by
    obtain ⟨S', h1, _⟩ := HL.out
    obtain ⟨u, hbl, _⟩ := h1.cells
    exact blk_free hbl 5
  obtain ⟨z5, c5⟩ := hc5
  by_cases hq : q = 0
  · subst hq
    have HP : Hid (SPostL d l S (dk, 0) (ovr lg 0) w (.returned (.int .i64 0)) w2) := ⟨rfl, by unfold ovr; rw [if_pos rfl]; exact HL.out⟩
    go_wp2
    rw [rounds_succ]
    go_wp2
    exact bodyPost_ret (v := .int .i64 0) (by simp [results]) rfl HP.out
  · have HP : Hid (SPostL d l S (dk, q) (ovr lg q) w (.returned (.int .i64 q)) (w2.setCell ⟨l, 5, none⟩ (.bool true))) := ⟨rfl, by unfold ovr; rw [if_neg hq]; exact HL.out.over⟩
    have hqe : (q == 0) = false := by simpa using hq
    have hqn : (q != 0) = true := by simpa using hq
    go_wp2
    exact bodyPost_ret (v := .int .i64 q) (by simp [results]) rfl HP.out
set_option maxRecDepth 20000 in
set_option maxHeartbeats 1000000 in
theorem all_write {w : World} {d l : Nat} {S : List Nat} {r : DkSt × Int} {lg : LgSt} (b b1 b2 : Nat) (hb : w.cell? ⟨b, 0, none⟩ = some (.func (.func 26) #[] #[.pointer (some ⟨b1, 0, none⟩), .pointer (some ⟨b2, 0, none⟩)]))
    (HF : Calls Tryd.prog 26 #[.pointer (some ⟨b1, 0, none⟩), .pointer (some ⟨b2, 0, none⟩)] w (SPostL d l S r lg w)) :
    Calls Tryd.prog 25 #[.pointer (some ⟨l, 0, none⟩), .slice (some ⟨b, 0, none⟩) 1 1] w (SPostL d l S (r.1, r.2) (ovr lg r.2) w) := by
  have HC := Lib.hid HF
  clear HF
  obtain ⟨dk, q⟩ := r
  go_enter Tryd.func25, Tryd.ntmps25
  go_wp2
  refine wp_loop_rounds 2 ?_
  rw [rounds_succ]
  go_wp2_with fail
  refine HC.out.mono ?_
  rintro e w2 ⟨rfl, hl⟩
  have HL := Lib.hid hl
  clear hl
  have hc5 : ∃ z, w2.cell? ⟨l, 5, none⟩ = some z := by
    obtain ⟨S', h1, _⟩ := HL.out
    obtain ⟨u, hbl, _⟩ := h1.cells
    exact ⟨_, blk_cell hbl 5⟩
  have hf5 : w2.frozen? ⟨l, 5, none⟩ = false := by
    obtain ⟨S', h1, _⟩ := HL.out
    obtain ⟨u, hbl, _⟩ := h1.cells
    exact blk_free hbl 5
  obtain ⟨z5, c5⟩ := hc5
  by_cases hq : q = 0
  · subst hq
    have HP : Hid (SPostL d l S (dk, 0) (ovr lg 0) w (.returned (.int .i64 0)) w2) := ⟨rfl, by unfold ovr; rw [if_pos rfl]; exact HL.out⟩
    go_wp2
    rw [rounds_succ]
    go_wp2
    exact bodyPost_ret (v := .int .i64 0) (by simp [results]) rfl HP.out
  · have HP : Hid (SPostL d l S (dk, q) (ovr lg q) w (.returned (.int .i64 q)) (w2.setCell ⟨l, 5, none⟩ (.bool true))) := ⟨rfl, by unfold ovr; rw [if_neg hq]; exact HL.out.over⟩
    have hqe : (q == 0) = false := by simpa using hq
    have hqn : (q != 0) = true := by simpa using hq
    go_wp2
    exact bodyPost_ret (v := .int .i64 q) (by simp [results]) rfl HP.out
end Go.Proofs.YthehpafkaefohaaDoor
namespace Go.Proofs.YthehpafkaefohaaDoor
open Go.RowKit
theorem LStep.acked {d l : Nat} {S : List Nat} {dk : DkSt} {lg : LgSt} {w w1 : World} (h : LStep d l S dk lg w w1) (n : Int) : LStep d l S dk { lg with acked := n } w (w1.setCell ⟨l, 4, none⟩ (.int .i64 n)) := by
  obtain ⟨S', h1, h2⟩ := h
  obtain ⟨a, b⟩ := h1.set (fun u hu => hu.set_acked n)
  exact ⟨S', a, h2.trans b⟩
theorem LStep.blk {d l : Nat} {S : List Nat} {dk : DkSt} {lg : LgSt} {w w' : World} (h : LStep d l S dk lg w w') : ∃ u, w'.heap[l]? = some (.cells #[.pointer (some ⟨d, 0, none⟩), .int .i64 lg.size, u, .int .i64 lg.last, .int .i64 lg.acked, .bool lg.over] 56) ∧ FsAt w' u lg.firsts := by
  obtain ⟨S', h1, _⟩ := h
  exact h1.cells
def SyncP (d l : Nat) (S : List Nat) (r : DkSt × LgSt × Int) (w : World) (e : Ending) (w' : World) : Prop := e = .returned (.int .i64 r.2.2) ∧ LStep d l S r.1 r.2.1 w w'
set_option maxRecDepth 20000 in
set_option maxHeartbeats 2000000 in
theorem logsync_over {w : World} {d l : Nat} {S : List Nat} {dk : DkSt} {lg : LgSt} (h : LB w d l dk lg S) (ho : lg.over = true) : Calls Tryd.prog 11 #[.pointer (some ⟨l, 0, none⟩)] w (SyncP d l S (lSync dk lg) w) := by
  have hq : lSync dk lg = (dk, lg, 17) := by unfold lSync; rw [if_pos ho]
  rw [hq]
  obtain ⟨W1, hW1⟩ : ∃ x, w.alloc (.cells #[.pointer (some ⟨l, 0, none⟩)] 26) = x := ⟨_, rfl⟩
  have hb1 : Below w.heap.size w W1 := by rw [← hW1]; exact below1 w _
  have hU := up_any (h.below hb1)
  rw [show upE lg = 17 by unfold upE; rw [if_pos ho]] at hU
  have HU := Lib.hid hU
  have HP : Hid (SyncP d l S (dk, lg, 17) w (.returned (.int .i64 17)) W1) := ⟨rfl, (LStep.refl h).below hb1⟩
  have k1 : W1.heap[w.heap.size]? = some (.cells #[.pointer (some ⟨l, 0, none⟩)] 26) := by rw [← hW1]; exact alloc_at _ _
  have e1 := blk_cell k1 0
  simp at e1
  clear h ho hq hb1 hU k1
  go_enter Tryd.func11, Tryd.ntmps11
  go_upto_region 1 with fail
  clear hW1
  go_wp2_with fail
  refine HU.out.mono ?_
  rintro e w2 ⟨rfl, hw⟩
  subst hw
  go_wp2
  exact bodyPost_ret (v := .int .i64 17) (by simp [results]) rfl HP.out
set_option maxRecDepth 20000 in
set_option maxHeartbeats 2000000 in
theorem logsync_go {w : World} {d l : Nat} {S : List Nat} {dk : DkSt} {lg : LgSt} (h : LB w d l dk lg S) (ok : DkOk dk) (hfu : dk.fuse ≤ 1000000000000) (hg : GB S w) (ho : lg.over = false) : Calls Tryd.prog 11 #[.pointer (some ⟨l, 0, none⟩)] w (SyncP d l S (lSync dk lg) w) := by
  obtain ⟨W1, hW1⟩ : ∃ x, w.alloc (.cells #[.pointer (some ⟨l, 0, none⟩)] 26) = x := ⟨_, rfl⟩
  have hb1 : Below w.heap.size w W1 := by rw [← hW1]; exact below1 w _
  have h1 := h.below hb1
  have hU := up_any h1
  rw [show upE lg = 0 by unfold upE; rw [if_neg (by simp [ho])]] at hU
  have HU := Lib.hid hU
  have k1 : W1.heap[w.heap.size]? = some (.cells #[.pointer (some ⟨l, 0, none⟩)] 26) := by rw [← hW1]; exact alloc_at _ _
  have e1 := blk_cell k1 0
  simp at e1
  obtain ⟨u, hbl, hol⟩ := h1.cells
  have c2 := blk_cell hbl 2
  have c3 := blk_cell hbl 3
  have c4 := blk_cell hbl 4
  have f4 := blk_free hbl 4
  simp at c2 c3 c4
  have xw := h.fresh (Nat.le_refl _)
  have hll : l < w.heap.size := by obtain ⟨u', hb', _⟩ := h.cells; exact blk_lt hb'
  have n1 : w.heap.size ≠ l := by omega
  obtain ⟨A, c, rfl⟩ := hol.form
  have HB1 := Lib.hid hb1
  have HL1 : Hid (LStep d l S dk lg w W1) := (LStep.refl h).below hb1
  by_cases hn : lg.firsts = []
  · have hq : lSync dk lg = (dk, { lg with acked := lg.last }, 0) := by unfold lSync lSyncFile; rw [if_neg (by simp [ho]), if_pos hn]; simp
    rw [hq]
    have hnl : lg.firsts.length = 0 := by rw [hn]; rfl
    rw [hnl] at c2
    clear h ok hfu hg ho hq hb1 hU k1 h1 hbl hol hn hnl
    go_enter Tryd.func11, Tryd.ntmps11
    go_upto_region 1 with fail
    clear hW1
    go_wp2_with fail
    refine HU.out.mono ?_
    rintro e w2 ⟨rfl, hw⟩
    subst hw
    go_upto_region 8 with fail
    go_region_held3 (fun w' => w'.cell? ⟨w.heap.size, 0, none⟩ = some (.pointer (some ⟨l, 0, none⟩)) ∧ w'.cell? ⟨l, 3, none⟩ = some (.int .i64 lg.last))
      (first | exact ⟨e1, c3⟩ | exact ⟨cell_past e1 n1, cell_off c3 (by omega)⟩ | go_keep)
      (fail)
    all_goals (
      go_wp2_with fail
      exact bodyPost_ret (v := .int .i64 0) (by simp [results]) rfl ⟨rfl, (HL1.out.below (below_drewN (Below.refl _ _) 1)).acked lg.last⟩)
  · obtain ⟨K, hK⟩ : ∃ K, lg.firsts.length = K := ⟨_, rfl⟩
    have kp0 := List.length_pos_iff.2 hn
    rw [hK] at c2 kp0
    have kp : (0 : Int) < (K : Int) := by omega
    clear kp0
    have hb2 : Below W1.heap.size W1 (W1.alloc (.cells #[.func (.func 28) #[] #[.pointer (some ⟨w.heap.size, 0, none⟩)]] 40)) := below1 W1 _
    have HA := Lib.hid (all_sync (l := l) (lg := lg) (S := S) (r := dSync dk (fileL lg)) (w := W1.alloc (.cells #[.func (.func 28) #[] #[.pointer (some ⟨w.heap.size, 0, none⟩)]] 40)) W1.heap.size w.heap.size (by rw [blk_cell (alloc_at W1 _)]; rfl) (lsync1_any (h1.below hb2) ok hfu ((hg.below hb1).below hb2) hn w.heap.size (cell_later hb2 e1) xw))
    obtain ⟨r, hr⟩ : ∃ r, dSync dk (fileL lg) = r := ⟨_, rfl⟩
    rw [hr] at HA
    have hq : lSync dk lg = if r.2 ≠ 0 then (r.1, { lg with over := true }, r.2) else (r.1, { lg with acked := lg.last }, 0) := by unfold lSync lSyncFile; rw [if_neg (by simp [ho]), if_neg hn, hr]
    rw [hq]
    have HB2 := Lib.hid hb2
    clear h ok hfu hg ho hq hb1 hU k1 h1 hbl hol hK hb2 hr hn
    obtain ⟨dk2, q⟩ := r
    obtain ⟨R, hR⟩ : ∃ R, (if (dk2, q).2 ≠ 0 then ((dk2, q).1, { lg with over := true }, (dk2, q).2) else ((dk2, q).1, { lg with acked := lg.last }, 0)) = R := ⟨_, rfl⟩
    rw [hR]
    have HR := Lib.hid hR
    clear hR
    go_enter Tryd.func11, Tryd.ntmps11
    go_upto_region 1 with fail
    clear hW1
    go_wp2_with fail
    refine HU.out.mono ?_
    rintro e w2 ⟨rfl, hw⟩
    subst hw
    go_wp2_with fail
    refine HA.out.mono ?_
    rintro e w3 ⟨rfl, hl3⟩
    have hl3' : LStep d l S dk2 (ovr lg q) w w3 := LStep.from (HB1.out.trans (HB2.out.mono HB1.out.size)) hl3
    have e3 := hl3'
    have HL3 := Lib.hid hl3'
    have e1' := hl3.cell (cell_later HB2.out e1) xw
    clear hl3 hl3' e3 c2 c3 c4 f4 e1
    by_cases hq : q = 0
    · subst hq
      have ho3 : ovr lg 0 = lg := by unfold ovr; rw [if_pos rfl]
      rw [ho3] at HL3
      obtain ⟨u3, hb3, _⟩ := HL3.out.blk
      have c3 := blk_cell hb3 3
      have c4 := blk_cell hb3 4
      have f4 := blk_free hb3 4
      simp at c3 c4
      clear hb3 ho3
      go_upto_region 8 with fail
      go_region_held3 (fun w' => w'.cell? ⟨w.heap.size, 0, none⟩ = some (.pointer (some ⟨l, 0, none⟩)) ∧ w'.cell? ⟨l, 3, none⟩ = some (.int .i64 lg.last))
        (first | exact ⟨e1', c3⟩ | exact ⟨cell_past e1' n1, cell_off c3 (by omega)⟩ | go_keep)
        (fail)
      all_goals (
        go_wp2_with fail
        refine bodyPost_ret (v := .int .i64 0) (by simp [results]) rfl ?_
        have hR : (dk2, { lg with acked := lg.last }, (0 : Int)) = R := by rw [← HR.out, if_neg (by simp)]
        rw [← hR]
        exact ⟨rfl, (HL3.out.below (below_drewN (Below.refl _ _) 1)).acked lg.last⟩)
    · have ho3 : ovr lg q = { lg with over := true } := by unfold ovr; rw [if_neg hq]
      rw [ho3] at HL3
      have hqe : (q == 0) = false := by simpa using hq
      have hqn : (q != 0) = true := by simpa using hq
      clear ho3
      go_wp2
      refine bodyPost_ret (v := .int .i64 q) (by simp [results]) rfl ?_
      have hR : (dk2, { lg with over := true }, q) = R := by rw [← HR.out, if_pos hq]
      rw [← hR]
      exact ⟨rfl, HL3.out⟩
theorem logsync_any {w : World} {d l : Nat} {S : List Nat} {dk : DkSt} {lg : LgSt} (h : LB w d l dk lg S) (ok : DkOk dk) (hfu : dk.fuse ≤ 1000000000000) (hg : GB S w) : Calls Tryd.prog 11 #[.pointer (some ⟨l, 0, none⟩)] w (SyncP d l S (lSync dk lg) w) := by
  cases ho : lg.over with
  | true => exact logsync_over h ho
  | false => exact logsync_go h ok hfu hg ho
end Go.Proofs.YthehpafkaefohaaDoor
namespace Go.Proofs.YthehpafkaefohaaDoor
open Go.RowKit
set_option maxRecDepth 20000 in
set_option maxHeartbeats 2000000 in
theorem next1_any {w : World} {d l : Nat} {S : List Nat} {dk : DkSt} {lg : LgSt} (h : LB w d l dk lg S) (ok : DkOk dk) (hfu : dk.fuse ≤ 1000000000000) (hg : GB S w) (bl : Nat) (hb : w.cell? ⟨bl, 0, none⟩ = some (.pointer (some ⟨l, 0, none⟩))) (xb : bl ∉ S) :
    Calls Tryd.prog 44 #[.pointer (some ⟨bl, 0, none⟩)] w (SPostL d l S (lSyncFile dk lg) lg w) := by
  obtain ⟨u, hbl, hol⟩ := h.cells
  have c0 : w.cell? ⟨l, 0, none⟩ = some (.pointer (some ⟨d, 0, none⟩)) := blk_cell hbl 0
  have c2 := blk_cell hbl 2
  simp at c2
  obtain ⟨A, c, rfl⟩ := hol.form
  by_cases hn : lg.firsts = []
  · have hq : lSyncFile dk lg = (dk, 0) := by unfold lSyncFile; rw [if_pos hn]
    rw [hq]
    have hnl : lg.firsts.length = 0 := by rw [hn]; rfl
    rw [hnl] at c2
    have HP : Hid (SPostL d l S (dk, 0) lg w (.returned (.int .i64 0)) w) := ⟨rfl, LStep.refl h⟩
    clear h ok hfu hg hn hq hnl hbl hol xb
    go_enter Tryd.func44, Tryd.ntmps44
    go_wp2
    exact bodyPost_ret (v := .int .i64 0) (by simp [results]) rfl HP.out
  · have hq : lSyncFile dk lg = dSync dk (fileL lg) := by unfold lSyncFile; rw [if_neg hn]
    rw [hq]
    obtain ⟨K, hK⟩ : ∃ K, lg.firsts.length = K := ⟨_, rfl⟩
    have kp0 := List.length_pos_iff.2 hn
    rw [hK] at c2 kp0
    have kp : ((K : Int) == 0) = false := by simp; omega
    have HF := Lib.hid (fun w2 (hb2 : Below w.heap.size w w2) => file_any (h.below hb2) (hg.below hb2) hn)
    have HS := Lib.hid (fun w2 (hb2 : Below w.heap.size w w2) => sync_step h ok hfu hb2 (fileL lg))
    have HX := Lib.hid xb
    have HB0 := Lib.hid (Below.refl w.heap.size w)
    clear h ok hfu hg hn hq hbl hol xb hK kp0
    obtain ⟨nm, hnm⟩ : ∃ nm, fileL lg = nm := ⟨_, rfl⟩
    rw [hnm] at HF HS ⊢
    clear hnm
    go_enter Tryd.func44, Tryd.ntmps44
    go_upto_region 3 with fail
    go_region_held3 (fun w' => w'.cell? ⟨bl, 0, none⟩ = some (.pointer (some ⟨l, 0, none⟩)) ∧ w'.cell? ⟨l, 0, none⟩ = some (.pointer (some ⟨d, 0, none⟩)))
      (first | exact ⟨hb, c0⟩ | exact ⟨cell_later HB5.out hb, cell_later HB5.out c0⟩ | exact ⟨HL.out.cell hb HX.out, HL.out.ptr⟩ | go_keep)
      (first | (go_at_call 22; refine (HF.out _ HB0.out.drew).mono ?_; rintro e w5 ⟨rfl, hb⟩; have HB5 : Hid (Below w.heap.size w w5) := Lib.hid (drewN_start (w := w) (q := 1) hb); clear hb) | (go_at_call 29; refine (HS.out _ HB5.out).mono ?_; rintro e w6 ⟨rfl, hl⟩; have HL := Lib.hid hl; clear hl))
    all_goals (
      go_wp2_with fail
      exact bodyPost_ret (v := .int .i64 (dSync dk nm).2) (by simp [results]) rfl ⟨rfl, HL.out⟩)
/-- an append in a region that draws, where its run is known -/
theorem step_append_runI {P : Program} {ops : Array Oper} {o : Oper} {a : Act} {w : World} {K : Act → World → Prop} {Q : Exit → Act → World → Prop} {E : Prop}
    (hg : o.guard = none) (d x : Operand) (dT sT : TypeId) (hop : o.op = Op.call { callee := Callee.builtin Builtin.append, args := #[d, x], argTypes := #[dT, sT] })
    (v u : Value) (hd : a.eval d = v) (hx : a.eval x = u) {v' : Value} {w' : World} (hr : (Builtin.append_ #[dT, sT] o.type #[v, u]).run P w = .ok v' w') (hK : K (a.put o.dst v') w') :
    if Region.wanted o (yielded ops a.tmps) = true then Oper.wp P o a w K Q else E := by
  have hw : Region.wanted o (yielded ops a.tmps) = true := by simp [Region.wanted, hg]
  rw [if_pos hw]
  unfold Oper.wp
  simp [execOp, hop, resolve, invoke, builtin, hd, hx, hr, Result.andThen]
  exact hK
theorem LStep.firsts {w w1 : World} {d l : Nat} {dk : DkSt} {lg : LgSt} {v u u' : Value} {fs : List Int} (h1 : DkAt w d dk v) (h2 : LgAt w l d lg u) (hc : ChgS (u.ownBlock.toList) w w1) (ho : FsAt w1 u' fs) (hn : NR u u' w) : LStep d l (dkS d v ++ (l :: u.ownBlock.toList)) dk { lg with firsts := fs } w (w1.setCell ⟨l, 2, none⟩ u') := by
  have hlu : ∀ k, u.ownBlock = some k → k ≠ l := h2.l_ne
  have hll : l < w.heap.size := blk_lt h2.blk
  have hlb : w1.heap[l]? = w.heap[l]? := hc.block l hll (fun hm => hlu l (by simpa using hm) rfl)
  have hne : ∀ k, u'.ownBlock = some k → k ≠ l := fun k hk => by
    rcases hn k hk with h | h
    · exact hlu k h
    · omega
  have hc1 : ChgS (l :: u.ownBlock.toList) w w1 := hc.sub fun x hx => .inl (List.mem_cons_of_mem _ hx)
  have hc2 : ChgS (l :: u.ownBlock.toList) w (w1.setCell ⟨l, 2, none⟩ u') := hc1.set (.inl (List.mem_cons_self ..)) 2 u'
  refine ⟨dkS d v ++ (l :: u'.ownBlock.toList), ⟨v, u', h1.keepL h2 hc2, h2.set_firsts hlb ho hne, rfl⟩, hc2.sub (fun x hx => .inl (List.mem_append_right _ hx)), fun x hx => ?_⟩
  rcases List.mem_append.1 hx with hx | hx
  · exact .inl (List.mem_append_left _ hx)
  · rcases List.mem_cons.1 hx with rfl | hx
    · exact .inl (List.mem_append_right _ (List.mem_cons_self ..))
    · rcases hn x (by simpa using hx) with h | h
      · exact .inl (List.mem_append_right _ (List.mem_cons_of_mem _ (by simp [h])))
      · exact .inr h
/-- one number more behind the firsts -/
theorem push_own {w : World} {u : Value} {fs : List Int} (ho : LOwn 3 mI 0 w u fs) (hl : fs.length ≤ 1000000) (b : Nat) (n : Int) (hb : w.heap[b]? = some (.cells #[.int .i64 n] 3)) (ty : TypeId) :
    ∃ A' c' w', (Builtin.append_ #[54, 54] ty #[u, .slice (some ⟨b, 0, none⟩) 1 1]).run Tryd.prog w = .ok (.slice A' (fs.length + 1) c') w' ∧ FsAt w' (.slice A' (fs.length + 1) c') (fs ++ [n]) ∧ ChgS (u.ownBlock.toList) w w' ∧ NR u (.slice A' (fs.length + 1) c') w := by
  obtain ⟨i0, hi, hz0, hz1, hz2⟩ := info_parts elI.info
  obtain ⟨cells, ho1, he⟩ := ho
  obtain ⟨v', w', hr, h1, h2, _, h3⟩ := run_append_own_at (P := Tryd.prog) w 0 54 ty 3 i0 (.int .i64 0) 1 8 elI.ut hi hz0 hz1 hz2 elI.zs (by omega) u fs.length cells ho1 ⟨b, 0, none⟩ 1 1 [.int .i64 n] rfl (fun j x hj => by
    rw [addr_add, blk_cell hb]
    simpa using hj) (by intro x hx; simp at hx; subst hx; rfl) (by simp only [maxLen]; omega) (by omega) (Nat.zero_le _)
  have hw : LOwn 3 mI 0 w' v' (fs ++ [n]) := LOwn.push mI_law (by intro h; cases h) ho1 he (x := n) (us := [.int .i64 n]) rfl h1 h2
  obtain ⟨A', c', rfl⟩ := hw.form
  rw [show (fs ++ [n]).length = fs.length + 1 by simp] at hr hw h3
  refine ⟨A', c', w', hr, .of_own hw, chg_grown h2, fun k hk => ?_⟩
  rcases h3 with h4 | h4
  · exact .inl (h4 ▸ hk)
  · rw [h4] at hk
    injection hk with hk
    exact .inr (by omega)
theorem push_run {w : World} {u : Value} {fs : List Int} (ho : FsAt w u fs) (hl : fs.length ≤ 1000000) (b : Nat) (n : Int) (hb : w.heap[b]? = some (.cells #[.int .i64 n] 3)) (ty : TypeId) :
    ∃ A' c' w', (Builtin.append_ #[54, 54] ty #[u, .slice (some ⟨b, 0, none⟩) 1 1]).run Tryd.prog w = .ok (.slice A' (fs.length + 1) c') w' ∧ FsAt w' (.slice A' (fs.length + 1) c') (fs ++ [n]) ∧ ChgS (u.ownBlock.toList) w w' ∧ NR u (.slice A' (fs.length + 1) c') w := by
  rcases ho with ⟨rfl, rfl⟩ | ⟨g, o, c, cur, rfl, hh, h1, h2, h3, h4⟩
  · exact push_own (LOwn.nil 0 w) (by simp) b n hb ty
  · obtain ⟨i0, hi, hz0, hz1, hz2⟩ := info_parts elI.info
    have hsrc : Src Tryd.prog i0.size 54 (.slice (some ⟨b, 0, none⟩) 1 1) 1 [.int .i64 n] w := Src.ofSlice w elI.ut ⟨b, 0, none⟩ 1 1 [.int .i64 n] (by rw [hz1]; rfl) (fun j x hj => by
      rw [addr_add, blk_cell hb]
      simpa using hj) (by intro x hx; simp at hx; subst hx; rfl)
    by_cases hroom : fs.length + 1 ≤ c
    · have hr := run_append_room_src (P := Tryd.prog) w 54 54 ty 3 i0 elI.ut hi g o fs.length c (.slice (some ⟨b, 0, none⟩) 1 1) 1 [.int .i64 n] hsrc hroom (fun j hj => by
        rw [blk_cell hh, hz1]
        have hj : j < 1 := hj
        have : o + fs.length * 1 + j < cur.size := by omega
        rw [Array.getElem?_eq_getElem this]
        rfl) (fun j _ => blk_free hh _)
      rw [hz1] at hr
      refine ⟨_, _, _, hr, .inr ⟨g, o, c, cur.setIfInBounds (o + fs.length * 1) (.int .i64 n), by rw [List.length_append]; rfl, blk_set hh _ _, by rw [List.length_append]; exact hroom, h2, by rw [Array.size_setIfInBounds]; exact h3, fun j x hj => ?_⟩, (ChgS.refl _ w).set (.inl (by simp [Value.ownBlock])) _ _, fun k hk => .inl hk⟩
      by_cases e : j < fs.length
      · rw [List.getElem?_append_left e] at hj
        rw [Array.getElem?_setIfInBounds, if_neg (by omega)]
        exact h4 j x hj
      · have hjl : j = fs.length := by
          have := (List.getElem?_eq_some_iff.1 hj).1
          rw [List.length_append] at this
          have h1 : [n].length = 1 := rfl
          omega
        subst hjl
        rw [List.getElem?_append_right (Nat.le_refl _), Nat.sub_self] at hj
        have hj : n = x := by simpa using hj
        rw [Array.getElem?_setIfInBounds, if_pos (by omega), if_pos (by omega), hj]
    · have hold : (Builtin.firstCells i0.size fs.length (.slice (some ⟨g, o, none⟩) fs.length c)).run Tryd.prog w.drew = .ok (fs.map (Value.int .i64)).toArray w.drew := run_firstCells_some w.drew i0.size fs.length ⟨g, o, none⟩ fs.length c (fs.map (Value.int .i64)) (by rw [List.length_map, hz1, Nat.mul_one]) (fun j x hj => by
        rw [List.getElem?_map] at hj
        cases hq : fs[j]? with
        | none => rw [hq] at hj; cases hj
        | some y =>
          rw [hq] at hj
          have hj : Value.int .i64 y = x := by simpa using hj
          subst hj
          rw [Addr.add_lit]
          have := blk_cell hh (o + j)
          rw [h4 j y hq] at this
          simpa using this)
      have hr := run_append_grow_src (P := Tryd.prog) w 54 54 ty 3 i0 (.int .i64 0) elI.ut hi hz0 (some ⟨g, o, none⟩) fs.length c (fs.map (Value.int .i64)) hold (.slice (some ⟨b, 0, none⟩) 1 1) 1 [.int .i64 n] hsrc (by omega) (by omega) (growslice_fits (by omega) (by rw [hz2]; omega))
      have hge := grownCap_ge w (fs.length + 1) c 3
      have hcm := grownCap_le_maxLen w (fs.length + 1) c 3 (by simp only [maxLen]; omega)
      have hL : (fs.map (Value.int .i64) ++ [Value.int .i64 n]).length = fs.length + 1 := by rw [List.length_append, List.length_map]; rfl
      refine ⟨_, _, _, hr, .inr ⟨w.heap.size, 0, _, _, by rw [List.length_append]; rfl, alloc_at w.drew _, by rw [List.length_append]; exact hge, hcm, ?_, fun j x hj => ?_⟩, ((ChgS.refl _ w).drewN 1).alloc _, fun k hk => ?_⟩
      · rw [Array.size_append, List.size_toArray, hL, size_zeroCells, show (Value.int .i64 0).cells.size = 1 from rfl]
        omega
      · rw [Nat.zero_add, Array.getElem?_append_left (by
          rw [List.size_toArray, hL]
          have := (List.getElem?_eq_some_iff.1 hj).1
          rw [List.length_append] at this
          exact this), List.getElem?_toArray, ← List.map_singleton (f := Value.int .i64), ← List.map_append, List.getElem?_map, hj]
        rfl
      · have hk : w.heap.size = k := by simpa [Value.ownBlock] using hk
        exact .inr (by omega)
end Go.Proofs.YthehpafkaefohaaDoor

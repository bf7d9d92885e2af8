/- Walks: Files and told of a log without segments; what stays when a log's step is done. Conditions: none. -/
import Derived.Test.YthehpafkaefohaaGreatDoorCkLgT5
namespace Go.Proofs.YthehpafkaefohaaGreatDoor
open Go.RowKit
set_option maxRecDepth 20000 in
set_option maxHeartbeats 2000000 in
theorem files_nil {w : World} {d l : Nat} {S : List Nat} {dk : DkSt} {lg : LgSt} (h : LB w d l dk lg S) (hn : lg.firsts = []) :
    Calls Tryz.prog 19 #[.pointer (some ⟨l, 0, none⟩)] w fun e w' => e = .returned (.slice none 0 0) ∧ Below w.heap.size w w' := by
  obtain ⟨u, hbl, hol⟩ := h.cells
  have c2 := blk_cell hbl 2
  simp at c2
  obtain ⟨A0, q0, rfl⟩ := hol.form
  rw [hn, show ([] : List Int).length = 0 from rfl] at c2
  have HB0 := Lib.hid (Below.refl w.heap.size w)
  clear h hbl hol hn
  go_enter Tryz.func19, Tryz.ntmps19
  go_wp2
  refine wp_loop_rounds 1 ?_
  rw [rounds_succ]
  go_wp2
  exact bodyPost_ret (v := .slice none 0 0) (by simp [results]) rfl ⟨rfl, HB0.out⟩
set_option maxRecDepth 20000 in
set_option maxHeartbeats 2000000 in
theorem told_nil {w : World} {d l : Nat} {S : List Nat} {dk : DkSt} {lg : LgSt} (h : LB w d l dk lg S) (hn : lg.firsts = []) :
    Calls Tryz.prog 46 #[.pointer (some ⟨d, 0, none⟩), .pointer (some ⟨l, 0, none⟩)] w fun e w' => e = .returned (.tuple #[.slice none 0 0, .bool true]) ∧ Below w.heap.size w w' := by
  have HF := Lib.hid (files_nil h hn)
  clear h hn
  go_enter Tryz.func46, Tryz.ntmps46
  go_wp2_with fail
  refine HF.out.mono ?_
  rintro e w2 ⟨rfl, hb⟩
  have HB2 := Lib.hid hb
  clear hb HF
  go_wp2_with fail
  refine wp_loop_rounds 1 ?_
  rw [rounds_succ]
  go_wp2_with fail
  exact bodyPost_ret (v := .tuple #[.slice none 0 0, .bool true]) (by simp [results]) rfl ⟨rfl, HB2.out⟩
theorem AX.stayG {w w1 w2 : World} {d l : Nat} {dk dk' : DkSt} {lg lg' : LgSt} {S : List Nat} (h : AX w w1 d l dk lg S) (hs : LStep d l S dk' lg' w1 w2) {ts : List TypeId} (ht : 85 ∉ ts ∧ 115 ∉ ts ∧ 27 ∉ ts ∧ 3 ∉ ts) : Stay ts w1 w2 := by
  obtain ⟨S', _, h2⟩ := hs
  refine h2.chg.stay fun x hx cs T fr hh hT => ?_
  obtain ⟨cs', T', h3, h4⟩ := h.lb.types4 x hx
  rw [h3] at hh
  injection hh with hh
  injection hh with _ hh
  subst hh
  rcases h4 with rfl | rfl | rfl | rfl
  · exact ht.1 hT
  · exact ht.2.1 hT
  · exact ht.2.2.1 hT
  · exact ht.2.2.2 hT
theorem AX.trim {w w1 : World} {d l : Nat} {dk : DkSt} {lg : LgSt} {S : List Nat} {b : Int} {k : Nat} {n : Int} {segs : List Sg} (h : AX w w1 d l dk lg S) (ht : TrI b k n segs dk lg) (hb : 0 ≤ b) (hb2 : b ≤ 1000000000) (hk : k ≤ 60) (below : Int) :
    Calls Tryz.prog 15 #[.pointer (some ⟨l, 0, none⟩), .int .i64 below] w1 (TrimP d l S (goneN below lg.firsts) dk lg w1) := trim_go h.lb ht h.gb hb hb2 hk below
theorem AX.filesO {w w1 : World} {d l : Nat} {dk : DkSt} {lg : LgSt} {S : List Nat} (h : AX w w1 d l dk lg S) (hn : lg.firsts.length ≤ 1000000) : Calls Tryz.prog 19 #[.pointer (some ⟨l, 0, none⟩)] w1 fun e w' => ∃ z, e = .returned z ∧ LOwn 9 mS w1.heap.size w' z (lFiles lg) ∧ Below w1.heap.size w1 w' := files_any h.lb h.gb hn
theorem lgH_new (s b : Int) : LgH b [] [] (newSt 1048576) ⟨s, [], b, b, false⟩ where
  i := ⟨new_ok 1048576 (by omega) (by omega), rfl, rfl, rfl, Nat.le_refl _, by simp [newSt, usedF], rfl, Int.le_refl _, by simp, fun n hn => by simp at hn, Nat.le_refl _⟩
  fi := rfl
  byt s hs := by cases hs
  ch := trivial
  la := by simp
  en := rfl
  fl := rfl
  nf := rfl
  on m hm := by simp [newSt, hasN, plc] at hm
  sy s hs := by simp at hs
  ac := ⟨Int.le_refl _, Int.le_refl _⟩
  sl _ s hs := by simp at hs
/-- a list of the call's own with an element stands in a row -/
theorem own_some {α : Type} {T : TypeId} {m : Mv α} {base : Nat} {w : World} {v : Value} {xs : List α} (h : LOwn T m base w v xs) (hp : 0 < xs.length) : ∃ g c, v = .slice (some ⟨g, 0, none⟩) xs.length c ∧ xs.length ≤ c ∧ c ≤ maxLen := by
  obtain ⟨cells, ho, _⟩ := h
  rcases ho.2 with ⟨_, h2⟩ | ⟨g, cap, cur, rfl, hb, hh, h3, h4, _⟩
  · omega
  · exact ⟨g, cap, rfl, h3, h4⟩
end Go.Proofs.YthehpafkaefohaaGreatDoor

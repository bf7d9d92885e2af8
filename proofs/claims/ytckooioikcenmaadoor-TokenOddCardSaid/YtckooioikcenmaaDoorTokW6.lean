/- Walk of the reference's Read of tokens. Conditions: texts of at most 3000 bytes. -/
import Derived.Test.YtckooioikcenmaaDoorTokW5
namespace Go.Proofs.YtckooioikcenmaaDoor
open Go.RowKit
attribute [local go_sem] frozen?_alloc_cells World.cell?_alloc_some
/-- no token of a number below k -/
def NoTok (s : ByteArray) (k : Nat) : Prop := ∀ f n t, rightB f n t = true → n < k → s ≠ mkT f n t
def NoTok2 (s : ByteArray) (k j : Nat) : Prop := ∀ f t, rightB f k t = true → t < j → s ≠ mkT f k t
theorem app_size (a b : ByteArray) : (a ++ b).size = a.size + b.size := by simp
theorem app_ext (a b : ByteArray) : (a ++ b).extract 0 a.size = a := by
  apply data_inj
  simp only [ByteArray.data_extract, ByteArray.data_append, Array.toList_extract, Array.toList_append, ByteArray.size, List.extract_eq_take_drop, Nat.sub_zero, List.drop_zero]
  rw [← Array.length_toList, List.take_left']
  rfl
theorem ext_app (s : ByteArray) (n : Nat) : s = s.extract 0 n ++ s.extract n s.size := by
  apply data_inj
  simp only [ByteArray.data_extract, ByteArray.data_append, Array.toList_extract, Array.toList_append, ByteArray.size, List.extract_eq_take_drop, Nat.sub_zero, List.drop_zero]
  rw [← Array.length_toList, ← List.length_drop, List.take_length, List.take_append_drop]
def head1 (k : Int) : ByteArray := dgs k ++ ⟨#[46]⟩
def head2 (k j : Int) : ByteArray := dgs k ++ ⟨#[46]⟩ ++ dgs j ++ ⟨#[46]⟩
theorem dot_size : (⟨#[46]⟩ : ByteArray).size = 1 := rfl
theorem head1_size (k : Int) : (head1 k).size = (dgs k).size + 1 := by unfold head1; rw [app_size]; rfl
theorem head2_size (k j : Int) : (head2 k j).size = (dgs k).size + 1 + (dgs j).size + 1 := by unfold head2; rw [app_size, app_size, app_size]; rfl
theorem mkT_head2 (f : ByteArray) (k j : Int) : mkT f k j = head2 k j ++ f := rfl
theorem mkT_head1 (f : ByteArray) (k j : Int) : mkT f k j = head1 k ++ (dgs j ++ dot ++ f) := by
  apply data_inj; rw [mkT_data]; simp [head1, dot]
theorem no1 {s : ByteArray} {k : Nat} (hno : NoTok s k) (h : ¬ ((dgs k).size + 1 ≤ s.size ∧ s.extract 0 ((dgs k).size + 1) = dgs k ++ ⟨#[46]⟩)) : NoTok s (k + 1) := by
  intro f n t hr hn he
  by_cases hk : n < k
  · exact hno f n t hr hk he
  · obtain rfl : n = (k : Int) := by omega
    rw [mkT_head1] at he
    refine h ⟨?_, ?_⟩
    · rw [he, app_size, head1_size]; omega
    · rw [he, ← head1_size, app_ext]; rfl
theorem no2 {s : ByteArray} {k j : Nat} (hno : NoTok2 s k j) (h : ¬ ((dgs k).size + 1 + (dgs j).size + 1 < s.size ∧ s.extract 0 ((dgs k).size + 1 + (dgs j).size + 1) = head2 k j ∧ s.size - ((dgs k).size + 1 + (dgs j).size + 1) ≤ 40)) : NoTok2 s k (j + 1) := by
  intro f t hr hn he
  by_cases hk : t < j
  · exact hno f t hr hk he
  · obtain rfl : t = (j : Int) := by omega
    have hr' := rightB_iff.1 hr
    rw [mkT_head2] at he
    have hsz : s.size = (dgs k).size + 1 + (dgs j).size + 1 + f.size := by rw [he, app_size, head2_size]
    refine h ⟨by omega, ?_, by omega⟩
    rw [he, ← head2_size, app_ext]
theorem hit {s : ByteArray} {k j : Nat} (hk : 1 ≤ k) (hk2 : k ≤ 200) (hj : 1 ≤ j) (hj2 : j ≤ 100) (h1 : (dgs k).size + 1 + (dgs j).size + 1 < s.size) (h2 : s.extract 0 ((dgs k).size + 1 + (dgs j).size + 1) = head2 k j)
    (h3 : s.size - ((dgs k).size + 1 + (dgs j).size + 1) ≤ 40) : readT s = some (s.extract ((dgs k).size + 1 + (dgs j).size + 1) s.size, (k : Int), (j : Int)) := by
  rw [readT_iff]
  have hz : (s.extract ((dgs k).size + 1 + (dgs j).size + 1) s.size).size = s.size - ((dgs k).size + 1 + (dgs j).size + 1) := by
    rw [ByteArray.size_extract]; omega
  refine ⟨rightB_iff.2 ⟨?_, ?_, by omega, by omega, by omega, by omega⟩, ?_⟩
  · omega
  · omega
  · rw [mkT_head2, ← h2]
    exact ext_app s _
theorem no_all {s : ByteArray} (h : NoTok s 201) : readT s = none :=
  readT_none fun f n t hr => h f n t hr (by have := rightB_iff.1 hr; omega)
theorem no_next {s : ByteArray} {k : Nat} (h : NoTok s k) (h2 : NoTok2 s k 101) : NoTok s (k + 1) := by
  intro f n t hr hn he
  by_cases hk : n < k
  · exact h f n t hr hk he
  · obtain rfl : n = (k : Int) := by omega
    exact h2 f t hr (by have := rightB_iff.1 hr; omega) he
theorem no_start (s : ByteArray) : NoTok s 1 := fun f n t hr hn _ => by have := rightB_iff.1 hr; omega
theorem no2_start (s : ByteArray) (k : Nat) : NoTok2 s k 1 := fun f t hr hn _ => by have := rightB_iff.1 hr; omega
theorem toList_same {a b : ByteArray} (h : a = b) : (!a.toList == b.toList) = false := by subst h; simp
set_option maxHeartbeats 4000000 in
theorem rread_any (s : ByteArray) (w : World) (hs : s.size ≤ 3000) :
    Calls Tryd.prog 24 #[.string s] w fun e w' => e = .returned (tokV (readT s)) ∧ Below w.heap.size w w' := by
  go_enter Tryd.func24, Tryd.ntmps24
  go_wp2
  go_loopw [4] (fun i wr => ∃ k : Nat, 1 ≤ k ∧ k ≤ 201 ∧ i = .int .i64 k ∧ Hid (NoTok s k) ∧ Below w.heap.size w wr ∧ wr.heap[w.heap.size]? = some (.cells #[.string ⟨#[]⟩, .int .i64 0, .int .i64 0] 49)) (fun i _ => 201 - (intOf i).toNat)
  case atStart => exact ⟨1, by omega, by omega, rfl, no_start s, (Below.refl _ _).alloc (Nat.le_refl _) _, alloc_at _ _⟩
  case round =>
    obtain ⟨k, hk1, hk2, rfl, hno, hB, hK⟩ := hrel
    have hkl := blk_lt hK
    by_cases hlt : k ≤ 200
    · have z1 := dgs_size (n := (k : Int)) (by omega)
      by_cases hp : (dgs k).size + 1 ≤ s.size ∧ s.extract 0 ((dgs k).size + 1) = dgs k ++ ⟨#[46]⟩
      · obtain ⟨hp1, hp2⟩ := hp
        have hp3 := toList_same hp2
        clear hp2
        have hK' := Lib.hid hK; clear hK
        go_wp2_with fail
        refine (digits_any _ _ (by omega) (by omega)).mono ?_
        rintro e w1 ⟨rfl, hb1⟩
        have hK := blk_below hb1 hK'.out
        have hB1 := below_on hB (by omega) hb1
        clear hb1 hK'
        go_wp2_with fail
        go_loopw [6] (fun i wr => ∃ j : Nat, 1 ≤ j ∧ j ≤ 101 ∧ i = .int .i64 j ∧ Hid (NoTok2 s k j) ∧ Below w.heap.size w wr ∧ wr.heap[w.heap.size]? = some (.cells #[.string ⟨#[]⟩, .int .i64 0, .int .i64 0] 49)) (fun i _ => 101 - (intOf i).toNat)
        case atStart => exact ⟨1, by omega, by omega, rfl, no2_start s k, hB1, hK⟩
        case round =>
          clear hB hK hB1
          obtain ⟨j, hj1, hj2, rfl, hno2, hB, hK⟩ := hrel
          have hkl := blk_lt hK
          by_cases hlt2 : j ≤ 100
          · have z2 := dgs_size (n := (j : Int)) (by omega)
            by_cases hq1 : (dgs k).size + 1 + (dgs j).size + 1 < s.size
            · by_cases hq2 : s.extract 0 ((dgs k).size + 1 + (dgs j).size + 1) = head2 k j
              · have hq3 := toList_same hq2
                unfold head2 at hq3
                have hq2' := Lib.hid hq2
                clear hq2
                have hK' := Lib.hid hK; clear hK
                go_wp2_with fail
                refine (digits_any _ _ (by omega) (by omega)).mono ?_
                rintro e w2 ⟨rfl, hb2⟩
                have hK := blk_below hb2 hK'.out
                have hB2 := below_on hB (by omega) hb2
                have hs2 := hb2.size
                clear hb2 hK' hB
                by_cases hm : s.size - ((dgs k).size + 1 + (dgs j).size + 1) ≤ 40
                · have hd := Lib.hid (hit hk1 hlt hj1 hlt2 hq1 hq2'.out hm)
                  have q0 : w2.cell? ⟨w.heap.size, 0, none⟩ = some (.string ⟨#[]⟩) := blk_cell hK 0
                  have q1 : w2.cell? ⟨w.heap.size, 1, none⟩ = some (.int .i64 0) := blk_cell hK 1
                  have q2 : w2.cell? ⟨w.heap.size, 2, none⟩ = some (.int .i64 0) := blk_cell hK 2
                  have f0 := blk_free hK 0
                  have f1 := blk_free hK 1
                  have f2 := blk_free hK 2
                  clear hK
                  go_wp2_with fail
                  exact bodyPost_ret (v := .tuple #[.agg #[.string (s.extract ((dgs k).size + 1 + (dgs j).size + 1) s.size), .int .i64 k, .int .i64 j], .int .i64 0]) (by simp [results, Tryd.results24, go_sem, q0, q1, q2]) rfl ⟨by rw [hd.out]; rfl, (((hB2.alloc (by omega) _).setCell (Nat.le_refl _) _).setCell (Nat.le_refl _) _).setCell (Nat.le_refl _) _⟩
                · have hn := Lib.hid (no2 hno2.out (fun h => hm h.2.2))
                  have hK' := Lib.hid hK; clear hK
                  go_wp2
                  go_roundw
                  case rel => exact ⟨j + 1, by omega, by omega, by go_num, hn.out, hB2.alloc (by omega) _, blk_alloc hK'.out _⟩
                  case measure => simp [intOf]; omega
              · have hn := Lib.hid (no2 hno2.out (fun h => hq2 h.2.1))
                have hq3 := toList_ne hq2
                unfold head2 at hq3
                clear hq2
                have hK' := Lib.hid hK; clear hK
                go_wp2_with fail
                refine (digits_any _ _ (by omega) (by omega)).mono ?_
                rintro e w2 ⟨rfl, hb2⟩
                have hK := blk_below hb2 hK'.out
                have hB2 := below_on hB (by omega) hb2
                have hs2 := hb2.size
                clear hb2 hK' hB
                have hK' := Lib.hid hK; clear hK
                go_wp2
                go_roundw
                case rel => exact ⟨j + 1, by omega, by omega, by go_num, hn.out, hB2, hK'.out⟩
                case measure => simp [intOf]; omega
            · have hn := Lib.hid (no2 hno2.out (fun h => hq1 h.1))
              have hK' := Lib.hid hK; clear hK
              go_wp2_with fail
              refine (digits_any _ _ (by omega) (by omega)).mono ?_
              rintro e w2 ⟨rfl, hb2⟩
              have hK := blk_below hb2 hK'.out
              have hB2 := below_on hB (by omega) hb2
              have hs2 := hb2.size
              clear hb2 hK' hB
              have hK' := Lib.hid hK; clear hK
              go_wp2
              go_roundw
              case rel => exact ⟨j + 1, by omega, by omega, by go_num, hn.out, hB2, hK'.out⟩
              case measure => simp [intOf]; omega
          · obtain rfl : j = 101 := by omega
            have hn := Lib.hid (no_next hno.out hno2.out)
            have hK' := Lib.hid hK; clear hK
            go_wp2
            go_roundw
            case rel => exact ⟨k + 1, by omega, by omega, by go_num, hn.out, hB, hK'.out⟩
            case measure => simp [intOf]; omega
      · have hn := Lib.hid (no1 hno.out hp)
        by_cases hp1 : (dgs k).size + 1 ≤ s.size
        · have hp3 := toList_ne (fun e => hp ⟨hp1, e⟩)
          clear hp
          have hK' := Lib.hid hK; clear hK
          go_wp2_with fail
          refine (digits_any _ _ (by omega) (by omega)).mono ?_
          rintro e w1 ⟨rfl, hb1⟩
          go_wp2
          go_roundw
          case rel => exact ⟨k + 1, by omega, by omega, by go_num, hn.out, below_on hB (by omega) hb1, blk_below hb1 hK'.out⟩
          case measure => simp [intOf]; omega
        · clear hp
          have hK' := Lib.hid hK; clear hK
          go_wp2_with fail
          refine (digits_any _ _ (by omega) (by omega)).mono ?_
          rintro e w1 ⟨rfl, hb1⟩
          go_wp2
          go_roundw
          case rel => exact ⟨k + 1, by omega, by omega, by go_num, hn.out, below_on hB (by omega) hb1, blk_below hb1 hK'.out⟩
          case measure => simp [intOf]; omega
    · obtain rfl : k = 201 := by omega
      have hd := Lib.hid (no_all hno.out)
      have q0 : wr.cell? ⟨w.heap.size, 0, none⟩ = some (.string ⟨#[]⟩) := blk_cell hK 0
      have q1 : wr.cell? ⟨w.heap.size, 1, none⟩ = some (.int .i64 0) := blk_cell hK 1
      have q2 : wr.cell? ⟨w.heap.size, 2, none⟩ = some (.int .i64 0) := blk_cell hK 2
      have f0 := blk_free hK 0
      have f1 := blk_free hK 1
      have f2 := blk_free hK 2
      clear hK
      go_wp2_with fail
      exact bodyPost_ret (v := .tuple #[.agg #[.string ⟨#[]⟩, .int .i64 0, .int .i64 0], .int .i64 109]) (by simp [results, Tryd.results24, go_sem, q0, q1, q2]) rfl ⟨by rw [hd.out]; rfl, ((hB.setCell (Nat.le_refl _) _).setCell (Nat.le_refl _) _).setCell (Nat.le_refl _) _⟩
end Go.Proofs.YtckooioikcenmaaDoor

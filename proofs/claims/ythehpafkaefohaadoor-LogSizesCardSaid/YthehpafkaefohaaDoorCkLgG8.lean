/- Walks: the number that a name tells. Conditions: texts of at most 3000 bytes; the library's variables read as they are laid. -/
import Derived.Test.YthehpafkaefohaaDoorCkLgN1
import Derived.Test.YthehpafkaefohaaDoorCkM17
import Derived.Lib.SmallJoins
namespace Go.Proofs.YthehpafkaefohaaDoor
open Go.RowKit
/-- a text without its first byte, where that is a w -/
def cutW (s : ByteArray) : ByteArray × Bool := if 1 ≤ s.size ∧ (s.extract 0 1).toList = [119] then (s.extract 1 s.size, true) else (s, false)
set_option maxRecDepth 20000 in
set_option maxHeartbeats 1000000 in
theorem cutPrefix_any (s : ByteArray) (w : World) (hs : s.size ≤ 3000) : Calls Tryd.prog 60 #[.string s, .string ⟨#[119]⟩] w fun e w' => e = .returned (.tuple #[.string (cutW s).1, .bool (cutW s).2]) ∧ w = w' := by
  by_cases h1 : 1 ≤ s.size
  · have h1i : (1 : Int) ≤ s.size := by omega
    by_cases h2 : (s.extract 0 1).toList = [119]
    · have hq : cutW s = (s.extract 1 s.size, true) := by unfold cutW; rw [if_pos ⟨h1, h2⟩]
      have HQ := Lib.hid hq
      have e1 : ((s.extract 0 1).toList == [119]) = true := by rw [h2]; rfl
      have e2 : (⟨#[119]⟩ : ByteArray).toList = [119] := by rw [ByteArray.toList_eq]
      clear hq h2
      go_enter Tryd.func60, Tryd.ntmps60
      go_wp2
      exact bodyPost_ret (v := .tuple #[.string (s.extract 1 s.size), .bool true]) (by simp [results]) rfl ⟨by rw [HQ.out], rfl⟩
    · have hq : cutW s = (s, false) := by unfold cutW; rw [if_neg (fun h => h2 h.2)]
      have HQ := Lib.hid hq
      have e1 : ((s.extract 0 1).toList == [119]) = false := by simpa using h2
      have e2 : (⟨#[119]⟩ : ByteArray).toList = [119] := by rw [ByteArray.toList_eq]
      clear hq h2
      go_enter Tryd.func60, Tryd.ntmps60
      go_wp2
      exact bodyPost_ret (v := .tuple #[.string s, .bool false]) (by simp [results]) rfl ⟨by rw [HQ.out], rfl⟩
  · have hq : cutW s = (s, false) := by unfold cutW; rw [if_neg (fun h => h1 h.1)]
    have HQ := Lib.hid hq
    have h1i : ¬ (1 : Int) ≤ s.size := by omega
    clear hq h1
    go_enter Tryd.func60, Tryd.ntmps60
    go_wp2
    exact bodyPost_ret (v := .tuple #[.string s, .bool false]) (by simp [results]) rfl ⟨by rw [HQ.out], rfl⟩
theorem cutW_size (s : ByteArray) : (cutW s).1.size ≤ s.size := by
  unfold cutW
  split
  · simp [ByteArray.size_extract]
  · exact Nat.le_refl _
theorem bytesWorld_below (w : World) (t : ByteArray) : Below w.heap.size w (Lib.bytesWorld w 5 t) := Joins.below_bytesWorld _ w 5 t (Nat.le_refl _)
theorem atoi_ok (d : ByteArray) (v : Int) (w : World) (hs : d.size ≤ 3000) (h : Lib.atoiAll d.data.toList = .ok v) :
    Calls Tryd.prog 61 #[.string d] w fun e w' => e = .returned (.tuple #[.int .i64 v, .nilIface]) ∧ Below w.heap.size w w' := by
  refine (Tryd.strconv_Atoi_ok d (by omega) v h w).mono ?_
  rintro e w' ⟨rfl, h | ⟨t, h⟩⟩
  · subst h; exact ⟨rfl, Below.refl _ _⟩
  · subst h; exact ⟨rfl, bytesWorld_below _ _⟩
theorem atoi_no (d : ByteArray) (w : World) (hs : d.size ≤ 3000) (h : ∀ v, Lib.atoiAll d.data.toList ≠ .ok v) (hg : GOK w) :
    Calls Tryd.prog 61 #[.string d] w fun e w' => (∃ n T N, e = .returned (.tuple #[.int .i64 n, .iface T (.pointer (some ⟨N, 0, none⟩))])) ∧ Below w.heap.size w w' := by
  obtain ⟨e1, h1, h2⟩ := hg.syn
  obtain ⟨e2, h3, h4⟩ := hg.rng
  have a1 := fun hd => Any.strconv_Atoi_syntax Tryd.laysC172 d (by omega) hd e1 w h1 h2
  cases hd : Lib.atoiAll d.data.toList with
  | ok v => exact absurd hd (h v)
  | range =>
    refine (Tryd.strconv_Atoi_range d (by omega) hd e2 w h3 h4).mono ?_
    rintro e w' ⟨N, rfl, _, _, hb⟩
    exact ⟨⟨_, _, _, rfl⟩, hb⟩
  | _ =>
    refine (a1 hd).mono ?_
    rintro e w' ⟨N, rfl, _, _, hb⟩
    exact ⟨⟨_, _, _, rfl⟩, hb⟩
def firstL (s : ByteArray) : Int × Bool := match Lib.atoiAll (cutW s).1.data.toList with
  | .ok n => if (cutW s).2 = true ∧ nameL n = s then (n, true) else (0, false)
  | _ => (0, false)
theorem str_eqB (s t : ByteArray) : (s.toList == t.toList) = decide (s = t) := by
  by_cases h : s = t
  · subst h; simp
  · simp only [h, decide_false, beq_eq_false_iff_ne]
    exact fun e => h (eqN_data.1 (eqN_iff.2 e))
set_option maxRecDepth 20000 in
set_option maxHeartbeats 1000000 in
theorem first_any (s : ByteArray) (w : World) (hs : s.size ≤ 3000) (hg : GOK w) : Calls Tryd.prog 37 #[.string s] w fun e w' => e = .returned (.tuple #[.int .i64 (firstL s).1, .bool (firstL s).2]) ∧ Below w.heap.size w w' := by
  have HC := Lib.hid (cutPrefix_any s w hs)
  have hcs : (cutW s).1.size ≤ 3000 := Nat.le_trans (cutW_size s) hs
  obtain ⟨⟨dg, ok⟩, hcw⟩ : ∃ x, cutW s = x := ⟨_, rfl⟩
  rw [hcw] at HC hcs
  obtain ⟨r, hr⟩ : ∃ r, firstL s = r := ⟨_, rfl⟩
  have hrd : r = (match Lib.atoiAll dg.data.toList with
    | .ok n => if ok = true ∧ nameL n = s then (n, true) else (0, false)
    | _ => (0, false)) := by rw [← hr]; unfold firstL; rw [hcw]
  rw [hr]
  have HRD := Lib.hid hrd
  have HG := Lib.hid hg
  by_cases hv : ∃ v, Lib.atoiAll dg.data.toList = .ok v
  · obtain ⟨n, hv⟩ := hv
    have HA := Lib.hid (atoi_ok dg n w hcs hv)
    have hq : r = if ok = true ∧ nameL n = s then (n, true) else (0, false) := by rw [HRD.out, hv]
    have HQ := Lib.hid hq
    clear hg hs hcs hcw hr hrd HRD hv hq
    cases ok with
    | false =>
      have HP : Hid (r = (0, false)) := by show _ = _; rw [HQ.out]; simp
      go_enter Tryd.func37, Tryd.ntmps37
      go_wp2_with fail
      refine HC.out.mono ?_
      rintro e w2 ⟨rfl, hw⟩
      subst hw
      go_wp2_with fail
      refine HA.out.mono ?_
      rintro e w3 ⟨rfl, hb⟩
      go_wp2
      exact bodyPost_ret (v := .tuple #[.int .i64 0, .bool false]) (by simp [results]) rfl ⟨by rw [HP.out], hb⟩
    | true =>
      have HNM := Lib.hid (fun w2 (hb2 : Below w.heap.size w w2) => name_any n w2 (HG.out.below hb2))
      obtain ⟨nm, hnm⟩ : ∃ nm, nameL n = nm := ⟨_, rfl⟩
      rw [hnm] at HNM HQ
      clear hnm
      by_cases he : nm = s
      · have HP : Hid (r = (n, true)) := by show _ = _; rw [HQ.out, if_pos ⟨rfl, he⟩]
        subst he
        go_enter Tryd.func37, Tryd.ntmps37
        go_wp2_with fail
        refine HC.out.mono ?_
        rintro e w2 ⟨rfl, hw⟩
        subst hw
        go_wp2_with fail
        refine HA.out.mono ?_
        rintro e w3 ⟨rfl, hb⟩
        have HB := Lib.hid hb
        clear hb
        go_wp2_with fail
        refine (HNM.out _ HB.out).mono ?_
        rintro e w4 ⟨rfl, hb⟩
        have HB4 := Lib.hid (HB.out.trans (hb.mono HB.out.size))
        clear hb
        go_wp2
        exact bodyPost_ret (v := .tuple #[.int .i64 n, .bool true]) (by simp [results]) rfl ⟨by rw [HP.out], HB4.out⟩
      · have HP : Hid (r = (0, false)) := by show _ = _; rw [HQ.out, if_neg (fun h => he h.2)]
        have hne : (nm.toList == s.toList) = false := by rw [str_eqB]; simp [he]
        clear he
        go_enter Tryd.func37, Tryd.ntmps37
        go_wp2_with fail
        refine HC.out.mono ?_
        rintro e w2 ⟨rfl, hw⟩
        subst hw
        go_wp2_with fail
        refine HA.out.mono ?_
        rintro e w3 ⟨rfl, hb⟩
        have HB := Lib.hid hb
        clear hb
        go_wp2_with fail
        refine (HNM.out _ HB.out).mono ?_
        rintro e w4 ⟨rfl, hb⟩
        have HB4 := Lib.hid (HB.out.trans (hb.mono HB.out.size))
        clear hb
        go_wp2
        exact bodyPost_ret (v := .tuple #[.int .i64 0, .bool false]) (by simp [results]) rfl ⟨by rw [HP.out], HB4.out⟩
  · have HP : Hid (r = (0, false)) := by
      show _ = _
      rw [HRD.out]
      cases h : Lib.atoiAll dg.data.toList with
      | ok v => exact absurd ⟨v, h⟩ hv
      | _ => rfl
    have HA := Lib.hid (atoi_no dg w hcs (fun v h => hv ⟨v, h⟩) hg)
    clear hg hs hcs hcw hr hrd HRD hv
    cases ok with
    | false =>
      go_enter Tryd.func37, Tryd.ntmps37
      go_wp2_with fail
      refine HC.out.mono ?_
      rintro e w2 ⟨rfl, hw⟩
      subst hw
      go_wp2_with fail
      refine HA.out.mono ?_
      rintro e w3 ⟨⟨n, T, N, rfl⟩, hb⟩
      go_wp2
      exact bodyPost_ret (v := .tuple #[.int .i64 0, .bool false]) (by simp [results]) rfl ⟨by rw [HP.out], hb⟩
    | true =>
      go_enter Tryd.func37, Tryd.ntmps37
      go_wp2_with fail
      refine HC.out.mono ?_
      rintro e w2 ⟨rfl, hw⟩
      subst hw
      go_wp2_with fail
      refine HA.out.mono ?_
      rintro e w3 ⟨⟨n, T, N, rfl⟩, hb⟩
      go_wp2
      exact bodyPost_ret (v := .tuple #[.int .i64 0, .bool false]) (by simp [results]) rfl ⟨by rw [HP.out], hb⟩
end Go.Proofs.YthehpafkaefohaaDoor

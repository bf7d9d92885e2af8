/- bytes.GetUint at any bytes, and the walks of GetInt and GetBlob. Conditions: sizes a machine can have. -/
import Derived.Test.YtckooioikcenmaaDoorBytesW3
import Derived.Laws.CopyOwn
import Derived.Laws.MakeOwn
namespace Go.Proofs.YtckooioikcenmaaDoor
open Go.RowKit
theorem RdB.form {w : World} {v : Value} {ys : List UInt8} (h : RdB w v ys) : ∃ A c, v = .slice A ys.length c ∧ ys.length ≤ c ∧ c ≤ maxLen := by
  rcases h with ⟨rfl, rfl⟩ | ⟨b, o, c, rfl, h1, h2, _⟩
  · exact ⟨_, _, rfl, Nat.le_refl _, by simp [maxLen]⟩
  · exact ⟨_, _, rfl, h1, h2⟩
theorem getUint_out (v : Value) (ys : List UInt8) (a : Int) (w : World) (hr : RdB w v ys) (ha : a < 0 ∨ (ys.length : Int) < a) (h64 : a ≤ 9223372036854775807) :
    Calls Tryd.prog 50 #[v, .int .i64 a] w (GetPost ys a w) := by
  obtain ⟨A, c, rfl, hc, hm⟩ := hr.form
  have hd := Lib.hid (show getU ys a = (0, 0, 2) by unfold getU; rw [if_pos ha])
  unfold maxLen at hm
  have hl : (ys.length : Int) ≤ 9223372036854775807 := by omega
  by_cases h0 : a < 0
  · clear ha
    go_enter Tryd.func50, Tryd.ntmps50
    go_wp2
    go_ret3
    exact ⟨by rw [hd.out]; rfl, rfl⟩
  · have h1 : (ys.length : Int) < a := by omega
    clear ha
    go_enter Tryd.func50, Tryd.ntmps50
    go_wp2
    go_ret3
    exact ⟨by rw [hd.out]; rfl, rfl⟩
theorem getUint_end (v : Value) (ys : List UInt8) (w : World) (hr : RdB w v ys) :
    Calls Tryd.prog 50 #[v, .int .i64 (ys.length : Int)] w (GetPost ys (ys.length : Int) w) := by
  have hd := Lib.hid (getU_of (ys := ys) (a := ys.length) (Nat.le_refl _) (n := 0) (c := 0) (e := 11) (by rw [List.drop_length]; rfl))
  rcases hr with ⟨rfl, rfl⟩ | ⟨b, o, c, rfl, h1, h2, _, hcell⟩
  · go_enter Tryd.func50, Tryd.ntmps50
    go_wp2
    refine wp_loop_once ?_
    go_wp2
    go_ret3
    exact ⟨rfl, rfl⟩
  · unfold maxLen at h2
    clear hcell
    by_cases hcap : c = ys.length
    · subst hcap
      go_enter Tryd.func50, Tryd.ntmps50
      go_wp2
      refine wp_loop_once ?_
      go_wp2
      go_ret3
      exact ⟨by rw [hd.out]; rfl, rfl⟩
    · go_enter Tryd.func50, Tryd.ntmps50
      go_wp2
      refine wp_loop_once ?_
      go_wp2
      go_ret3
      exact ⟨by rw [hd.out]; rfl, rfl⟩
theorem getUint_any (v : Value) (ys : List UInt8) (a : Int) (w : World) (hr : RdB w v ys) (h64 : a ≤ 9223372036854775807) :
    Calls Tryd.prog 50 #[v, .int .i64 a] w (GetPost ys a w) := by
  by_cases ha : a < 0 ∨ (ys.length : Int) < a
  · exact getUint_out v ys a w hr ha h64
  · obtain ⟨k, rfl⟩ := Int.eq_ofNat_of_zero_le (by omega : 0 ≤ a)
    by_cases hk : k = ys.length
    · subst hk; exact getUint_end v ys w hr
    · rcases hr with ⟨rfl, rfl⟩ | ⟨b, o, c, rfl, h1, h2, _, hcell⟩
      · simp at hk ha; omega
      · exact getUint_in b o c ys k w h1 h2 (by omega) hcell
/-- what GetUint answers is in range -/
theorem getU_range (ys : List UInt8) (a : Int) (hl : ys.length ≤ 140737488355328) : (getU ys a).1 < 18446744073709551616 ∧ 0 ≤ (getU ys a).2.1 ∧ (getU ys a).2.1 ≤ ys.length := by
  unfold getU
  split
  · simp
  · rename_i h
    generalize hg : gU (ys.drop a.toNat) 0 0 = g
    obtain ⟨n, c, e⟩ := g
    simp only
    by_cases he : e = 0
    · subst he
      obtain ⟨h1, h2, h3⟩ := gU_zero_back hg
      have h4 := congrArg List.length h3
      rw [List.length_append, List.length_drop, List.length_drop, ← h2] at h4
      simp only [if_true]
      omega
    · obtain ⟨h1, h2, _⟩ := gU_err _ _ _ _ _ _ hg he
      subst h1
      rw [if_neg he]
      omega
/-- what GetInt answers -/
def getI (ys : List UInt8) (a : Int) : Int × Int × Int := (zig (getU ys a).1, (getU ys a).2)
def GetIPost (ys : List UInt8) (a : Int) (w : World) (e : Ending) (w' : World) : Prop :=
  e = .returned (.tuple #[.int .i64 (getI ys a).1, .int .i64 (getI ys a).2.1, .int .i64 (getI ys a).2.2]) ∧ w = w'
theorem getInt_any (v : Value) (ys : List UInt8) (a : Int) (w : World) (hr : RdB w v ys) (h64 : a ≤ 9223372036854775807) (hl : ys.length ≤ 140737488355328) :
    Calls Tryd.prog 51 #[v, .int .i64 a] w (GetIPost ys a w) := by
  have hG := getUint_any v ys a w hr h64
  obtain ⟨r1, r2, r3⟩ := getU_range ys a hl
  have hd := Lib.hid (show getI ys a = (zig (getU ys a).1, (getU ys a).2.1, (getU ys a).2.2) from rfl)
  unfold GetPost at hG
  generalize (getU ys a).1 = n at *
  generalize (getU ys a).2.1 = m at *
  generalize (getU ys a).2.2 = e at *
  have HG := Lib.hid hG
  clear hG
  by_cases ho : n % 2 = 1
  · have hz := Lib.hid (show zig n = -((n / 2 : Nat) : Int) - 1 by unfold zig; rw [if_pos ho])
    have ho' : ((n : Int) % 2 == 1) = true := by rw [beq_iff_eq]; omega
    clear ho
    go_enter Tryd.func51, Tryd.ntmps51
    go_wp2_with fail
    refine HG.out.mono ?_
    rintro e w' ⟨rfl, rfl⟩
    go_wp2
    go_ret3
    exact ⟨by rw [hd.out, hz.out]; simp, rfl⟩
  · have hz := Lib.hid (show zig n = ((n / 2 : Nat) : Int) by unfold zig; rw [if_neg ho])
    have ho' : ((n : Int) % 2 == 1) = false := by rw [beq_eq_false_iff_ne]; omega
    clear ho
    go_enter Tryd.func51, Tryd.ntmps51
    go_wp2_with fail
    refine HG.out.mono ?_
    rintro e w' ⟨rfl, rfl⟩
    go_wp2
    go_ret3
    exact ⟨by rw [hd.out, hz.out]; simp, rfl⟩
end Go.Proofs.YtckooioikcenmaaDoor

/- TokenBack: the law's walk, whole. Conditions: the library's variables read as they are laid. -/
import Derived.Test.YtckooioikcenmaaDoorTokL3b
namespace Go.Proofs.YtckooioikcenmaaDoor
open Go.RowKit
attribute [local go_sem] frozen?_alloc_cells World.cell?_alloc_some
set_option maxRecDepth 20000 in
set_option maxHeartbeats 4000000 in
theorem back_any (f : ByteArray) (n t : Int) (f2 : ByteArray) (n2 t2 : Int) (s : ByteArray) (w : World) (hg : GOK w) :
    Calls Tryd.prog 8 #[.agg #[.string f, .int .i64 n, .int .i64 t], .agg #[.string f2, .int .i64 n2, .int .i64 t2], .string s] w fun e w' => e = .returned (.bool true) ∧ Below w.heap.size w w' := by
  have hg0 := hg.below (((Below.refl w.heap.size w).alloc (Nat.le_refl _) (.cells #[.string f, .int .i64 n, .int .i64 t] 49)).alloc (by simp) (.cells #[.string f2, .int .i64 n2, .int .i64 t2] 49))
  by_cases z1 : f.size ≤ 3000
  · by_cases z2 : f2.size ≤ 3000
    · by_cases z3 : s.size ≤ 3000
      · cases h1 : rightB f n t with
        | true =>
          cases h2 : rightB f2 n2 t2 with
          | true =>
            cases hr : readT s with
            | some x =>
              obtain ⟨f3, n3, t3⟩ := x
              by_cases e1 : f = f2
              · subst e1
                by_cases e2 : n = n2
                · subst e2
                  by_cases e3 : t = t2
                  · subst e3; exact back_11same1 f n t s z1 z3 h1 f3 n3 t3 hr w hg
                  · exact back_11t1 f n t t2 s z1 z3 h1 e3 h2 f3 n3 t3 hr w hg
                · exact back_11n1 f n t n2 t2 s z1 z3 h1 e2 h2 f3 n3 t3 hr w hg
              · exact back_11f1 f n t f2 n2 t2 s z1 z2 z3 h1 e1 h2 f3 n3 t3 hr w hg
            | none =>
              by_cases e1 : f = f2
              · subst e1
                by_cases e2 : n = n2
                · subst e2
                  by_cases e3 : t = t2
                  · subst e3; exact back_11same0 f n t s z1 z3 h1 hr w hg
                  · exact back_11t0 f n t t2 s z1 z3 h1 e3 h2 hr w hg
                · exact back_11n0 f n t n2 t2 s z1 z3 h1 e2 h2 hr w hg
              · exact back_11f0 f n t f2 n2 t2 s z1 z2 z3 h1 e1 h2 hr w hg
          | false =>
            cases hr : readT s with
            | some x => obtain ⟨f3, n3, t3⟩ := x; exact back_101 f n t f2 n2 t2 s z1 z2 z3 h1 h2 f3 n3 t3 hr w hg
            | none => exact back_100 f n t f2 n2 t2 s z1 z2 z3 h1 h2 hr w hg
        | false =>
          cases h2 : rightB f2 n2 t2 with
          | true =>
            cases hr : readT s with
            | some x => obtain ⟨f3, n3, t3⟩ := x; exact back_011 f n t f2 n2 t2 s z1 z2 z3 h1 h2 f3 n3 t3 hr w hg
            | none => exact back_010 f n t f2 n2 t2 s z1 z2 z3 h1 h2 hr w hg
          | false =>
            cases hr : readT s with
            | some x => obtain ⟨f3, n3, t3⟩ := x; exact back_001 f n t f2 n2 t2 s z1 z2 z3 h1 h2 f3 n3 t3 hr w hg
            | none => exact back_000 f n t f2 n2 t2 s z1 z2 z3 h1 h2 hr w hg
      · go_enter Tryd.func8, Tryd.ntmps8
        go_wp2_with fail
        refine (awake_any _ hg0).mono ?_
        rintro e w1 ⟨rfl, hb⟩
        go_wp2_with fail
        go_ret
        exact ⟨rfl, (((Below.refl w.heap.size w).alloc (Nat.le_refl _) _).alloc (by simp) _).trans (hb.mono (by simp; omega))⟩
    · go_enter Tryd.func8, Tryd.ntmps8
      go_wp2_with fail
      refine (awake_any _ hg0).mono ?_
      rintro e w1 ⟨rfl, hb⟩
      go_wp2_with fail
      go_ret
      exact ⟨rfl, (((Below.refl w.heap.size w).alloc (Nat.le_refl _) _).alloc (by simp) _).trans (hb.mono (by simp; omega))⟩
  · go_enter Tryd.func8, Tryd.ntmps8
    go_wp2_with fail
    refine (awake_any _ hg0).mono ?_
    rintro e w1 ⟨rfl, hb⟩
    go_wp2_with fail
    go_ret
    exact ⟨rfl, (((Below.refl w.heap.size w).alloc (Nat.le_refl _) _).alloc (by simp) _).trans (hb.mono (by simp; omega))⟩
end Go.Proofs.YtckooioikcenmaaDoor

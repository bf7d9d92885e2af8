/- Walks of the token functions: right, Make, the reference's digits and Make. Conditions: the library's table of powers of ten reads as it is laid. -/
import Derived.Test.YtckooioikcenmaaDoorTokPure
import Derived.Test.YtckooioikcenmaaDoorProg
import Derived.Test.YtckooioikcenmaaDoorShelf
import Derived.WalkKit
import Derived.Below
import Derived.Lib.Hide
import Derived.Laws.BytesArg
import Derived.Deep.QuietTactic
import Derived.BigQuiet
import Derived.Deep.RegionWith
namespace Go.Proofs.YtckooioikcenmaaDoor
open Go.RowKit
set_option maxRecDepth 100000 in
set_option maxHeartbeats 400000 in
theorem digits_1 (n : Int) (w : World) (h0 : 0 ≤ n) (h1 : n < 10) :
    Calls Tryd.prog 38 #[.int .i64 n] w fun e w' => e = .returned (.string (dgs n)) ∧ Below w.heap.size w w' := by
  have hc := run_convert_bytes_arg (P := Tryd.prog) (w := w.alloc (.cells #[.int .u8 (48+n)] 5)) 35 5 Tryd.underlying35 Tryd.underlying5 w.heap.size 0 1 1 [48+n] rfl (by
    intro i hi
    obtain rfl : i = 0 := by omega
    simp [go_sem]) 9 Tryd.underlying9
  have hd := Lib.hid (dgs_small h0 h1)
  go_enter Tryd.func38, Tryd.ntmps38
  go_wp2
  go_ret
  exact ⟨by rw [hd.out]; rfl, (Below.refl _ _).alloc (Nat.le_refl _) _⟩
theorem digits_2 (n : Int) (w : World) (h0 : 10 ≤ n) (h1 : n < 100) :
    Calls Tryd.prog 38 #[.int .i64 n] w fun e w' => e = .returned (.string (dgs n)) ∧ Below w.heap.size w w' := by
  have hd := Lib.hid (dgs_big h0)
  have s1 := dgs_size (n := n / 10) (by omega)
  have s2 := dgs_size (n := n % 10) (by omega)
  go_enter Tryd.func38, Tryd.ntmps38
  go_wp2_with fail
  refine (digits_1 _ _ (by omega) (by omega)).mono ?_
  rintro e w1 ⟨rfl, hb1⟩
  go_wp2_with fail
  refine (digits_1 _ _ (by omega) (by omega)).mono ?_
  rintro e w2 ⟨rfl, hb2⟩
  go_wp2
  go_ret
  exact ⟨by rw [hd.out]; rfl, hb1.trans (hb2.mono hb1.size)⟩
theorem digits_3 (n : Int) (w : World) (h0 : 100 ≤ n) (h1 : n < 1000) :
    Calls Tryd.prog 38 #[.int .i64 n] w fun e w' => e = .returned (.string (dgs n)) ∧ Below w.heap.size w w' := by
  have hd := Lib.hid (dgs_big (n := n) (by omega))
  have s1 := dgs_size (n := n / 10) (by omega)
  have s2 := dgs_size (n := n % 10) (by omega)
  go_enter Tryd.func38, Tryd.ntmps38
  go_wp2_with fail
  refine (digits_2 _ _ (by omega) (by omega)).mono ?_
  rintro e w1 ⟨rfl, hb1⟩
  go_wp2_with fail
  refine (digits_1 _ _ (by omega) (by omega)).mono ?_
  rintro e w2 ⟨rfl, hb2⟩
  go_wp2
  go_ret
  exact ⟨by rw [hd.out]; rfl, hb1.trans (hb2.mono hb1.size)⟩
theorem digits_any (n : Int) (w : World) (h0 : 0 ≤ n) (h1 : n < 1000) :
    Calls Tryd.prog 38 #[.int .i64 n] w fun e w' => e = .returned (.string (dgs n)) ∧ Below w.heap.size w w' := by
  by_cases h2 : n < 10
  · exact digits_1 n w h0 h2
  · by_cases h3 : n < 100
    · exact digits_2 n w (by omega) h3
    · exact digits_3 n w (by omega) h1
end Go.Proofs.YtckooioikcenmaaDoor

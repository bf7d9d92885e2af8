/- Walks: a segment's name, and the number that a name tells. Conditions: the library's variables read as they are laid. -/
import Derived.Test.YthehpafkaefohaaDoorCkM15
import Derived.Test.YthehpafkaefohaaDoorCkM0
import Derived.Test.YthehpafkaefohaaDoorCkShelfN
import Derived.Deep.RegionHeld3
namespace Go.Proofs.YthehpafkaefohaaDoor
open Go.RowKit
/-- What of the package-level variables is used. -/
structure GOK (w : World) : Prop where
  tab : Lib.TabIs Tryd.prog w "internal/strconv.uint64pow10" .u64 Lib.pow10Tab
  syn : ∃ ev, w.cell? ⟨1, 0, none⟩ = some ev ∧ (ev = .nilIface ∨ ∃ te pe, ev = .iface te pe)
  rng : ∃ ev, w.cell? ⟨2, 0, none⟩ = some ev ∧ (ev = .nilIface ∨ ∃ te pe, ev = .iface te pe)
theorem GOK.below {w w' : World} (h : GOK w) (hb : Below w.heap.size w w') : GOK w' := by
  refine ⟨?_, (let ⟨e, h1, h2⟩ := h.syn; ⟨e, cell_later hb h1, h2⟩), (let ⟨e, h1, h2⟩ := h.rng; ⟨e, cell_later hb h1, h2⟩)⟩
  have := h.tab
  unfold Lib.TabIs World.var? at *
  cases hg : Tryd.prog.globalNamed "internal/strconv.uint64pow10" with
  | none => rw [hg] at this; simp at this
  | some g =>
    rw [hg] at this
    simp only [Option.bind_some] at this ⊢
    by_cases hl : g < w.heap.size
    · rw [hb.block g hl]; exact this
    · rw [Array.getElem?_eq_none (by omega)] at this; simp at this
theorem GOK.drew {w : World} (h : GOK w) : GOK w.drew := ⟨h.tab, h.syn, h.rng⟩
/-- the library's variables stand below what may turn -/
def GB (S : List Nat) (w : World) : Prop := ∃ w0, GOK w0 ∧ Below w0.heap.size w0 w ∧ ∀ x ∈ S, w0.heap.size ≤ x
theorem GB.gok {S : List Nat} {w : World} (h : GB S w) : GOK w := by
  obtain ⟨w0, h1, h2, _⟩ := h
  exact h1.below h2
def bs (l : List UInt8) : ByteArray := ⟨l.toArray⟩
theorem bs_size (l : List UInt8) : (bs l).size = l.length := by simp [bs, ByteArray.size]
theorem below_grow (w : World) (os : Array Obj) : Below w.heap.size w (Sort.grow w os) :=
  ⟨rfl, rfl, rfl, by simp [Sort.grow], fun k hk => by
    show (w.heap ++ os)[k]? = _
    rw [Array.getElem?_append_left hk]⟩
theorem itoa_all (n : Int) (w : World) (h0 : -9223372036854775808 ≤ n) (h1 : n ≤ 9223372036854775807) (hg : GOK w) :
    Calls Tryd.prog 30 #[.int .i64 n] w fun e w' => e = .returned (.string (bs (Lib.itoa n))) ∧ Below w.heap.size w w' := by
  refine (Tryd.strconv_Itoa n (by omega) (by omega) w hg.tab).mono ?_
  rintro e w' ⟨rfl, k, os, rfl⟩
  exact ⟨rfl, (below_drewN (Below.refl _ _) k).trans (below_grow (w.drewN k) os)⟩
theorem itoa_len (n : Int) (h0 : 0 ≤ n) (h1 : n ≤ 1152921504606846976) : (Lib.itoa n).length ≤ 19 := by
  obtain ⟨k, rfl⟩ := Int.eq_ofNat_of_zero_le h0
  unfold Lib.itoa
  rw [if_neg (by omega), Int.toNat_natCast]
  exact dec_len k 19 (by omega) (by omega)
theorem nameL_in {n : Int} (h : inL n) : nameL n = ⟨#[119]⟩ ++ bs (Lib.itoa n) := by
  apply ByteArray.ext
  apply Array.toList_inj.1
  rw [nameL_data h]
  simp [bs]
theorem nameL_size (n : Int) : (nameL n).size ≤ 20 := by
  by_cases h : inL n
  · rw [ByteArray.size, ← Array.length_toList, nameL_data h]
    have := itoa_len n (by have := h.1; omega) h.2
    simp; omega
  · unfold nameL
    rw [if_neg h]
    simp [ByteArray.size]
set_option maxRecDepth 20000 in
set_option maxHeartbeats 1000000 in
theorem name_any (n : Int) (w : World) (hg : GOK w) : Calls Tryd.prog 12 #[.int .i64 n] w fun e w' => e = .returned (.string (nameL n)) ∧ Below w.heap.size w w' := by
  by_cases h : inL n
  · have HN := Lib.hid (nameL_in h)
    have HC := Lib.hid (itoa_all n w (by have := h.1; omega) (by have := h.2; omega) hg)
    have hl := itoa_len n (by have := h.1; omega) h.2
    have hs : (bs (Lib.itoa n)).size ≤ 19 := by rw [bs_size]; exact hl
    generalize bs (Lib.itoa n) = z at *
    have c1 : ¬ n < 1 := by have := h.1; omega
    have c2 : ¬ (1152921504606846976 : Int) < n := by have := h.2; omega
    have c3 : ¬ 9223372036854775807 < 1 + z.size := by omega
    clear h hl
    go_enter Tryd.func12, Tryd.ntmps12
    go_wp2_with fail
    refine HC.out.mono ?_
    rintro e w2 ⟨rfl, hb⟩
    go_wp2
    exact bodyPost_ret (v := .string (⟨#[119]⟩ ++ z)) (by simp [results]) rfl ⟨by rw [HN.out], hb⟩
  · have hq : nameL n = ⟨#[]⟩ := by unfold nameL; rw [if_neg h]
    have HQ := Lib.hid hq
    have hno : n < 1 ∨ 1152921504606846976 < n := by unfold inL at h; omega
    clear h hq
    go_enter Tryd.func12, Tryd.ntmps12
    rcases hno with h | h
    · go_wp2
      exact bodyPost_ret (v := .string ⟨#[]⟩) (by simp [results]) rfl ⟨by rw [HQ.out], Below.refl _ _⟩
    · have h1 : ¬ n < 1 := by omega
      go_wp2
      exact bodyPost_ret (v := .string ⟨#[]⟩) (by simp [results]) rfl ⟨by rw [HQ.out], Below.refl _ _⟩
end Go.Proofs.YthehpafkaefohaaDoor

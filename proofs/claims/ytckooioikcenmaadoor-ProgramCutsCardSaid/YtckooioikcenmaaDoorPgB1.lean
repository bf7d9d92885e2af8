/- program.Bytes' function literal: numbers behind the bytes that a variable holds. Conditions: sizes a machine can have. -/
import Derived.Test.YtckooioikcenmaaDoorPgE2
import Derived.Test.YtckooioikcenmaaDoorBytesW5
namespace Go.Proofs.YtckooioikcenmaaDoor
open Go.RowKit
/-- the types of the blocks that writing turns -/
def isW (t : TypeId) : Bool := t == 5 || t == 35
/-- the variable at pc holds bytes of the call's own -/
structure OutAt (pc base : Nat) (w : World) (ys : List UInt8) (v : Value) : Prop where
  cell : w.heap[pc]? = some (.cells #[v] 35)
  own : Bytes base w v ys
theorem OutAt.far {pc base : Nat} {w : World} {ys : List UInt8} {v : Value} (h : OutAt pc base w ys v) : some pc ≠ v.ownBlock := by
  intro e
  rcases h.own.2 with ⟨rfl, _⟩ | ⟨g, cap, cur, rfl, _, hh, _⟩
  · cases e
  · have : pc = g := by simpa [Value.ownBlock] using e
    subst this
    have := h.cell
    rw [hh] at this
    cases this
theorem Bytes.form {base : Nat} {w : World} {v : Value} {xs : List UInt8} (h : Bytes base w v xs) : ∃ A n c, v = .slice A n c := by
  rcases h.2 with ⟨rfl, _⟩ | ⟨g, cap, cur, rfl, _⟩
  · exact ⟨_, _, _, rfl⟩
  · exact ⟨_, _, _, rfl⟩
theorem Bytes.set {base : Nat} {w : World} {v : Value} {xs : List UInt8} (h : Bytes base w v xs) {a : Addr} (ha : some a.block ≠ v.ownBlock) (u : Value) : Bytes base (w.setCell a u) v xs := by
  refine ⟨h.1, ?_⟩
  rcases h.2 with h2 | ⟨g, cap, cur, rfl, hb, hh, hr⟩
  · exact .inl h2
  · exact .inr ⟨g, cap, cur, rfl, hb, blk_set_ne hh u (fun e => ha (by rw [← e]; rfl)), hr⟩
/-- the numbers of a slice that came in -/
def IntsAt (w : World) (b : Nat) (ns : List Int) : Prop := ∃ cs, w.heap[b]? = some (.cells cs 3) ∧ ∀ (k : Nat) (n : Int), ns[k]? = some n → cs[k]? = some (.int .i64 n)
def uvs (ns : List Int) : List UInt8 := ns.flatMap fun n => uv n.toNat
theorem uvs_len : ∀ (ns : List Int), (∀ n ∈ ns, 0 ≤ n ∧ n ≤ 1000) → (uvs ns).length ≤ ns.length * 10
  | [], _ => by simp [uvs]
  | n :: r, h => by
    have h1 := uvs_len r (fun m hm => h m (by simp [hm]))
    have h2 := uv_len10 (n := n.toNat) (by have := h n (by simp); omega)
    simp only [uvs, List.flatMap_cons, List.length_append, List.length_cons] at h1 ⊢
    omega
theorem far_of {pc base : Nat} {w : World} {ys : List UInt8} {u v : Value} (hc : w.heap[pc]? = some (.cells #[u] 35)) (h : Bytes base w v ys) : some pc ≠ v.ownBlock := by
  intro e
  rcases h.2 with ⟨rfl, _⟩ | ⟨g, cap, cur, rfl, _, hh, _⟩
  · cases e
  · have : pc = g := by simpa [Value.ownBlock] using e
    subst this
    rw [hh] at hc
    cases hc
def PutPost (pc base : Nat) (ys : List UInt8) (w : World) (e : Ending) (w' : World) : Prop := (∃ r, e = .returned r) ∧ ∃ v, OutAt pc base w' ys v ∧ Keep isW base w w'
set_option maxRecDepth 20000 in
set_option maxHeartbeats 1000000 in
theorem put_any (pc base b : Nat) (ys : List UInt8) (v : Value) (ns : List Int) (ln : Nat) (hln : ns.length = ln) (w : World) (ho : OutAt pc base w ys v) (hn : IntsAt w b ns) (hr : ∀ n ∈ ns, 0 ≤ n ∧ n ≤ 1000) (hb : base ≤ pc) (hB : base ≤ w.heap.size)
    (h4 : ln ≤ 4) (hlen : ys.length ≤ 140737488000000) :
    Calls Tryd.prog 29 #[.slice (some ⟨b, 0, none⟩) ln ln, .pointer (some ⟨pc, 0, none⟩)] w (PutPost pc base (ys ++ uvs ns) w) := by
  have HLN := Lib.hid hln
  have HO := Lib.hid ho
  have HN := Lib.hid hn
  have HR := Lib.hid hr
  have HLEN := Lib.hid hlen
  clear hln ho hn hr hlen
  go_enter Tryd.func29, Tryd.ntmps29
  go_wp2
  go_loopw [4, 7] (fun _ i wr => ∃ (k : Nat), i = .int .i64 k ∧ k ≤ ln ∧ Hid (∃ v, OutAt pc base wr (ys ++ uvs (ns.take k)) v) ∧ Hid (Keep isW base w wr)) (fun _ i _ => ln - (intOf i).toNat)
  case atStart => exact ⟨0, rfl, by omega, ⟨v, by simpa [uvs] using HO.out⟩, Keep.refl _ _ _⟩
  case round =>
    obtain ⟨k, rfl, hk, HS, HK⟩ := hrel
    obtain ⟨v1, hO⟩ := HS.out
    by_cases hk4 : k < ln
    · obtain ⟨n, hnk⟩ : ∃ n, ns[k]? = some n := ⟨ns[k]'(by rw [HLN.out]; exact hk4), List.getElem?_eq_getElem _⟩
      obtain ⟨hn0, hn1⟩ := HR.out n (List.mem_of_getElem? hnk)
      have htk : uvs (ns.take (k + 1)) = uvs (ns.take k) ++ uv n.toNat := by
        rw [List.take_add_one, hnk]
        simp [uvs]
      have HTK := Lib.hid htk
      obtain ⟨cs, hcs, hat⟩ := HN.out
      have d0 : wr.cell? ⟨b, k, none⟩ = some (.int .i64 n) := by
        rw [blk_cell (HK.out.blk hcs rfl)]
        exact hat k n hnk
      have o0 : wr.cell? ⟨pc, 0, none⟩ = some v1 := by rw [blk_cell hO.cell]; rfl
      have hsz : Hid ((ys ++ uvs (ns.take k)).length + 10 ≤ 140737488355328) := by
        show _ ≤ _
        have h8 := HLEN.out
        have h9 := uvs_len (ns.take k) (fun n hn => HR.out n (List.mem_of_mem_take hn))
        rw [List.length_append]
        rw [List.length_take] at h9
        omega
      obtain ⟨m, rfl⟩ := Int.eq_ofNat_of_zero_le hn0
      rw [Int.toNat_natCast] at HTK
      have HC := Lib.hid (uint_any v1 (ys ++ uvs (ns.take k)) m wr base (by omega) hO.own (Nat.le_trans hB HK.out.size) hsz.out)
      have HOO := Lib.hid hO
      clear htk hnk hcs hat hO
      go_wp2_with fail
      refine HC.out.mono ?_
      rintro e w2 ⟨v2, rfl, hown, hext⟩
      obtain ⟨A2, n2, c2, rfl⟩ := hown.form
      have e2 := hext.blk HOO.out.cell HOO.out.far
      have e3 := blk_cell e2 0
      have e4 := blk_free e2 0
      simp at e3
      have HE2 := Lib.hid e2
      have HOWN := Lib.hid hown
      have HEXT := Lib.hid hext
      clear e2 hown hext
      go_wp2
      go_roundw
      case rel =>
        refine ⟨k + 1, by go_num, by omega, ⟨_, blk_set HE2.out 0 _, ?_⟩, ?_⟩
        · have h9 := HOWN.out.set (a := ⟨pc, 0, none⟩) (far_of HE2.out HOWN.out) (.slice A2 n2 c2)
          rw [HTK.out, ← List.append_assoc]
          exact h9
        · exact (HK.out.trans (HEXT.out.keep HOO.out.own rfl)).setCell HE2.out hb rfl _
      case measure => simp [intOf]; omega
    · obtain rfl : k = ln := by omega
      rw [List.take_of_length_le (by rw [HLN.out]; exact Nat.le_refl _)] at hO
      have HOO := Lib.hid hO
      go_wp2
      exact bodyPost_ret (v := .tuple #[]) (by simp [results]) rfl ⟨⟨_, rfl⟩, v1, HOO.out, HK.out⟩
end Go.Proofs.YtckooioikcenmaaDoor

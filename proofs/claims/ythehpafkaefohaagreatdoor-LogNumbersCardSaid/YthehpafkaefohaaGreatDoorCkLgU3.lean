/- Walks: Resume. Conditions: sizes a machine can have. -/
import Derived.Test.YthehpafkaefohaaGreatDoorCkLgU2
namespace Go.Proofs.YthehpafkaefohaaGreatDoor
open Go.RowKit
def fallK (fs : List Int) : Nat → Bool
  | 0 => false
  | k + 1 => fallK fs k || decide ((fs[k]?).getD 0 < 1) || (decide (0 < k) && decide ((fs[k]?).getD 0 ≤ (fs[k - 1]?).getD 0))
/-- may a log not be resumed of these segments? -/
def resB (fs : List Int) (last : Int) : Bool := fallK fs fs.length || decide (fs.length = 0) || decide (last + 1 < lastN fs)
def ResP (d : Nat) (v : Value) (st : DkSt) (size last : Int) (fs : List Int) (w : World) (e : Ending) (w' : World) : Prop :=
  if mayE size last = 0 ∧ resB fs last = false then BegP d st ⟨size, fs, last, last, false⟩ v w e w' else BadP d v st 2 w e w'
set_option maxRecDepth 20000 in
set_option maxHeartbeats 2000000 in
theorem resume_any {w : World} {d : Nat} {st : DkSt} {v : Value} (h : DkAt w d st v) (ok : DkOk st) (hfu : st.fuse ≤ 1000000000000) (size last : Int) (vf : Value) (fs : List Int) (hr : RdI w vf fs) (hvn : ∀ k, vf.ownBlock = some k → k ∉ dkS d v) (hlen : fs.length ≤ 1000000000) :
    Calls Tryz.prog 42 #[.pointer (some ⟨d, 0, none⟩), .int .i64 size, vf, .int .i64 last] w (ResP d v st size last fs w) := by
  have hm := may_any h ok hfu size last
  by_cases hz : mayE size last = 0
  · have hlo : 0 ≤ last ∧ last ≤ 576460752303423488 := by
      unfold mayE at hz
      split at hz
      · cases hz
      · omega
    rw [hz] at hm
    have HM := Lib.hid hm
    have HRP : Hid (∀ e w', (if resB fs last = false then BegP d st ⟨size, fs, last, last, false⟩ v w e w' else BadP d v st 2 w e w') → ResP d v st size last fs w e w') := fun e w' hp => by
      unfold ResP
      by_cases hb : resB fs last = false
      · rw [if_pos ⟨hz, hb⟩]; rwa [if_pos hb] at hp
      · rw [if_neg (fun h => hb h.2)]; rwa [if_neg hb] at hp
    have HR0 := Lib.hid hr
    have HVN := Lib.hid hvn
    obtain ⟨A, c, rfl⟩ := hr.form
    obtain ⟨N, hN⟩ : ∃ N, fs.length = N := ⟨_, rfl⟩
    rw [hN] at HR0 HVN hlen ⊢
    have HN := Lib.hid hN
    have hl64 : IntKind.i64.wrap (last + 1) = last + 1 := by rw [IntKind.wrap_i64]; omega
    clear h ok hfu hr hvn hm hz hN
    go_enter Tryz.func42, Tryz.ntmps42
    go_wp2_with fail
    refine HM.out.mono ?_
    rintro e w2 ⟨v', rfl, hd, hc, hn⟩
    have HR2 := Lib.hid (HR0.out.chgS hc (fun x hx => by
      by_cases hk : ∃ k, Value.ownBlock (.slice A N c) = some k ∧ x = k
      · obtain ⟨k, hk, rfl⟩ := hk
        exact absurd hx (HVN.out _ hk)
      · exact .inr (fun k hk' e => hk ⟨k, hk', e⟩)))
    have HD := Lib.hid hd
    have HC := Lib.hid hc
    have HNR := Lib.hid hn
    have HBAD : Hid (resB fs last = true → ResP d v st size last fs w (.returned (.tuple #[.pointer none, .int .i64 2])) w2) := fun hb => HRP.out _ _ (by rw [if_neg (by simp [hb])]; exact ⟨v', rfl, hd, hc, hn⟩)
    clear hd hc hn HM HR0
    go_wp2_with fail
    go_loopw [11, 24] (fun f i wr => ∃ (k : Nat) (F : Bool), f = .bool F ∧ i = .int .i64 k ∧ k ≤ N ∧ Hid (F = fallK fs k) ∧ w2 = wr) (fun _ i _ => N - (intOf i).toNat)
    case atStart => exact ⟨0, false, rfl, rfl, Nat.zero_le _, Lib.hid rfl, rfl⟩
    case round =>
      obtain ⟨k, F, rfl, rfl, hk, HF, rfl⟩ := hrel
      by_cases hlt : k < N
      · obtain ⟨x, hx⟩ : ∃ x, fs[k]? = some x := ⟨_, List.getElem?_eq_getElem (by rw [HN.out]; exact hlt)⟩
        obtain ⟨b, o, hA, dx⟩ := HR2.out.at hx
        subst hA
        have hki : (k : Int) < N := by omega
        have hF1 : fallK fs (k + 1) = (F || decide (x < 1) || (decide (0 < k) && decide (x ≤ (fs[k - 1]?).getD 0))) := by
          show (fallK fs k || _ || _) = _
          rw [hx, ← HF.out]
          rfl
        cases F with
        | true =>
          have HF1 : Hid (true = fallK fs (k + 1)) := by show _ = _; rw [hF1]; simp
          clear hx hF1
          go_wp2
          first
          | exact ⟨⟨k + 1, true, rfl, by go_num, by omega, HF1, by first | exact trivial | rfl⟩, by simp [intOf]; omega⟩
          | (go_roundw
             case rel => exact ⟨k + 1, true, rfl, by go_num, by omega, HF1, by first | exact trivial | rfl⟩
             case measure => simp [intOf]; omega)
        | false =>
          by_cases h1 : x < 1
          · have HF1 : Hid (true = fallK fs (k + 1)) := by show _ = _; rw [hF1]; simp [h1]
            clear hx hF1
            go_wp2
            first
            | exact ⟨⟨k + 1, true, rfl, by go_num, by omega, HF1, by first | exact trivial | rfl⟩, by simp [intOf]; omega⟩
            | (go_roundw
               case rel => exact ⟨k + 1, true, rfl, by go_num, by omega, HF1, by first | exact trivial | rfl⟩
               case measure => simp [intOf]; omega)
          · by_cases h2 : k = 0
            · subst h2
              have HF1 : Hid (false = fallK fs (0 + 1)) := by show _ = _; rw [hF1]; simp [h1]
              rw [Nat.add_zero] at dx
              clear hx hF1
              go_wp2
              first
              | exact ⟨⟨1, false, rfl, by go_num, by omega, HF1, by first | exact trivial | rfl⟩, by simp [intOf]; omega⟩
              | (go_roundw
                 case rel => exact ⟨1, false, rfl, by go_num, by omega, HF1, by first | exact trivial | rfl⟩
                 case measure => simp [intOf]; omega)
            · obtain ⟨t, rfl⟩ : ∃ t, k = t + 1 := ⟨k - 1, by omega⟩
              obtain ⟨y, hy⟩ : ∃ y, fs[t]? = some y := ⟨_, List.getElem?_eq_getElem (by rw [HN.out]; omega)⟩
              obtain ⟨b', o', hA', dy⟩ := HR2.out.at hy
              injection hA' with hA'
              injection hA' with hb hoo
              subst hb; subst hoo
              have e5 : IntKind.i64.wrap ((t : Int) + 1 - 1) = (t : Int) := by rw [IntKind.wrap_i64]; omega
              have e6 : IntKind.i64.wrap (t : Int) = (t : Int) := by rw [IntKind.wrap_i64]; omega
              have e7 : (0 : Int) < (t : Int) + 1 := by omega
              have e8 : (t : Int) < N := by omega
              have e9 : (0 : Int) ≤ (t : Int) := by omega
              rw [Nat.add_sub_cancel, hy] at hF1
              simp only [Option.getD_some] at hF1
              by_cases h3 : x ≤ y
              · have HF1 : Hid (true = fallK fs (t + 1 + 1)) := by show _ = _; rw [hF1]; simp [h3]
                clear hx hF1 hy
                go_wp2
                first
                | exact ⟨⟨t + 1 + 1, true, rfl, by go_num, by omega, HF1, by first | exact trivial | rfl⟩, by simp [intOf]; omega⟩
                | (go_roundw
                   case rel => exact ⟨t + 1 + 1, true, rfl, by go_num, by omega, HF1, by first | exact trivial | rfl⟩
                   case measure => simp [intOf]; omega)
              · have HF1 : Hid (false = fallK fs (t + 1 + 1)) := by show _ = _; rw [hF1]; simp [h1, h3]
                clear hx hF1 hy
                go_wp2
                first
                | exact ⟨⟨t + 1 + 1, false, rfl, by go_num, by omega, HF1, by first | exact trivial | rfl⟩, by simp [intOf]; omega⟩
                | (go_roundw
                   case rel => exact ⟨t + 1 + 1, false, rfl, by go_num, by omega, HF1, by first | exact trivial | rfl⟩
                   case measure => simp [intOf]; omega)
      · obtain rfl : k = N := by omega
        cases F with
        | true =>
          have HB := Lib.hid (HBAD.out (by unfold resB; rw [HN.out, ← HF.out]; simp))
          go_wp2
          exact bodyPost_ret (v := .tuple #[.pointer none, .int .i64 2]) (by simp [results]) rfl HB.out
        | false =>
          by_cases hk0 : k = 0
          · subst hk0
            have HB := Lib.hid (HBAD.out (by unfold resB; rw [HN.out]; simp))
            go_wp2
            exact bodyPost_ret (v := .tuple #[.pointer none, .int .i64 2]) (by simp [results]) rfl HB.out
          · obtain ⟨t, rfl⟩ : ∃ t, k = t + 1 := ⟨k - 1, by omega⟩
            obtain ⟨y, hy⟩ : ∃ y, fs[t]? = some y := ⟨_, List.getElem?_eq_getElem (by rw [HN.out]; omega)⟩
            obtain ⟨b, o, hA, dy⟩ := HR2.out.at hy
            subst hA
            have hlast : lastN fs = y := by
              unfold lastN
              rw [List.getLastD_eq_getLast?, List.getLast?_eq_getElem?, HN.out, Nat.add_sub_cancel, hy]
              rfl
            have e5 : IntKind.i64.wrap ((t : Int) + 1 - 1) = (t : Int) := by rw [IntKind.wrap_i64]; omega
            have e6 : IntKind.i64.wrap (t : Int) = (t : Int) := by rw [IntKind.wrap_i64]; omega
            have e7 : ((t : Int) + 1 == 0) = false := by simp; omega
            have e8 : (t : Int) < (t : Int) + 1 := by omega
            have e9 : (0 : Int) ≤ (t : Int) := by omega
            by_cases h4 : last + 1 < y
            · have HB := Lib.hid (HBAD.out (by unfold resB; rw [hlast]; simp [h4]))
              clear hy hlast
              go_wp2
              exact bodyPost_ret (v := .tuple #[.pointer none, .int .i64 2]) (by simp [results]) rfl HB.out
            · have HOK : Hid (resB fs last = false) := by show _ = _; unfold resB; rw [hlast, HN.out, ← HF.out]; simp [h4]
              have hcl := clone_ints (.slice (some ⟨b, o, none⟩) (t + 1) c) fs w2 HR2.out (by rw [HN.out]; omega) (by rw [HN.out]; omega)
              rw [HN.out] at hcl
              have HCL := Lib.hid hcl
              clear hy hlast hcl
              go_wp2_with fail
              refine HCL.out.mono ?_
              rintro e w3 ⟨A3, c3, rfl, hfs, hnew, hb⟩
              have HP : Hid (ResP d v st size last fs w (.returned (.tuple #[.pointer (some ⟨w3.heap.size, 0, none⟩), .int .i64 0])) (w3.alloc (.cells #[.pointer (some ⟨d, 0, none⟩), .int .i64 size, .slice A3 (t + 1) c3, .int .i64 last, .int .i64 last, .bool false] 27))) := by
                refine HRP.out _ _ ?_
                rw [if_pos HOK.out]
                have hsz : w.heap.size ≤ w3.heap.size := Nat.le_trans HC.out.size hb.size
                refine ⟨w3.heap.size, dkS d v' ++ (w3.heap.size :: (Value.ownBlock (.slice A3 (t + 1) c3)).toList), rfl, hsz, ⟨v', .slice A3 (t + 1) c3, (HD.out.below hb).below (below1 w3 _), ⟨alloc_at _ _, hfs.keepRow (fun k hk => Below.heap_alloc w3 _ k (hfs.rowT k hk).1)⟩, rfl⟩, fun x hx => ?_, (HC.out.then hb).then (below1 w3 _)⟩
                rcases List.mem_append.1 hx with hx | hx
                · exact dkS_sub HNR.out x hx
                · rcases List.mem_cons.1 hx with rfl | hx
                  · exact .inr hsz
                  · exact .inr (Nat.le_trans HC.out.size (hnew x (by simpa using hx)))
              clear hfs hnew hb
              go_wp2
              exact bodyPost_ret (v := .tuple #[.pointer (some ⟨w3.heap.size, 0, none⟩), .int .i64 0]) (by simp [results]) rfl HP.out
  · have h2 : mayE size last = 2 := by unfold mayE at hz ⊢; split <;> simp_all
    rw [h2] at hm
    have HM := Lib.hid hm
    have HRP : Hid (∀ e w', BadP d v st 2 w e w' → ResP d v st size last fs w e w') := fun e w' hp => by
      unfold ResP
      rw [if_neg (fun h => hz h.1)]
      exact hp
    obtain ⟨A, c, rfl⟩ := hr.form
    clear h ok hfu hr hvn hm hz h2
    go_enter Tryz.func42, Tryz.ntmps42
    go_wp2_with fail
    refine HM.out.mono ?_
    rintro e w2 ⟨v', rfl, hd, hc, hn⟩
    have HP := Lib.hid (HRP.out (.returned (.tuple #[.pointer none, .int .i64 2])) w2 ⟨v', rfl, hd, hc, hn⟩)
    clear hd hc hn
    go_wp2
    exact bodyPost_ret (v := .tuple #[.pointer none, .int .i64 2]) (by simp [results]) rfl HP.out
end Go.Proofs.YthehpafkaefohaaGreatDoor

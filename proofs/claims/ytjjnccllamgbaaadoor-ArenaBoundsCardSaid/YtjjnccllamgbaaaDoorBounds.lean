/- The law ArenaBounds, walked: as many slots are free as have not been taken, whatever is done. Condition: errors.errorType holds the handle of 'error'. -/
import Derived.Test.YtjjnccllamgbaaaDoorFirst
namespace Go.Proofs.YtjjnccllamgbaaaDoor
open Go.RowKit

def freeN (xs : List Slot) : Nat := xs.countP fun s => s.state == 0
theorem freeN_le (xs : List Slot) : freeN xs ≤ xs.length := List.countP_le_length
theorem freeN_set {xs : List Slot} {p : Nat} (hp : p < xs.length) (s : Slot) : freeN (xs.set p s) + (if (xs[p].state == 0) = true then 1 else 0) = freeN xs + (if (s.state == 0) = true then 1 else 0) := by
  unfold freeN
  rw [List.countP_set hp]
  by_cases h : (xs[p].state == 0) = true
  · have : 0 < xs.countP fun s => s.state == 0 := List.countP_pos_iff.2 ⟨xs[p], List.getElem_mem hp, h⟩
    simp only [h, if_true]; omega
  · simp [h]
theorem freeN_none {xs : List Slot} (h : firstFree xs = none) : freeN xs = 0 := by
  unfold firstFree at h
  unfold freeN
  rw [List.countP_eq_zero]
  simpa [List.findIdx?_eq_none_iff] using h
theorem freeN_some {xs : List Slot} {p : Nat} (h : firstFree xs = some p) : ∃ hp : p < xs.length, xs[p].state = 0 ∧ 0 < freeN xs := by
  unfold firstFree at h
  rw [List.findIdx?_eq_some_iff_getElem] at h
  obtain ⟨hp, h1, _⟩ := h
  exact ⟨hp, by simpa using h1, List.countP_pos_iff.2 ⟨xs[p], List.getElem_mem hp, h1⟩⟩
theorem freeN_zero (k : Nat) : freeN (List.replicate k zSlot) = k := by
  unfold freeN
  rw [List.countP_replicate]; simp [zSlot]
theorem freeN_take {xs : List Slot} {j : Nat} (hj : j < xs.length) : freeN (xs.take (j + 1)) = freeN (xs.take j) + (if (xs[j].state == 0) = true then 1 else 0) := by
  unfold freeN
  rw [List.take_succ_eq_append_getElem hj, List.countP_append]
  simp [List.countP_cons]
/-- Each slot is free, taken or retired; no generation is above n. -/
def Okay (n : Int) (xs : List Slot) : Prop := ∀ j (h : j < xs.length), (xs[j].state = 0 ∨ xs[j].state = 1 ∨ xs[j].state = 3) ∧ 0 ≤ xs[j].gen ∧ xs[j].gen ≤ n
theorem Okay.mono {n m : Int} {xs : List Slot} (h : Okay n xs) (hm : n ≤ m) : Okay m xs := fun j hj => by
  obtain ⟨a, b, c⟩ := h j hj
  exact ⟨a, b, by omega⟩
theorem Okay.set {n : Int} {xs : List Slot} (h : Okay n xs) {p : Nat} {s : Slot} (hs : (s.state = 0 ∨ s.state = 1 ∨ s.state = 3) ∧ 0 ≤ s.gen ∧ s.gen ≤ n) : Okay n (xs.set p s) := fun j hj => by
  rw [List.getElem_set]
  split
  · exact hs
  · exact h j (by simpa using hj)
theorem Okay.zero (n : Int) (hn : 0 ≤ n) (k : Nat) : Okay n (List.replicate k zSlot) := fun j hj => by simp [zSlot]; exact hn
theorem pub_set {xs : List Slot} {p : Nat} (hp : p < xs.length) (g f s : Int) : pubF (xs.set p ⟨g, 1, f, s⟩) p g = (xs.set p ⟨g, 2, f, s⟩, 0) := by
  unfold pubF atB
  rw [if_pos (by simp [hp])]
  rw [slotAt_in (by simpa using hp)]
  simp
theorem ret_set {xs : List Slot} {p : Nat} (hp : p < xs.length) (g f s q : Int) (hq : 0 ≤ q) : retF (xs.set p ⟨g, 2, f, s⟩) p g q = (xs.set p ⟨g, 3, f, q⟩, 0) := by
  unfold retF atB
  rw [if_pos (by simp [hp, hq])]
  rw [slotAt_in (by simpa using hp)]
  simp
theorem take_some {xs : List Slot} {p : Nat} (h : firstFree xs = some p) (hp : p < xs.length) (f : Int) (f0 : 0 ≤ f) (f1 : f ≤ 7) (hg : 0 ≤ xs[p].gen ∧ xs[p].gen ≤ 1000) :
    takeF xs f = (xs.set p ⟨xs[p].gen + 1, 1, f, 0⟩, ((p : Int), xs[p].gen + 1, 0)) := by
  unfold takeF
  rw [if_neg (by omega), h]
  have hg' : slotAt xs (p : Int) = xs[p] := slotAt_in hp
  simp only [hg', wrap64_id (n := xs[p].gen + 1) (by omega) (by omega)]
theorem take_none {xs : List Slot} (h : firstFree xs = none) (f : Int) (f0 : 0 ≤ f) (f1 : f ≤ 7) : takeF xs f = (xs, (0, 0, 2301)) := by
  unfold takeF
  rw [if_neg (by omega), h]
theorem free_held {xs : List Slot} {p : Nat} (hp : p < xs.length) (hs : xs[p].state = 1 ∨ xs[p].state = 3) : freeF xs p xs[p].gen = (xs.set p ⟨xs[p].gen, 0, 0, 0⟩, 0) := by
  unfold freeF atB
  rw [if_pos (by simp [hp, hs])]
  simp
theorem free_free {xs : List Slot} {p : Nat} (hp : p < xs.length) (hs : xs[p].state = 0) : freeF xs p xs[p].gen = (xs, 2300) := by
  unfold freeF atB
  rw [if_neg (by simp [hp, hs])]

set_option maxRecDepth 100000 in
set_option maxHeartbeats 8000000 in
theorem bounds_yes (s : Int) (A : Option Addr) (c : Nat) (fr : List Int) (w : World) (hG : Glob w) (hR : ReadsI w A fr) :
    Calls Tryd.prog 7 #[.int .i64 s, .slice A fr.length c] w fun e w' => e = .returned (.bool true) ∧ Below w.heap.size w w' := by
  have hmax : fr.length ≤ 9223372036854775807 := hR.1
  have HR := Lib.hid hR
  clear hR
  go_enter Tryd.func7, Tryd.ntmps7
  go_wp2_with fail
  refine (awake_yes w hG).mono ?_
  rintro e w0 ⟨rfl, hB0⟩
  have G0 := Lib.hid (hG.below hB0)
  have B0 := Lib.hid hB0
  clear hB0
  go_wp2_with fail
  obtain ⟨k, hk, k1, k8⟩ := slots_of s
  simp only [hk]
  refine (new_ok k w0 k1 k8).mono ?_
  rintro e w1 ⟨g, gs, rfl, hA, hg, hgs, hB⟩
  have m1 : Mine 58 w0 g gs _ w1 := ⟨hA, hgs, hB⟩
  clear hA hB
  have M1 := Lib.hid m1
  clear m1 hk
  go_wp2_with (go_at_call 10; refine (num_any _ _).mono ?_; rintro e w' ⟨rfl, rfl⟩)
  go_loopw [8, 9] (fun u v wr => ∃ (t n : Nat) (xs : List Slot), u = .int .i64 t ∧ v = .int .i64 n ∧ n ≤ fr.length ∧ n ≤ 40 ∧ xs.length = k ∧ freeN xs + t = k ∧ Okay n xs ∧ Mine 58 w0 g gs xs wr) (fun _ v _ => 40 - (intOf v).toNat)
  case atStart => exact ⟨0, 0, _, rfl, rfl, by omega, by omega, by simp, by rw [freeN_zero]; omega, Okay.zero _ (by omega) _, M1.out⟩
  case round =>
    obtain ⟨t, n, xs, rfl, rfl, hn, hn2, hx, hft, hok, m1⟩ := hrel
    clear M1
    have M1 := Lib.hid m1
    have OK := Lib.hid hok
    have FT := Lib.hid hft
    have htk : t ≤ k := by omega
    clear m1 hok hft
    by_cases hlt : n < fr.length
    · by_cases hlt2 : n < 40
      · have hd1 : decide (n < fr.length) = true := by simpa using hlt
        have hd2 : decide ((n : Int) < 40) = true := by simp; omega
        obtain ⟨ad, rfl, c0⟩ := (HR.out.below (below_trans B0.out M1.out.B)).at_ hlt
        by_cases q1 : (bits .and .i64 fr[n] 1 == 0) = true
        · obtain ⟨f, hf, f0, f1⟩ : ∃ m : Int, bits .and .i64 (fr[n] / 2) 7 = m ∧ 0 ≤ m ∧ m ≤ 7 := ⟨(fr[n] / 2) % 8, i64_and7 _, by omega, by omega⟩
          go_wp2_with fail
          refine (take_do M1.out f).mono ?_
          rintro e w2 ⟨rfl, m2, k2⟩
          cases hff : firstFree xs with
          | none =>
            have e0 := freeN_none hff
            have htk3 : ¬ t < k := by have := FT.out; omega
            have hd3 : decide (t < k) = false := by simpa using htk3
            rw [take_none hff f f0 f1] at m2
            simp only [take_none hff f f0 f1]
            have M2 := Lib.hid m2
            clear m2 k2 M1
            go_wp2_with (go_at_call 10; refine (num_any _ _).mono ?_; rintro e w' ⟨rfl, rfl⟩)
            go_roundw
            case rel => exact ⟨t, n + 1, xs, rfl, rfl, by omega, by omega, hx, FT.out, OK.out.mono (by omega), M2.out⟩
            case measure => show 40 - ((n : Int) + 1).toNat < 40 - ((n : Int)).toNat; omega
          | some p =>
            obtain ⟨hp, hs0, hpos⟩ := freeN_some hff
            obtain ⟨_, g0, g1⟩ := OK.out p hp
            have hpk : p < k := by omega
            have htk2 : t < k := by have := FT.out; omega
            have hd3 : decide (t < k) = true := by simpa using htk2
            have hd4 : decide ((k : Int) ≤ p) = false := by simp; omega
            have hd5 : decide ((p : Int) < 0) = false := by simp
            have hd6 : decide (xs[p].gen + 1 < 1) = false := by simp; omega
            have eT := take_some hff hp f f0 f1 ⟨g0, by omega⟩
            rw [eT] at m2
            simp only [eT]
            have M2 := Lib.hid m2
            have c1 := (HR.out.below (below_trans B0.out m2.B)).at_ hlt
            obtain ⟨ad2, e2, c1⟩ := c1
            cases e2
            have FS := freeN_set hp ⟨xs[p].gen + 1, 1, f, 0⟩
            have FS3 := freeN_set hp ⟨xs[p].gen + 1, 3, f, n⟩
            rw [if_pos (by simp [hs0]), if_neg (by simp)] at FS FS3
            clear m2 k2 M1 eT hff
            by_cases q2 : (bits .and .i64 fr[n] 2 == 2) = true
            · go_wp2_with (go_at_call 10; refine (num_any _ _).mono ?_; rintro e w' ⟨rfl, rfl⟩)
              refine (publish_do G0.out M2.out p (xs[p].gen + 1)).mono ?_
              rintro e w3 ⟨rfl, m3, k3⟩
              rw [pub_set hp] at m3
              simp only [pub_set hp]
              have M3 := Lib.hid m3
              clear m3 k3 M2
              go_wp2_with (go_at_call 10; refine (num_any _ _).mono ?_; rintro e w' ⟨rfl, rfl⟩)
              refine (retire_do G0.out M3.out p (xs[p].gen + 1) n).mono ?_
              rintro e w4 ⟨rfl, m4, k4⟩
              rw [ret_set hp _ _ _ _ (by omega)] at m4
              simp only [ret_set hp _ _ _ _ (show (0 : Int) ≤ n by omega)]
              have M4 := Lib.hid m4
              clear m4 k4 M3
              go_wp2_with (go_at_call 10; refine (num_any _ _).mono ?_; rintro e w' ⟨rfl, rfl⟩)
              go_roundw
              case rel => exact ⟨t + 1, n + 1, xs.set p ⟨xs[p].gen + 1, 3, f, n⟩, rfl, rfl, by omega, by omega, by simpa using hx, by have := FT.out; omega, (OK.out.mono (by omega)).set ⟨.inr (.inr rfl), by show 0 ≤ xs[p].gen + 1; omega, by show xs[p].gen + 1 ≤ _; omega⟩, M4.out⟩
              case measure => show 40 - ((n : Int) + 1).toNat < 40 - ((n : Int)).toNat; omega
            · have q2' : (bits .and .i64 fr[n] 2 == 2) = false := by simpa using q2
              go_wp2_with (go_at_call 10; refine (num_any _ _).mono ?_; rintro e w' ⟨rfl, rfl⟩)
              go_roundw
              case rel => exact ⟨t + 1, n + 1, xs.set p ⟨xs[p].gen + 1, 1, f, 0⟩, rfl, rfl, by omega, by omega, by simpa using hx, by have := FT.out; omega, (OK.out.mono (by omega)).set ⟨.inr (.inl rfl), by show 0 ≤ xs[p].gen + 1; omega, by show xs[p].gen + 1 ≤ _; omega⟩, M2.out⟩
              case measure => show 40 - ((n : Int) + 1).toNat < 40 - ((n : Int)).toNat; omega
        · have q1' : (bits .and .i64 fr[n] 1 == 0) = false := by simpa using q1
          go_wp2_with fail
          refine (slots_do M1.out (by omega)).mono ?_
          rintro e w5 ⟨g5, c5, rfl, hO, hB⟩
          simp only [hx]
          have HO := Lib.hid hO
          have M2 := Lib.hid (M1.out.below hB)
          clear hO hB M1
          obtain ⟨ad2, e2, c1⟩ := (HR.out.below (below_trans B0.out M2.out.B)).at_ hlt
          cases e2
          obtain ⟨p, hp, hpk⟩ := index_of (fr[n] / 2) k k1 k8
          have hd4 : (k != k) = false := by simp
          go_upto_region 22 with fail
          simp only [hp]
          have hpx : p < xs.length := by omega
          obtain ⟨b, hb, e0, e1, _, _⟩ := (HO.out.reads (by omega)).at_ hpx
          cases hb
          go_wp2_with fail
          refine (free_do G0.out M2.out p xs[p].gen).mono ?_
          rintro e w6 ⟨rfl, m6, k6⟩
          have FS := freeN_set hpx ⟨xs[p].gen, 0, 0, 0⟩
          obtain ⟨o1, o2, o3⟩ := OK.out p hpx
          by_cases hz : xs[p].state = 0
          · rw [free_free hpx hz] at m6
            simp only [free_free hpx hz]
            have M6 := Lib.hid m6
            clear m6 k6 M2
            go_wp2_with (go_at_call 10; refine (num_any _ _).mono ?_; rintro e w' ⟨rfl, rfl⟩)
            go_roundw
            case rel => exact ⟨t, n + 1, xs, rfl, rfl, by omega, by omega, hx, FT.out, OK.out.mono (by omega), M6.out⟩
            case measure => show 40 - ((n : Int) + 1).toNat < 40 - ((n : Int)).toNat; omega
          · have hs : xs[p].state = 1 ∨ xs[p].state = 3 := by omega
            rw [free_held hpx hs] at m6
            simp only [free_held hpx hs]
            rw [if_neg (by simpa using hz), if_pos (by simp)] at FS
            have hF2 := freeN_le (xs.set p ⟨xs[p].gen, 0, 0, 0⟩)
            rw [List.length_set] at hF2
            have ht1 : 1 ≤ t := by have := FT.out; omega
            have M6 := Lib.hid m6
            clear m6 k6 M2
            go_wp2_with (go_at_call 10; refine (num_any _ _).mono ?_; rintro e w' ⟨rfl, rfl⟩)
            go_roundw
            case rel => exact ⟨t - 1, n + 1, xs.set p ⟨xs[p].gen, 0, 0, 0⟩, by go_num, rfl, by omega, by omega, by simpa using hx, by have := FT.out; omega, (OK.out.mono (by omega)).set ⟨.inl rfl, o2, by show xs[p].gen ≤ _; omega⟩, M6.out⟩
            case measure => show 40 - ((n : Int) + 1).toNat < 40 - ((n : Int)).toNat; omega
      · have hd1 : decide (n < fr.length) = true := by simpa using hlt
        have hd2 : decide ((n : Int) < 40) = false := by simp; omega
        go_wp2_with fail
        refine (slots_do M1.out (by omega)).mono ?_
        rintro e w5 ⟨g5, c5, rfl, hO, hB⟩
        simp only [hx]
        have HO := Lib.hid hO
        have HB := Lib.hid (below_trans B0.out (below_trans M1.out.B hB))
        clear hO hB M1
        go_wp2_with fail
        go_loopw [16, 17] (fun u v w6 => ∃ j : Nat, j ≤ k ∧ u = .int .i64 (freeN (xs.take j) : Nat) ∧ v = .int .i64 j ∧ w6 = w5) (fun _ v _ => k - (intOf v).toNat)
        case atStart => exact ⟨0, by omega, by simp [freeN], rfl, rfl⟩
        case round =>
          obtain ⟨j, hj, rfl, rfl, rfl⟩ := hrel
          by_cases hjk : j < k
          · have hjx : j < xs.length := by omega
            have hd3 : decide (j < k) = true := by simpa using hjk
            have hF := freeN_take hjx
            have hFl : freeN (xs.take j) ≤ k := Nat.le_trans (freeN_le _) (by simp; omega)
            obtain ⟨F, eF⟩ : ∃ F, freeN (xs.take j) = F := ⟨_, rfl⟩
            rw [eF] at hF hFl ⊢
            obtain ⟨b, hb, e0, e1, _, _⟩ := (HO.out.reads (by omega)).at_ hjx
            cases hb
            by_cases hz : (xs[j].state == 0) = true
            · rw [if_pos hz] at hF
              go_wp2_with fail
              go_roundw
              case rel => exact ⟨j + 1, by omega, by rw [hF]; go_num, by go_num, by trivial⟩
              case measure => show k - ((j : Int) + 1).toNat < k - ((j : Int)).toNat; omega
            · rw [if_neg hz] at hF
              have hz' : (xs[j].state == 0) = false := by simpa using hz
              go_wp2_with fail
              go_roundw
              case rel => exact ⟨j + 1, by omega, by rw [hF]; go_num, by go_num, by trivial⟩
              case measure => show k - ((j : Int) + 1).toNat < k - ((j : Int)).toNat; omega
          · obtain rfl : j = k := by omega
            have hd3 : decide (j < j) = false := by simp
            have hF : freeN (xs.take j) = freeN xs := by rw [List.take_of_length_le (by omega)]
            have hd4 : ((freeN xs : Int) == (j : Int) - t) = true := by have := FT.out; simp; omega
            have hd5 : (j == j) = true := by simp
            rw [hF]
            go_wp2_with fail
            go_ret
            exact ⟨rfl, HB.out⟩
    · have hd1 : decide (n < fr.length) = false := by simpa using hlt
      go_wp2_with fail
      refine (slots_do M1.out (by omega)).mono ?_
      rintro e w5 ⟨g5, c5, rfl, hO, hB⟩
      simp only [hx]
      have HO := Lib.hid hO
      have HB := Lib.hid (below_trans B0.out (below_trans M1.out.B hB))
      clear hO hB M1
      go_wp2_with fail
      go_loopw [16, 17] (fun u v w6 => ∃ j : Nat, j ≤ k ∧ u = .int .i64 (freeN (xs.take j) : Nat) ∧ v = .int .i64 j ∧ w6 = w5) (fun _ v _ => k - (intOf v).toNat)
      case atStart => exact ⟨0, by omega, by simp [freeN], rfl, rfl⟩
      case round =>
        obtain ⟨j, hj, rfl, rfl, rfl⟩ := hrel
        by_cases hjk : j < k
        · have hjx : j < xs.length := by omega
          have hd3 : decide (j < k) = true := by simpa using hjk
          have hF := freeN_take hjx
          have hFl : freeN (xs.take j) ≤ k := Nat.le_trans (freeN_le _) (by simp; omega)
          obtain ⟨F, eF⟩ : ∃ F, freeN (xs.take j) = F := ⟨_, rfl⟩
          rw [eF] at hF hFl ⊢
          obtain ⟨b, hb, e0, e1, _, _⟩ := (HO.out.reads (by omega)).at_ hjx
          cases hb
          by_cases hz : (xs[j].state == 0) = true
          · rw [if_pos hz] at hF
            go_wp2_with fail
            go_roundw
            case rel => exact ⟨j + 1, by omega, by rw [hF]; go_num, by go_num, by trivial⟩
            case measure => show k - ((j : Int) + 1).toNat < k - ((j : Int)).toNat; omega
          · rw [if_neg hz] at hF
            have hz' : (xs[j].state == 0) = false := by simpa using hz
            go_wp2_with fail
            go_roundw
            case rel => exact ⟨j + 1, by omega, by rw [hF]; go_num, by go_num, by trivial⟩
            case measure => show k - ((j : Int) + 1).toNat < k - ((j : Int)).toNat; omega
        · obtain rfl : j = k := by omega
          have hd3 : decide (j < j) = false := by simp
          have hF : freeN (xs.take j) = freeN xs := by rw [List.take_of_length_le (by omega)]
          have hd4 : ((freeN xs : Int) == (j : Int) - t) = true := by have := FT.out; simp; omega
          have hd5 : (j == j) = true := by simp
          rw [hF]
          go_wp2_with fail
          go_ret
          exact ⟨rfl, HB.out⟩
end Go.Proofs.YtjjnccllamgbaaaDoor

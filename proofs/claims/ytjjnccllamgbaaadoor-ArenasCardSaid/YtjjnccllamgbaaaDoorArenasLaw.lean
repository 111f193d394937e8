/- The law Arenas, walked: whatever the acts, the program's arena answers and stands as the document's does. Conditions: the acts lie in memory; errors.errorType holds the handle of 'error'. -/
import Derived.Test.YtjjnccllamgbaaaDoorArenas
namespace Go.Proofs.YtjjnccllamgbaaaDoor
open Go.RowKit

set_option maxRecDepth 100000 in
set_option maxHeartbeats 8000000 in
theorem arenas_yes (s : Int) (A : Option Addr) (c : Nat) (acts : List Act) (w : World) (hG : Glob w) (hA : ReadsA w A acts) :
    Calls Tryd.prog 3 #[.int .i64 s, .slice A acts.length c] w fun e w' => e = .returned (.bool true) ∧ Below w.heap.size w w' := by
  have HA := Lib.hid hA
  have hm : acts.length ≤ 9223372036854775807 := hA.1
  clear hA
  by_cases hs : s < 1 ∨ 8 < s
  · go_enter Tryd.func3, Tryd.ntmps3
    go_wp2_with fail
    refine (new_bad s w hs).mono ?_
    rintro e w1 ⟨rfl, rfl⟩
    go_wp2_with fail
    refine (rnew_bad s w hs).mono ?_
    rintro e w1 ⟨rfl, rfl⟩
    go_wp2_with (go_at_call 10; refine (num_any _ _).mono ?_; rintro e w' ⟨rfl, rfl⟩)
    refine (awake_yes w hG).mono ?_
    rintro e w1 ⟨rfl, hB⟩
    have HB := Lib.hid hB
    clear hB
    go_wp2
    go_ret
    exact ⟨rfl, HB.out⟩
  · obtain ⟨n, rfl⟩ : ∃ n : Nat, s = n := ⟨s.toNat, by omega⟩
    go_enter Tryd.func3, Tryd.ntmps3
    go_wp2_with fail
    refine (new_ok n w (by omega) (by omega)).mono ?_
    rintro e w1 ⟨g, gs, rfl, hA1, hg, hgs, hB⟩
    have m1 : Mine 58 w g gs _ w1 := ⟨hA1, hgs, hB⟩
    have hlg := blk_lt hA1.a
    have hls := blk_lt hA1.s
    have M1 := Lib.hid m1
    clear hA1 hB m1
    go_wp2_with fail
    refine (rnew_ok n w1 (by omega) (by omega)).mono ?_
    rintro e w2 ⟨g2, gs2, rfl, hA2, hg2, hgs2, hB2⟩
    have hw1 := M1.out.B.size
    have b2 : Both w g gs g2 gs2 (List.replicate n zSlot) w2 := ⟨M1.out.below hB2, ⟨hA2, by omega, below_trans M1.out.B hB2⟩, by simp; omega, by omega, by omega, by omega⟩
    have B2 := Lib.hid b2
    clear hA2 hB2 b2 M1
    go_wp2_with (go_at_call 10; refine (num_any _ _).mono ?_; rintro e w' ⟨rfl, rfl⟩)
    go_loopw [9] (fun i wr => ∃ (k : Nat) (xs : List Slot), k ≤ acts.length ∧ k ≤ 60 ∧ i = .int .i64 k ∧ Both w g gs g2 gs2 xs wr) (fun i _ => 60 - (intOf i).toNat)
    case atStart => exact ⟨0, _, Nat.zero_le _, Nat.zero_le _, rfl, B2.out⟩
    case round =>
      obtain ⟨k, xs, hk1, hk2, rfl, hBo⟩ := hrel
      have BO := Lib.hid hBo
      clear hBo B2
      by_cases hlt : k < acts.length
      · by_cases hlt2 : k < 60
        · obtain ⟨ad, rfl, c0, c1, c2, c3⟩ := HA.out.at_ BO.out.a.B hlt
          have hd1 : decide (k < acts.length) = true := by simpa using hlt
          have hd2 : decide ((k : Int) < 60) = true := by simp; omega
          have hsz := blk_lt BO.out.a.at_.a
          have hsz2 := blk_lt BO.out.a.at_.s
          have hsz3 := blk_lt BO.out.r.at_.a
          have hsz4 := blk_lt BO.out.r.at_.s
          have hsz5 : w.heap.size ≤ gs2 := BO.out.r.lo
          have b1 : Below wr.heap.size wr (wr.alloc (.cells #[.int .i64 acts[k].kind, .int .i64 acts[k].slot, .int .i64 acts[k].gen, .int .i64 acts[k].stamp] 33)) := below_alloc (Below.refl _ _) _
          have bn := blk_new wr (.cells #[.int .i64 acts[k].kind, .int .i64 acts[k].slot, .int .i64 acts[k].gen, .int .i64 acts[k].stamp] 33)
          have t1 := (blk_cell bn 1).trans rfl
          have t2 := (blk_cell bn 2).trans rfl
          have t3 := (blk_cell bn 3).trans rfl
          have B1 := Lib.hid (BO.out.below b1)
          clear b1 bn BO
          by_cases q0 : (acts[k].kind == 0) = true
          · go_wp2_with fail
            refine (take_do B1.out.a acts[k].stamp).mono ?_
            rintro e wa ⟨rfl, ma, ka⟩
            have ra := B1.out.r.other ka B1.out.d3 (Ne.symm B1.out.d2) B1.out.a.lo
            have T3 := keep_cell ka (by simp; omega) t3
            have MA := Lib.hid ma
            have RA := Lib.hid ra
            clear ma ra ka
            go_wp2_with fail
            refine (rtake_do RA.out acts[k].stamp).mono ?_
            rintro e wb ⟨rfl, mb, kb⟩
            have BB := Lib.hid (show Both w g gs g2 gs2 _ wb from ⟨MA.out.other kb B1.out.d1 B1.out.d2 B1.out.r.lo, mb, by rw [takeF_len]; exact B1.out.n, B1.out.d1, B1.out.d2, B1.out.d3⟩)
            clear mb kb MA RA B1 T3
            go_wp2_with (go_at_call 10; refine (num_any _ _).mono ?_; rintro e w' ⟨rfl, rfl⟩)
            refine (slots_do BB.out.a BB.out.n).mono ?_
            rintro e w5 ⟨gc, cc, rfl, hO, hB⟩
            have hgc : wb.heap.size ≤ gc := (hO.own.lt gc rfl).1
            have hl1 : g < wb.heap.size := blk_lt BB.out.a.at_.a
            have hl2 : gs < wb.heap.size := blk_lt BB.out.a.at_.s
            have hl3 : g2 < wb.heap.size := blk_lt BB.out.r.at_.a
            have hl4 : gs2 < wb.heap.size := blk_lt BB.out.r.at_.s
            have hl5 : w.heap.size ≤ wb.heap.size := BB.out.a.B.size
            have bb := BB.out.below hB
            have hh2 := bb.r.at_.head
            have hle := bb.r.at_.le
            have HS := Lib.hid (fun d => same_slots _ _ cc d _ _ w5 (hO.reads (by omega)) bb.r.at_.reads)
            have HO := Lib.hid hO
            have B5 := Lib.hid bb
            clear hO hB bb BB
            go_wp2_with fail
            refine (HS.out _).mono ?_
            rintro e w6 ⟨⟨b, rfl, hb⟩, n, rfl⟩
            obtain rfl : b = true := hb.2 rfl
            have B6 := Lib.hid (B5.out.below (below_drewN (Below.refl _ _) n))
            have HP := Lib.hid (spoil_do gc cc _ (w5.drewN n) wb.heap.size (HO.out.below (below_drewN (Below.refl _ _) n)) hle)
            clear hb HS HO hh2
            go_wp2_with fail
            refine HP.out.mono ?_
            rintro e w7 ⟨rfl, hk7⟩
            have B7 := Lib.hid (B6.out.other hk7 ⟨by omega, by omega, by omega, by omega⟩ (by omega))
            clear B6 HP hk7
            go_wp2
            go_roundw
            case rel => exact ⟨k + 1, _, by omega, by omega, by go_num, B7.out⟩
            case measure => simp [intOf]; omega
          · have q0' : (acts[k].kind == 0) = false := by simpa using q0
            clear q0
            by_cases q1 : (acts[k].kind == 1) = true
            · go_wp2_with fail
              go_region_held3 (fun W' => W'.cell? ⟨wr.heap.size, 1, none⟩ = some (.int .i64 acts[k].slot) ∧ W'.cell? ⟨wr.heap.size, 2, none⟩ = some (.int .i64 acts[k].gen) ∧ W'.cell? ⟨wr.heap.size, 3, none⟩ = some (.int .i64 acts[k].stamp)) (first | exact ⟨t1, t2, t3⟩ | exact ⟨T1, T2, T3⟩ | exact ⟨U1, U2, U3⟩ | go_keep) (first | (go_at_call 14; refine (publish_do hG (B1.out.below (below_drewN (Below.refl _ _) 1)).a _ _).mono ?_; rintro e wa ⟨rfl, ma, ka⟩; have T1 := keep_cell ka (by simp; omega) t1; have T2 := keep_cell ka (by simp; omega) t2; have T3 := keep_cell ka (by simp; omega) t3) | (go_at_call 15; refine (rpublish_do ((B1.out.below (below_drewN (Below.refl _ _) 1)).r.other ka B1.out.d3 (Ne.symm B1.out.d2) B1.out.a.lo) _ _).mono ?_; rintro e wb ⟨rfl, mb, kb⟩; have U1 := keep_cell kb (by simp; omega) T1; have U2 := keep_cell kb (by simp; omega) T2; have U3 := keep_cell kb (by simp; omega) T3) | (go_at_call 10; refine (num_any _ _).mono ?_; rintro e w' ⟨rfl, rfl⟩))
              have BB := Lib.hid (show Both w g gs g2 gs2 _ wb from ⟨ma.other kb B1.out.d1 B1.out.d2 B1.out.r.lo, mb, by rw [pubF_len]; exact B1.out.n, B1.out.d1, B1.out.d2, B1.out.d3⟩)
              clear ma ka mb kb B1 T1 T2 T3 U1 U2 U3 t1 t2 t3
              go_wp2_with (go_at_call 10; refine (num_any _ _).mono ?_; rintro e w' ⟨rfl, rfl⟩)
              refine (slots_do BB.out.a BB.out.n).mono ?_
              rintro e w5 ⟨gc, cc, rfl, hO, hB⟩
              have hgc : wb.heap.size ≤ gc := (hO.own.lt gc rfl).1
              have hl1 : g < wb.heap.size := blk_lt BB.out.a.at_.a
              have hl2 : gs < wb.heap.size := blk_lt BB.out.a.at_.s
              have hl3 : g2 < wb.heap.size := blk_lt BB.out.r.at_.a
              have hl4 : gs2 < wb.heap.size := blk_lt BB.out.r.at_.s
              have hl5 : w.heap.size ≤ wb.heap.size := BB.out.a.B.size
              have bb := BB.out.below hB
              have hh2 := bb.r.at_.head
              have hle := bb.r.at_.le
              have HS := Lib.hid (fun d => same_slots _ _ cc d _ _ w5 (hO.reads (by omega)) bb.r.at_.reads)
              have HO := Lib.hid hO
              have B5 := Lib.hid bb
              clear hO hB bb BB
              go_wp2_with fail
              refine (HS.out _).mono ?_
              rintro e w6 ⟨⟨b, rfl, hb⟩, n, rfl⟩
              obtain rfl : b = true := hb.2 rfl
              have B6 := Lib.hid (B5.out.below (below_drewN (Below.refl _ _) n))
              have HP := Lib.hid (spoil_do gc cc _ (w5.drewN n) wb.heap.size (HO.out.below (below_drewN (Below.refl _ _) n)) hle)
              clear hb HS HO hh2
              go_wp2_with fail
              refine HP.out.mono ?_
              rintro e w7 ⟨rfl, hk7⟩
              have B7 := Lib.hid (B6.out.other hk7 ⟨by omega, by omega, by omega, by omega⟩ (by omega))
              clear B6 HP hk7
              go_wp2
              go_roundw
              case rel => exact ⟨k + 1, _, by omega, by omega, by go_num, B7.out⟩
              case measure => simp [intOf]; omega
            · have q1' : (acts[k].kind == 1) = false := by simpa using q1
              clear q1
              by_cases q2 : (acts[k].kind == 2) = true
              · go_wp2_with fail
                go_region_held3 (fun W' => W'.cell? ⟨wr.heap.size, 1, none⟩ = some (.int .i64 acts[k].slot) ∧ W'.cell? ⟨wr.heap.size, 2, none⟩ = some (.int .i64 acts[k].gen) ∧ W'.cell? ⟨wr.heap.size, 3, none⟩ = some (.int .i64 acts[k].stamp)) (first | exact ⟨t1, t2, t3⟩ | exact ⟨T1, T2, T3⟩ | exact ⟨U1, U2, U3⟩ | go_keep) (first | (go_at_call 16; refine (retire_do hG (B1.out.below (below_drewN (Below.refl _ _) 1)).a _ _ _).mono ?_; rintro e wa ⟨rfl, ma, ka⟩; have T1 := keep_cell ka (by simp; omega) t1; have T2 := keep_cell ka (by simp; omega) t2; have T3 := keep_cell ka (by simp; omega) t3) | (go_at_call 17; refine (rretire_do ((B1.out.below (below_drewN (Below.refl _ _) 1)).r.other ka B1.out.d3 (Ne.symm B1.out.d2) B1.out.a.lo) _ _ _).mono ?_; rintro e wb ⟨rfl, mb, kb⟩; have U1 := keep_cell kb (by simp; omega) T1; have U2 := keep_cell kb (by simp; omega) T2; have U3 := keep_cell kb (by simp; omega) T3) | (go_at_call 10; refine (num_any _ _).mono ?_; rintro e w' ⟨rfl, rfl⟩))
                have BB := Lib.hid (show Both w g gs g2 gs2 _ wb from ⟨ma.other kb B1.out.d1 B1.out.d2 B1.out.r.lo, mb, by rw [retF_len]; exact B1.out.n, B1.out.d1, B1.out.d2, B1.out.d3⟩)
                clear ma ka mb kb B1 T1 T2 T3 U1 U2 U3 t1 t2 t3
                go_wp2_with (go_at_call 10; refine (num_any _ _).mono ?_; rintro e w' ⟨rfl, rfl⟩)
                refine (slots_do BB.out.a BB.out.n).mono ?_
                rintro e w5 ⟨gc, cc, rfl, hO, hB⟩
                have hgc : wb.heap.size ≤ gc := (hO.own.lt gc rfl).1
                have hl1 : g < wb.heap.size := blk_lt BB.out.a.at_.a
                have hl2 : gs < wb.heap.size := blk_lt BB.out.a.at_.s
                have hl3 : g2 < wb.heap.size := blk_lt BB.out.r.at_.a
                have hl4 : gs2 < wb.heap.size := blk_lt BB.out.r.at_.s
                have hl5 : w.heap.size ≤ wb.heap.size := BB.out.a.B.size
                have bb := BB.out.below hB
                have hh2 := bb.r.at_.head
                have hle := bb.r.at_.le
                have HS := Lib.hid (fun d => same_slots _ _ cc d _ _ w5 (hO.reads (by omega)) bb.r.at_.reads)
                have HO := Lib.hid hO
                have B5 := Lib.hid bb
                clear hO hB bb BB
                go_wp2_with fail
                refine (HS.out _).mono ?_
                rintro e w6 ⟨⟨b, rfl, hb⟩, n, rfl⟩
                obtain rfl : b = true := hb.2 rfl
                have B6 := Lib.hid (B5.out.below (below_drewN (Below.refl _ _) n))
                have HP := Lib.hid (spoil_do gc cc _ (w5.drewN n) wb.heap.size (HO.out.below (below_drewN (Below.refl _ _) n)) hle)
                clear hb HS HO hh2
                go_wp2_with fail
                refine HP.out.mono ?_
                rintro e w7 ⟨rfl, hk7⟩
                have B7 := Lib.hid (B6.out.other hk7 ⟨by omega, by omega, by omega, by omega⟩ (by omega))
                clear B6 HP hk7
                go_wp2
                go_roundw
                case rel => exact ⟨k + 1, _, by omega, by omega, by go_num, B7.out⟩
                case measure => simp [intOf]; omega
              · have q2' : (acts[k].kind == 2) = false := by simpa using q2
                clear q2
                go_wp2_with fail
                go_region_held3 (fun W' => W'.cell? ⟨wr.heap.size, 1, none⟩ = some (.int .i64 acts[k].slot) ∧ W'.cell? ⟨wr.heap.size, 2, none⟩ = some (.int .i64 acts[k].gen) ∧ W'.cell? ⟨wr.heap.size, 3, none⟩ = some (.int .i64 acts[k].stamp)) (first | exact ⟨t1, t2, t3⟩ | exact ⟨T1, T2, T3⟩ | exact ⟨U1, U2, U3⟩ | go_keep) (first | (go_at_call 18; refine (free_do hG (B1.out.below (below_drewN (Below.refl _ _) 1)).a _ _).mono ?_; rintro e wa ⟨rfl, ma, ka⟩; have T1 := keep_cell ka (by simp; omega) t1; have T2 := keep_cell ka (by simp; omega) t2; have T3 := keep_cell ka (by simp; omega) t3) | (go_at_call 19; refine (rfree_do ((B1.out.below (below_drewN (Below.refl _ _) 1)).r.other ka B1.out.d3 (Ne.symm B1.out.d2) B1.out.a.lo) _ _).mono ?_; rintro e wb ⟨rfl, mb, kb⟩; have U1 := keep_cell kb (by simp; omega) T1; have U2 := keep_cell kb (by simp; omega) T2; have U3 := keep_cell kb (by simp; omega) T3) | (go_at_call 10; refine (num_any _ _).mono ?_; rintro e w' ⟨rfl, rfl⟩))
                have BB := Lib.hid (show Both w g gs g2 gs2 _ wb from ⟨ma.other kb B1.out.d1 B1.out.d2 B1.out.r.lo, mb, by rw [freeF_len]; exact B1.out.n, B1.out.d1, B1.out.d2, B1.out.d3⟩)
                clear ma ka mb kb B1 T1 T2 T3 U1 U2 U3 t1 t2 t3
                go_wp2_with (go_at_call 10; refine (num_any _ _).mono ?_; rintro e w' ⟨rfl, rfl⟩)
                refine (slots_do BB.out.a BB.out.n).mono ?_
                rintro e w5 ⟨gc, cc, rfl, hO, hB⟩
                have hgc : wb.heap.size ≤ gc := (hO.own.lt gc rfl).1
                have hl1 : g < wb.heap.size := blk_lt BB.out.a.at_.a
                have hl2 : gs < wb.heap.size := blk_lt BB.out.a.at_.s
                have hl3 : g2 < wb.heap.size := blk_lt BB.out.r.at_.a
                have hl4 : gs2 < wb.heap.size := blk_lt BB.out.r.at_.s
                have hl5 : w.heap.size ≤ wb.heap.size := BB.out.a.B.size
                have bb := BB.out.below hB
                have hh2 := bb.r.at_.head
                have hle := bb.r.at_.le
                have HS := Lib.hid (fun d => same_slots _ _ cc d _ _ w5 (hO.reads (by omega)) bb.r.at_.reads)
                have HO := Lib.hid hO
                have B5 := Lib.hid bb
                clear hO hB bb BB
                go_wp2_with fail
                refine (HS.out _).mono ?_
                rintro e w6 ⟨⟨b, rfl, hb⟩, n, rfl⟩
                obtain rfl : b = true := hb.2 rfl
                have B6 := Lib.hid (B5.out.below (below_drewN (Below.refl _ _) n))
                have HP := Lib.hid (spoil_do gc cc _ (w5.drewN n) wb.heap.size (HO.out.below (below_drewN (Below.refl _ _) n)) hle)
                clear hb HS HO hh2
                go_wp2_with fail
                refine HP.out.mono ?_
                rintro e w7 ⟨rfl, hk7⟩
                have B7 := Lib.hid (B6.out.other hk7 ⟨by omega, by omega, by omega, by omega⟩ (by omega))
                clear B6 HP hk7
                go_wp2
                go_roundw
                case rel => exact ⟨k + 1, _, by omega, by omega, by go_num, B7.out⟩
                case measure => simp [intOf]; omega
        · have hd1 : decide (k < acts.length) = true := by simpa using hlt
          have hd2 : decide ((k : Int) < 60) = false := by simp; omega
          go_wp2_with fail
          refine (awake_yes _ (hG.below BO.out.a.B)).mono ?_
          rintro e w9 ⟨rfl, hB⟩
          have HB := Lib.hid (below_trans BO.out.a.B hB)
          clear hB
          go_wp2
          go_ret
          exact ⟨rfl, HB.out⟩
      · have hd1 : decide (k < acts.length) = false := by simpa using hlt
        go_wp2_with fail
        refine (awake_yes _ (hG.below BO.out.a.B)).mono ?_
        rintro e w9 ⟨rfl, hB⟩
        have HB := Lib.hid (below_trans BO.out.a.B hB)
        clear hB
        go_wp2
        go_ret
        exact ⟨rfl, HB.out⟩
end Go.Proofs.YtjjnccllamgbaaaDoor

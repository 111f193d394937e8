/- The law Verifies, walked: of any program, any function both answers are one; the program stays. Conditions: the program lies in memory and is within the reach; errors.errorType is laid. -/
import Derived.Test.YtdjlaglilokjeaaDoorAwakeV
namespace Go.Proofs.YtdjlaglilokjeaaDoor
open Go.RowKit

theorem HeightsE.reads {r : List Int × Int × Int} {w w' : World} {e : Ending} (h : HeightsE r w e w') : ∃ A c, e = .returned (.tuple #[.slice A r.1.length c, .int .i64 r.2.1, .int .i64 r.2.2]) ∧ ORow w' w.heap.size 3 1 (.slice A r.1.length c) r.1.length (intsV r.1) ∧ Below w.heap.size w w' := by
  obtain ⟨v, rfl, h1, h2⟩ := h
  obtain ⟨A, c, rfl, _, _⟩ := h1.shape
  exact ⟨A, c, rfl, h1, h2⟩
set_option maxHeartbeats 1000000 in
theorem spoilInts_any (A : Option Addr) (c base : Nat) (xs : List Int) (w : World) (h : ORow w base 3 1 (.slice A xs.length c) xs.length (intsV xs)) :
    Calls Tryd.prog 19 #[.slice A xs.length c] w fun e w' => e = .returned (.tuple #[]) ∧ Chg (fun k => (Value.slice A xs.length c).ownBlock = some k) w w' := by
  have H0 := Lib.hid h
  have hn : xs.length ≤ 9223372036854775807 := by
    obtain ⟨_, _, e, h1, h2⟩ := h.shape
    injection e with e1 e2 e3
    unfold maxLen at h2; omega
  obtain ⟨L, hL⟩ : ∃ L, xs.length = L := ⟨_, rfl⟩
  rw [hL] at hn ⊢
  have HL := Lib.hid hL
  clear h hL
  go_enter Tryd.func19, Tryd.ntmps19
  go_wp2_with fail
  go_loopw [2] (fun i wr => ∃ (k : Nat) (ys : List Int), i = .int .i64 k ∧ k ≤ L ∧ ys.length = L ∧ ORow wr base 3 1 (.slice A L c) L (intsV ys) ∧ Chg (fun k => (Value.slice A L c).ownBlock = some k) w wr) (fun i _ => L - (intOf i).toNat)
  case atStart => exact ⟨0, xs, rfl, Nat.zero_le _, HL.out, by have := H0.out; rwa [HL.out] at this, Chg.refl _ _⟩
  case round =>
    obtain ⟨k, ys, rfl, hk, hy, ho, hc⟩ := hrel
    have HO := Lib.hid ho
    have HC := Lib.hid hc
    have HY := Lib.hid hy
    clear ho hc hy
    by_cases hlt : k < L
    · have hky : k < ys.length := by rw [HY.out]; exact hlt
      obtain ⟨g, off, e, _, _, hcs⟩ := HO.out.cell (k := k) (by rw [intsV_len]; exact hky)
      subst e
      obtain ⟨c0, f0⟩ := hcs k (by rw [intsV_len]; exact hky)
      have e0 : (intsV ys)[k]'(by rw [intsV_len]; exact hky) = .int .i64 ys[k] := by simp [intsV]
      rw [e0] at c0
      have hp := fun n : Int => HO.out.put k (.int .i64 n) (by rw [intsV_len]; exact hky)
      have hps : ∀ n : Int, (intsV ys).set k (.int .i64 n) = intsV (ys.set k n) := fun n => by simp [intsV, List.map_set]
      have HPUT := Lib.hid (fun n : Int => (hps n) ▸ hp n)
      have HCH := Lib.hid (fun u : Value => (Chg.put HC.out (a := ⟨g, off + k, none⟩) rfl u : Chg (fun k => (Value.slice (some ⟨g, off, none⟩) L c).ownBlock = some k) w _))
      clear hcs hp hps e0
      go_wp2_with fail
      go_roundw
      case rel => exact ⟨k + 1, _, by go_num, by omega, by rw [List.length_set]; exact HY.out, HPUT.out _, HCH.out _⟩
      case measure => simp only [intOf]; omega
    · go_wp2_with fail
      go_end0
      exact ⟨rfl, HC.out⟩
set_option maxRecDepth 100000 in
set_option maxHeartbeats 4000000 in
theorem verifies_yes (A : Option Addr) (c : Nat) (p : List Fn) (fn : Int) (W : World) (hl : Laid W) (hr : ReadsF W A p) (hz : Fits p) :
    Calls Tryd.prog 3 #[.agg #[.slice A p.length c], .int .i64 fn] W (Ret (.bool true) W) := by
  obtain ⟨w1, hw1⟩ : ∃ w1, W.alloc (.cells #[.slice A p.length c] 24) = w1 := ⟨_, rfl⟩
  have b1 : Below W.heap.size W w1 := hw1 ▸ below_alloc (Below.refl _ _) _
  have p1 : w1.cell? ⟨W.heap.size, 0, none⟩ = some (.slice A p.length c) := hw1 ▸ (blk_cell (blk_new W _) 0).trans rfl
  have HL := Lib.hid hl
  have HR := Lib.hid hr
  have HZ := Lib.hid hz
  have B1 := Lib.hid b1
  have P1 := Lib.hid p1
  have HC := Lib.hid (copyProgram_any A c p w1 (hr.below b1) hz)
  clear hl hr hz b1
  go_enter Tryd.func3, Tryd.ntmps3
  go_wp2_with fail
  refine HC.out.mono ?_
  rintro e w2 ⟨ao, cap, rfl, hown, hB⟩
  obtain ⟨w3, hw3⟩ : ∃ w3, w2.alloc (.cells #[.slice ao p.length cap] 24) = w3 := ⟨_, rfl⟩
  have b23 : Below w2.heap.size w2 w3 := hw3 ▸ below_alloc (Below.refl _ _) _
  have B3 := Lib.hid (below_trans (below_trans B1.out hB) b23)
  have x3 : w3.cell? ⟨w2.heap.size, 0, none⟩ = some (.slice ao p.length cap) := hw3 ▸ (blk_cell (blk_new w2 _) 0).trans rfl
  have p3 := ((below_trans hB b23).cell (World.block_lt_of_cell? _ _ P1.out)).trans P1.out
  have X3 := Lib.hid x3
  have P3 := Lib.hid p3
  have O3 := Lib.hid (hown.below b23).reads
  have HV := Lib.hid (heightsV_any p ao cap fn w3 (HL.out.below B3.out) O3.out)
  obtain ⟨r, hr⟩ : ∃ r, heightsOf p fn = r := ⟨_, rfl⟩
  have HRR := Lib.hid hr
  rw [hr] at HV
  clear hr hB hown b23 hw1 p1 p3 HC
  go_wp2_with fail
  clear hw3
  refine HV.out.mono ?_
  rintro e w4 hE
  obtain ⟨A4, c4, rfl, hrow4, hB4⟩ := hE.reads
  have B4 := Lib.hid (below_trans B3.out hB4)
  have B34 := Lib.hid hB4
  have X4 := Lib.hid ((hB4.cell (World.block_lt_of_cell? _ _ X3.out)).trans X3.out)
  have p4 := (hB4.cell (World.block_lt_of_cell? _ _ P3.out)).trans P3.out
  have P4 := Lib.hid p4
  have O4 := Lib.hid (O3.out.below hB4)
  have ROW4 := Lib.hid hrow4
  have HRF := Lib.hid (rheights_any p A c fn w4 (HR.out.below B4.out))
  rw [HRR.out] at HRF
  have S34 := Lib.hid (show w3.heap.size ≤ w4.heap.size from hB4.size)
  clear hE hrow4 hB4 x3 HV
  go_wp2_with fail
  refine HRF.out.mono ?_
  rintro e w5 hE
  obtain ⟨A5, c5, rfl, hrow5, hB5⟩ := hE.reads
  have B5 := Lib.hid (below_trans B4.out hB5)
  have B35 := Lib.hid (below_trans B34.out hB5)
  have x5 := (hB5.cell (World.block_lt_of_cell? _ _ X4.out)).trans X4.out
  have p5 := (hB5.cell (World.block_lt_of_cell? _ _ P4.out)).trans P4.out
  have X5 := Lib.hid x5
  have P5 := Lib.hid p5
  have O5 := Lib.hid (O4.out.below hB5)
  have ROW5 := Lib.hid (ROW4.out.below hB5)
  have HSI := Lib.hid (fun W' (hb : Below w5.heap.size w5 W') => sameInts_any A4 A5 c4 c5 r.1 r.1 W' ((ROW4.out.below hB5).below hb).ints.2 (hrow5.below hb).ints.2)
  rw [decide_eq_true rfl] at HSI
  have HPR := Lib.hid (fun W' (hb : Below w5.heap.size w5 W') => program_any p ao cap W' (HL.out.below (below_trans B5.out hb)) (O5.out.below hb))
  have HVR := Lib.hid (fun W' (hb : Below w5.heap.size w5 W') => rverify_any p A c W' (HR.out.below (below_trans B5.out hb)))
  obtain ⟨vf, hvf⟩ : ∃ vf, verifyOf p = vf := ⟨_, rfl⟩
  rw [hvf] at HPR HVR
  clear hvf hE hrow5 hB5 p4 HRF
  go_upto_region 4 with fail
  go_region_held3 (fun W' => W'.cell? ⟨w2.heap.size, 0, none⟩ = some (.slice ao p.length cap) ∧ W'.cell? ⟨W.heap.size, 0, none⟩ = some (.slice A p.length c) ∧ Below w5.heap.size w5 W')
    (first | exact ⟨x5, p5, Below.refl _ _⟩ | exact ⟨x5, p5, below_drew (Below.refl _ _) _⟩ | exact ⟨T1, T2, T3⟩ | exact ⟨U1, U2, U3⟩ | exact ⟨V1, V2, V3⟩ | go_keep)
    (first | (go_at_call 15; refine (HSI.out _ (by first | assumption | exact below_drew (Below.refl _ _) _)).mono ?_; rintro e wa ⟨rfl, na, rfl⟩; have T3 := below_drew (below_drew (Below.refl w5.heap.size w5) 1) na; have T1 := (T3.cell (World.block_lt_of_cell? _ _ x5)).trans x5; have T2 := (T3.cell (World.block_lt_of_cell? _ _ p5)).trans p5) | (go_at_call 16; refine (num_any _ _).mono ?_; rintro e wn ⟨rfl, rfl⟩) | (go_at_call 17; refine (HPR.out _ (by first | exact below_drew (Below.refl _ _) _ | exact V3 | assumption)).mono ?_; rintro e wb ⟨rfl, hb⟩; have U3 := below_trans (by first | exact below_drew (Below.refl _ _) _ | exact V3 | assumption : Below w5.heap.size w5 _) hb; have U1 := (U3.cell (World.block_lt_of_cell? _ _ x5)).trans x5; have U2 := (U3.cell (World.block_lt_of_cell? _ _ p5)).trans p5) | (go_at_call 18; refine (HVR.out _ (by first | exact below_drew (Below.refl _ _) _ | exact U3 | assumption)).mono ?_; rintro e wc ⟨rfl, hb⟩; have V3 := below_trans (by first | exact below_drew (Below.refl _ _) _ | exact U3 | assumption : Below w5.heap.size w5 _) hb; have V1 := (V3.cell (World.block_lt_of_cell? _ _ x5)).trans x5; have V2 := (V3.cell (World.block_lt_of_cell? _ _ p5)).trans p5))
  have HV3 := Lib.hid V3
  clear T1 T2 T3 U1 U2 U3 V1 V2 V3 x5 p5 hb
  have HSP := Lib.hid (spoilInts_any A4 c4 w3.heap.size r.1 wc (ROW5.out.below HV3.out))
  have LO := Lib.hid (show ∀ k, (Value.slice A4 r.1.length c4).ownBlock = some k → w3.heap.size ≤ k from ROW5.out.lo)
  obtain ⟨L, hL⟩ : ∃ L, r.1.length = L := ⟨_, rfl⟩
  rw [hL] at HSP LO
  rw [hL]
  clear hL
  go_wp2_with fail
  refine HSP.out.mono ?_
  rintro e w7 ⟨rfl, hch⟩
  have b37 := Chg.below (w0 := w3) (below_trans (show Below w3.heap.size w3 w5 from B35.out) HV3.out) hch LO.out
  have x7 := (b37.cell (World.block_lt_of_cell? _ _ X3.out)).trans X3.out
  have p7 := (b37.cell (World.block_lt_of_cell? _ _ P3.out)).trans P3.out
  have B7 := Lib.hid (below_trans B3.out b37)
  have HSM := Lib.hid (sameProgram_any ao A cap c p p w7 (O3.out.below b37) (HR.out.below B7.out))
  rw [decide_eq_true rfl] at HSM
  clear hch b37
  go_wp2_with fail
  refine HSM.out.mono ?_
  rintro e w8 ⟨rfl, hB8⟩
  have B8 := Lib.hid (below_trans B7.out hB8)
  have HA := Lib.hid (awakeV_any w8 (HL.out.below B8.out))
  clear hB8 x7 p7
  go_wp2_with fail
  refine HA.out.mono ?_
  rintro e w9 ⟨rfl, hB9⟩
  have B9 := Lib.hid (below_trans B8.out hB9)
  clear hB9
  go_wp2_with fail
  go_ret
  exact ⟨rfl, B9.out⟩
end Go.Proofs.YtdjlaglilokjeaaDoor

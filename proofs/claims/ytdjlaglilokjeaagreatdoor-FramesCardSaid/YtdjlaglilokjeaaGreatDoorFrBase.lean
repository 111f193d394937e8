/- 'CopyInts', 'LendInts', 'KeptInts' of the statements. Conditions: the list lies in memory; it is no longer than the reach. Lists of ints, frames, states written over. Conditions: they are the call's own. The document's 'Start': the state that a program begins with. Conditions: the program, the args lie in memory. A region that draws its order, by what holds behind any of its operations: each operation is walked once. No condition. -/
import Derived.Test.YtdjlaglilokjeaaGreatDoorLawKit
import Derived.Test.YtdjlaglilokjeaaGreatDoorFresh
import Derived.Test.YtdjlaglilokjeaaGreatDoorQuietB
import Derived.Test.YtdjlaglilokjeaaGreatDoorCopyS
import Derived.Test.YtdjlaglilokjeaaGreatDoorStart
import Derived.Deep.RegionHeld3
namespace Go.Proofs.YtdjlaglilokjeaaGreatDoor
open Go.RowKit

theorem ReadsI.prefix {w : World} {A : Option Addr} {xs ys : List Int} (h : ReadsI w A (xs ++ ys)) : ReadsI w A xs := by
  refine ⟨by have := h.1; rw [List.length_append] at this; omega, fun h0 => ?_⟩
  obtain ⟨ad, e, hc⟩ := h.2 (by rw [List.length_append]; omega)
  exact ⟨ad, e, fun j hj => by rw [hc j (by rw [List.length_append]; omega), List.getElem_append_left hj]⟩
theorem copyInts_any (A : Option Addr) (c : Nat) (xs : List Int) (w : World) (hr : ReadsI w A xs) (hz : xs.length * 8 ≤ 140737488351232) :
    Calls Tryz.prog 20 #[.slice A xs.length c] w fun e w' => ∃ ao cap, e = .returned (.slice ao xs.length cap) ∧ CRow w' w.heap.size 3 1 (.slice ao xs.length cap) xs.length (intsV xs) ∧ Below w.heap.size w w' := by
  obtain ⟨ao, cap, w1, hrun, hc, hb⟩ := append_copy (c := c) hr hz
  have HC := Lib.hid hc
  have HB := Lib.hid hb
  have hn := hr.1
  clear hc hb hr
  go_enter Tryz.func20, Tryz.ntmps20
  go_wp2_with (at_builtin; refine wpList_append_run _ rfl _ _ _ _ rfl _ _ _ _ rfl rfl hrun ?_)
  go_ret
  exact ⟨ao, cap, rfl, HC.out, HB.out⟩
/-- A lent list: marked room behind it. -/
def LendE (xs : List Int) (w : World) (e : Ending) (w' : World) : Prop := ∃ g off cap, e = .returned (.slice (some ⟨g, off, none⟩) xs.length cap) ∧ xs.length + 2 ≤ cap ∧ cap ≤ maxLen ∧ ReadsI w' (some ⟨g, off, none⟩) (xs ++ [-7777, -8888]) ∧ Below w.heap.size w w'
set_option maxRecDepth 100000 in
set_option maxHeartbeats 2000000 in
theorem lendInts_any (A : Option Addr) (c : Nat) (xs : List Int) (w : World) (hr : ReadsI w A xs) (hz : xs.length * 8 ≤ 140737488351232) :
    Calls Tryz.prog 6 #[.slice A xs.length c] w (LendE xs w) := by
  have H := Lib.hid (copyInts_any A c xs w hr hz)
  have hn := hr.1
  obtain ⟨L, hL⟩ : ∃ L, xs.length = L := ⟨_, rfl⟩
  unfold LendE
  rw [hL] at H hn hz ⊢
  have HL := Lib.hid hL
  clear hr hL
  go_enter Tryz.func6, Tryz.ntmps6
  go_wp2_with fail
  (with_reducible refine H.out.mono ?_)
  rintro e w1 ⟨ao, cap, rfl, hc, hb⟩
  have b2 := below_alloc (Below.refl w1.heap.size w1) (.cells #[.int .i64 (-7777), .int .i64 (-8888)] 3)
  have hc2 := hc.below b2
  have rN := RowAt.new 3 (intsV [-7777, -8888]) w1
  have hsrc : Src Tryz.prog 1 25 (.slice (some ⟨w1.heap.size, 0, none⟩) 2 2) 2 (intsV [-7777, -8888]) (w1.alloc (.cells #[.int .i64 (-7777), .int .i64 (-8888)] 3)) :=
    ints_src (xs := [-7777, -8888]) Tryz.underlying25 (intsL (xs := [-7777, -8888]) rN (by simp)) (fun e => by cases e)
  obtain ⟨i, hi, hz0, hs, hbb⟩ := info_parts info_int
  have hbl := hb.size
  obtain ⟨v', w3, hrun, hG⟩ := run_append_crow (P := Tryz.prog) (w1.alloc (.cells #[.int .i64 (-7777), .int .i64 (-8888)] 3)) 25 3 25 25 i (.int .i64 0) 1 8 Tryz.underlying25 hi hz0 hs hbb rfl w.heap.size ao L cap (intsV xs) hc2 (by simp; omega)
    (.slice (some ⟨w1.heap.size, 0, none⟩) 2 2) 2 (intsV [-7777, -8888]) hsrc (by omega) (by unfold maxLen; omega)
  have hrow := hG.row.own (by omega)
  obtain ⟨ao', cap', rfl, hle, hmx⟩ := hrow.shape
  obtain ⟨g, off, rfl, _, _, hcs⟩ := hrow.cell (k := L) (by rw [List.length_append, intsV_len, HL.out]; simp [intsV])
  have hlen : (intsV xs ++ intsV [-7777, -8888]).length = L + 2 := by rw [List.length_append, intsV_len, HL.out]; simp [intsV]
  have hrd : ReadsI w3 (some ⟨g, off, none⟩) (xs ++ [-7777, -8888]) := by
    have e : intsV xs ++ intsV [-7777, -8888] = intsV (xs ++ [-7777, -8888]) := by simp [intsV]
    refine ⟨by rw [List.length_append, HL.out]; simp; omega, fun _ => ⟨_, rfl, fun j hj => ?_⟩⟩
    have hj2 : j < (intsV xs ++ intsV [-7777, -8888]).length := by rw [hlen]; rw [List.length_append, HL.out] at hj; simpa using hj
    rw [Addr.add_lit, (hcs j hj2).1]
    have := List.getElem_of_eq e hj2
    rw [this]
    simp only [intsV, List.getElem_map]
  have HRD := Lib.hid hrd
  have HB := Lib.hid (Chg.below (below_trans hb b2) hG.chg (fun b hb => (hc2.in_ b hb).1))
  have hb1 : (0 : Int) ≤ (L : Int) := by omega
  have hb2 : (L : Int) ≤ (cap' : Int) := by omega
  have hb3 : L ≤ cap' := by omega
  have HMX := Lib.hid hmx
  have HLE := Lib.hid hle
  clear hG hrow hcs hlen hrd hc2 rN hsrc b2 hc hb hbl hi hz0 hs hbb hmx hle H
  go_wp2_with (at_builtin; refine wpList_append_run _ rfl _ _ _ _ rfl _ _ _ _ rfl rfl hrun ?_)
  go_ret
  exact ⟨g, off, cap', rfl, HLE.out, HMX.out, HRD.out, HB.out⟩
set_option maxRecDepth 100000 in
set_option maxHeartbeats 2000000 in
theorem keptInts_any (g off cap c : Nat) (A : Option Addr) (xs : List Int) (w : World) (hc : xs.length + 2 ≤ cap) (hm : cap ≤ maxLen) (hl : ReadsI w (some ⟨g, off, none⟩) (xs ++ [-7777, -8888])) (hr : ReadsI w A xs) :
    Calls Tryz.prog 17 #[.slice (some ⟨g, off, none⟩) xs.length cap, .slice A xs.length c] w (RetD (.bool true) w) := by
  have HS := Lib.hid (sameInts_any (some ⟨g, off, none⟩) A cap c xs xs w hl.prefix hr)
  rw [decide_eq_true rfl] at HS
  have hn := hr.1
  obtain ⟨ad, eA, hcs⟩ := hl.2 (by rw [List.length_append]; simp)
  cases eA
  have c0 := hcs xs.length (by rw [List.length_append]; simp)
  have c1 := hcs (xs.length + 1) (by rw [List.length_append]; simp)
  rw [List.getElem_append_right (by omega)] at c0
  rw [List.getElem_append_right (by omega)] at c1
  simp [Addr.add_lit] at c0 c1
  obtain ⟨L, hL⟩ : ∃ L, xs.length = L := ⟨_, rfl⟩
  rw [hL] at HS hn hc c0 c1 ⊢
  unfold maxLen at hm
  have q1 : IntKind.i64.wrap ((L : Int) + 2) = L + 2 := IntWalk.i64_in _ (by omega)
  have q2 : IntKind.i64.wrap ((L : Int) + 1) = L + 1 := IntWalk.i64_in _ (by omega)
  have q3 : (0 : Int) ≤ (L : Int) + 2 := by omega
  have q4 : (L : Int) + 2 ≤ (cap : Int) := by omega
  have q5 : ((L : Int) + 2).toNat = L + 2 := by omega
  have q6 : ((L : Int) + 1).toNat = L + 1 := by omega
  have q7 : (L : Int) + 1 < (L : Int) + 2 := by omega
  have q8 : (L : Int) < (L : Int) + 2 := by omega
  clear hL hcs hl hr
  go_enter Tryz.func17, Tryz.ntmps17
  go_wp2_with (go_at_call 27; refine HS.out.mono ?_; rintro e w2 ⟨rfl, n, rfl⟩)
  go_ret
  exact ⟨rfl, n, rfl⟩
end Go.Proofs.YtdjlaglilokjeaaGreatDoor

namespace Go.Proofs.YtdjlaglilokjeaaGreatDoor
open Go.RowKit

theorem chg_mono {S T : Nat → Prop} {w w1 w2 : World} (h : Chg T w w1) (k : Chg S w1 w2) (hs : ∀ i, S i → T i) : Chg T w w2 := h.trans k (fun i _ hi => hs i hi)
set_option maxHeartbeats 1000000 in
theorem spoilC_any (A : Option Addr) (c base : Nat) (xs : List Int) (w : World) (h : CRow w base 3 1 (.slice A xs.length c) xs.length (intsV xs)) :
    Calls Tryz.prog 37 #[.slice A xs.length c] w fun e w' => e = .returned (.tuple #[]) ∧ (∃ ys : List Int, ys.length = xs.length ∧ CRow w' base 3 1 (.slice A xs.length c) xs.length (intsV ys)) ∧ Chg (fun b => ob (.slice A xs.length c) = some b) w w' := by
  have H0 := Lib.hid h
  have hn : xs.length ≤ 9223372036854775807 := by
    obtain ⟨_, _, e, h1, h2⟩ := h.shape
    injection e with e1 e2 e3
    unfold maxLen at h2; omega
  obtain ⟨L, hL⟩ : ∃ L, xs.length = L := ⟨_, rfl⟩
  rw [hL] at hn H0 ⊢
  have HL := Lib.hid hL
  clear h hL
  go_enter Tryz.func37, Tryz.ntmps37
  go_wp2_with fail
  go_loopw [2] (fun i wr => ∃ (k : Nat) (ys : List Int), i = .int .i64 k ∧ k ≤ L ∧ ys.length = L ∧ CRow wr base 3 1 (.slice A L c) L (intsV ys) ∧ Chg (fun b => ob (.slice A L c) = some b) w wr) (fun i _ => L - (intOf i).toNat)
  case atStart => exact ⟨0, xs, rfl, Nat.zero_le _, HL.out, H0.out, Chg.refl _ _⟩
  case round =>
    obtain ⟨k, ys, rfl, hk, hy, ho, hc⟩ := hrel
    have HO := Lib.hid ho
    have HC := Lib.hid hc
    have HY := Lib.hid hy
    clear ho hc hy
    by_cases hlt : k < L
    · have hky : k < ys.length := by rw [HY.out]; exact hlt
      have hrow := HO.out.own (by omega)
      obtain ⟨g, off, e, _, _, hcs⟩ := hrow.cell (k := k) (by rw [intsV_len]; exact hky)
      subst e
      have hcap : ob (.slice (some ⟨g, off, none⟩) L c) = some g := by
        obtain ⟨_, _, e, h1, _⟩ := hrow.shape
        injection e with e1 e2 e3
        obtain ⟨c', rfl⟩ : ∃ c', c = c' + 1 := ⟨c - 1, by omega⟩
        rfl
      obtain ⟨c0, f0⟩ := hcs k (by rw [intsV_len]; exact hky)
      have e0 : (intsV ys)[k]'(by rw [intsV_len]; exact hky) = .int .i64 ys[k] := by simp [intsV]
      rw [e0] at c0
      have hp := fun n : Int => hrow.put k (.int .i64 n) (by rw [intsV_len]; exact hky)
      have hps : ∀ n : Int, (intsV ys).set k (.int .i64 n) = intsV (ys.set k n) := fun n => by simp [intsV, List.map_set]
      have HPUT := Lib.hid (fun n : Int => (hps n) ▸ hp n)
      have HCH := Lib.hid (fun u : Value => (Chg.put HC.out (a := ⟨g, off + k, none⟩) hcap u : Chg (fun b => ob (.slice (some ⟨g, off, none⟩) L c) = some b) w _))
      clear hcs hp hps e0 hrow hcap
      go_wp2_with fail
      go_roundw
      case rel => exact ⟨k + 1, _, by go_num, by omega, by rw [List.length_set]; exact HY.out, .inl (HPUT.out _), HCH.out _⟩
      case measure => simp only [intOf]; omega
    · go_wp2_with fail
      go_end0
      exact ⟨rfl, ⟨ys, HY.out, HO.out⟩, HC.out⟩
set_option maxRecDepth 100000 in
set_option maxHeartbeats 4000000 in
theorem spoilFrames_any (A : Option Addr) (c base : Nat) (fs : List Frm) (vss : List (List Value)) (w : World) (h : OwnFr w base (.slice A fs.length c) fs vss) :
    Calls Tryz.prog 36 #[.slice A fs.length c] w fun e w' => e = .returned (.tuple #[]) ∧ Chg (fun b => ∃ u ∈ (Value.slice A fs.length c) :: vss.flatten, ob u = some b) w w' := by
  have H0 := Lib.hid h
  have hn : fs.length ≤ 9223372036854775807 := h.reads.2.1
  obtain ⟨L, hL⟩ : ∃ L, fs.length = L := ⟨_, rfl⟩
  rw [hL] at hn H0 ⊢
  have HL := Lib.hid hL
  clear h hL
  go_enter Tryz.func36, Tryz.ntmps36
  go_wp2_with fail
  go_loopw [2] (fun i wr => ∃ (k : Nat) (gs : List Frm), i = .int .i64 k ∧ k ≤ L ∧ gs.length = L ∧ OwnFr wr base (.slice A L c) gs vss ∧ Chg (fun b => ∃ u ∈ (Value.slice A L c) :: vss.flatten, ob u = some b) w wr) (fun i _ => L - (intOf i).toNat)
  case atStart => exact ⟨0, fs, rfl, Nat.zero_le _, HL.out, H0.out, Chg.refl _ _⟩
  case round =>
    obtain ⟨k, gs, rfl, hk, hy, ho, hc⟩ := hrel
    have HC := Lib.hid hc
    have HY := Lib.hid hy
    by_cases hlt : k < L
    · have hkg : k < gs.length := by omega
      obtain ⟨g, off, eA, _, _, hobv, hk', A1, c1, A2, c2, ev, i1, i2, d0, d1, d2, d3, hfz⟩ := ho.at_ hkg
      subst eA
      have hmem : ∀ u ∈ vss[k], u ∈ (Value.slice (some ⟨g, off, none⟩) L c) :: vss.flatten := fun u hu => List.mem_cons_of_mem _ (List.mem_flatten.2 ⟨_, List.getElem_mem hk', hu⟩)
      have HI1 := Lib.hid (spoilC_any A1 c1 base gs[k].locals wr i1)
      have HO := Lib.hid ho
      have EV := Lib.hid ev
      have HMEM := Lib.hid hmem
      have OBV := Lib.hid hobv
      clear ho hc hy ev hmem hobv i1 i2 hfz d3 d1 d0
      go_wp2_with fail
      (with_reducible refine HI1.out.mono ?_)
      rintro e w1 ⟨rfl, ⟨ys, hyl, hcy⟩, hch⟩
      have ho1 := OwnG.turn HO.out hkg hk' (j := 0) (by rw [EV.out]; simp) { gs[k] with locals := ys } (innI ys) (by simp only [EV.out]; exact hch) (by simp only [EV.out, InnAt, innI]; rw [hyl]; exact hcy) rfl rfl
      have hkg1 : k < (gs.set k { gs[k] with locals := ys }).length := by simpa using hkg
      obtain ⟨g', off', eA, _, _, _, hk2, A3, c3, A4, c4, ev2, i1, i2, d0, d1, d2', d3, hfz⟩ := OwnFr.at_ ho1 hkg1
      cases eA
      have eAA := EV.out.symm.trans ev2
      injection eAA with e1 e2
      injection e2 with e2 e3
      injection e2 with e4 e5 e6
      subst e4 e6
      have es : (gs.set k { gs[k] with locals := ys })[k].stack = gs[k].stack := by simp
      simp only [es] at d3
      have i2' : CRow w1 base 3 1 (.slice A2 gs[k].stack.length c2) gs[k].stack.length (intsV gs[k].stack) := by
        have := i2
        unfold InnAt innI at this
        simp only [es] at this
        exact this
      have HI2 := Lib.hid (spoilC_any A2 c2 base gs[k].stack w1 i2')
      have HO1 := Lib.hid ho1
      have HC1 := Lib.hid (chg_mono HC.out hch (fun b hb => ⟨_, HMEM.out _ (by rw [EV.out]; simp), hb⟩))
      clear ho1 hch hcy i1 i2 i2' ev2 e1 e3 e5 es hfz d0 d1 d2' HI1 hyl
      go_wp2_with fail
      (with_reducible refine HI2.out.mono ?_)
      rintro e w2 ⟨rfl, ⟨zs, hzl, hcz⟩, hch⟩
      have ho2 := OwnG.turn HO1.out hkg1 hk' (j := 1) (by rw [EV.out]; simp) { (gs.set k { gs[k] with locals := ys })[k] with stack := zs } (innI zs) (by simp only [EV.out]; exact hch) (by simp only [EV.out, InnAt, innI]; rw [hzl]; exact hcz) rfl rfl
      obtain ⟨gs2, eg2⟩ : ∃ gs2, (gs.set k { gs[k] with locals := ys }).set k { (gs.set k { gs[k] with locals := ys })[k] with stack := zs } = gs2 := ⟨_, rfl⟩
      rw [eg2] at ho2
      have hl2 : gs2.length = L := by rw [← eg2]; simp; exact HY.out
      have hkg2 : k < gs2.length := by omega
      obtain ⟨g', off', eA, _, _, _, hk2, A3, c3, A4, c4, ev2, i1, i2, d0, d1, d2', d3', hfz⟩ := OwnFr.at_ ho2 hkg2
      cases eA
      have z1 := hfz 1 (by decide)
      have HP := Lib.hid (fun n : Int => OwnG.put (K := KFr) ho2 hkg2 hk' (j := 1) (by decide) (.int .i64 n) { gs2[k] with pc := n } (by rw [ev2]; rfl) rfl)
      have HC2 := Lib.hid (chg_mono HC1.out hch (fun b hb => ⟨_, HMEM.out _ (by rw [EV.out]; simp), hb⟩))
      have HCP := Lib.hid (fun u : Value => (Chg.put HC2.out (a := ⟨g, off + k * 4 + 1, none⟩) ⟨_, List.mem_cons_self .., OBV.out⟩ u))
      have HL2 := Lib.hid hl2
      clear ho2 hch hcz eg2 hl2 hfz ev2 i1 i2 d0 d2' d3' hzl HI2
      go_wp2_with fail
      go_roundw
      case rel => exact ⟨k + 1, _, by go_num, by omega, by rw [List.length_set]; exact HL2.out, HP.out _, HCP.out _⟩
      case measure => simp only [intOf]; omega
    · clear ho hc hy
      go_wp2_with fail
      go_end0
      exact ⟨rfl, HC.out⟩
set_option maxRecDepth 100000 in
set_option maxHeartbeats 4000000 in
theorem spoilState_any (s : Stt) (A Ao : Option Addr) (c co base : Nat) (vss : List (List Value)) (w : World) (h : OwnS w base s (.slice A s.frames.length c) (.slice Ao s.out.length co) vss) :
    Calls Tryz.prog 15 #[sttV s (.slice A s.frames.length c) (.slice Ao s.out.length co)] w fun e w' => e = .returned (.tuple #[]) ∧ Chg (fun b => base ≤ b) w w' := by
  obtain ⟨fs, fuel, out, done, value⟩ := s
  unfold sttV
  simp only at h ⊢
  obtain ⟨w1, hw1⟩ : ∃ w1, w.alloc (.cells #[.slice A fs.length c, .int .i64 fuel, .slice Ao out.length co, .int .i64 done, .int .i64 value] 30) = w1 := ⟨_, rfl⟩
  have b1 : Below w.heap.size w w1 := hw1 ▸ below_alloc (Below.refl _ _) _
  have r1 : RowAt 30 w.heap.size [.slice A fs.length c, .int .i64 fuel, .slice Ao out.length co, .int .i64 done, .int .i64 value] w1 := hw1 ▸ RowAt.new _ _ w
  have k0 := r1.cell (k := 0) (by simp)
  simp only [List.getElem_cons_zero] at k0
  have h1 := h.below b1
  have H := Lib.hid (spoilFrames_any A c base fs vss w1 h1.fr)
  have H1 := Lib.hid h1
  have HB := Lib.hid b1
  have R1 := Lib.hid r1
  have HLO := Lib.hid h.fr.lo
  have HOL := Lib.hid h.out.in_
  clear b1 r1 h h1
  go_enter Tryz.func15, Tryz.ntmps15
  go_wp2_with fail
  (with_reducible refine H.out.mono ?_)
  rintro e w2 ⟨rfl, hch⟩
  have r2 := R1.out.chg hch (fun ⟨u, hu, e⟩ => by have := (HLO.out u hu _ e).2; omega)
  have k2 := r2.cell (k := 2) (by simp)
  simp only [List.getElem_cons_zero, List.getElem_cons_succ] at k2
  have H2 := Lib.hid (spoilC_any Ao co base out w2 (H1.out.out.chg hch (fun b hb ⟨u, hu, e⟩ => H1.out.sep u hu b e hb)))
  have HC := Lib.hid (chg_mono (T := fun b => base ≤ b) (Chg.of_below HB.out) hch (fun b ⟨u, hu, e⟩ => (HLO.out u hu b e).1))
  clear hch r2 H hw1 k0
  go_wp2_with fail
  (with_reducible refine H2.out.mono ?_)
  rintro e w3 ⟨rfl, -, hch⟩
  have HC2 := Lib.hid (chg_mono HC.out hch (fun b hb => (HOL.out b hb).1))
  clear hch
  go_wp2_with fail
  go_end0
  exact ⟨rfl, HC2.out⟩
end Go.Proofs.YtdjlaglilokjeaaGreatDoor

namespace Go.Proofs.YtdjlaglilokjeaaGreatDoor
open Go.RowKit

set_option maxRecDepth 100000 in
set_option maxHeartbeats 4000000 in
theorem rstart_any (p : List Fn) (Ap A : Option Addr) (cp c : Nat) (args : List Int) (fuel : Int) (w : World) (hr : ReadsF w Ap p) (ha : ReadsI w A args) :
    Calls Tryz.prog 8 #[.agg #[.slice Ap p.length cp], .slice A args.length c, .int .i64 fuel] w (StateE (startS p args fuel) (startC p args fuel) w) := by
  obtain ⟨w1, hw1⟩ : ∃ w1, w.alloc (.cells #[.slice Ap p.length cp] 24) = w1 := ⟨_, rfl⟩
  obtain ⟨w2, hw2⟩ : ∃ w2, w1.alloc (.cells #[.slice none 0 0, .int .i64 0, .slice none 0 0, .int .i64 0, .int .i64 0] 30) = w2 := ⟨_, rfl⟩
  have b1 : Below w.heap.size w w1 := hw1 ▸ below_alloc (Below.refl _ _) _
  have b2 : Below w1.heap.size w1 w2 := hw2 ▸ below_alloc (Below.refl _ _) _
  have z1 : w1.heap.size = w.heap.size + 1 := by rw [← hw1]; simp
  have r1 : RowAt 24 w.heap.size [.slice Ap p.length cp] w2 := (hw1 ▸ RowAt.new _ _ w : RowAt 24 w.heap.size [.slice Ap p.length cp] w1).below b2
  have r2 : RowAt 30 w1.heap.size [.slice none 0 0, .int .i64 0, .slice none 0 0, .int .i64 0, .int .i64 0] w2 := hw2 ▸ RowAt.new _ _ w1
  have B2 := Lib.hid (below_trans b1 b2)
  have R1 := Lib.hid r1
  have R2 := Lib.hid r2
  have Z1 := Lib.hid z1
  have HRF := Lib.hid (hr.below B2.out)
  have HAR := Lib.hid (ha.below B2.out)
  have hna := ha.1
  have HP := Lib.hid (rverify_any p Ap cp w2 HRF.out)
  obtain ⟨vf, hvf⟩ : ∃ vf, verifyOf p = vf := ⟨_, rfl⟩
  have HVF := Lib.hid hvf
  rw [hvf] at HP
  have q1 := row_cell r1
  clear hvf b1 b2 r1 r2 hr ha z1
  by_cases hv : vf = 0
  · have dv : (vf != 0) = false := by simpa using hv
    have HV := Lib.hid (HVF.out.trans hv)
    have hp1 := (packs_len (verifyOf_packs HV.out)).1
    obtain ⟨a0, a4, al, l8, _⟩ := fnMay_of (packs_fn (verifyOf_packs HV.out) (k := 0) hp1)
    obtain ⟨L, hL⟩ := Int.eq_ofNat_of_zero_le (show 0 ≤ p[0].locals by omega)
    have HL := Lib.hid hL
    have L8 : L ≤ 100 := by omega
    have hea : argsAt0 p = p[0].args := by unfold argsAt0; rw [List.getElem?_eq_getElem hp1]
    have hel : localsAt p 0 = L := by unfold localsAt; rw [show (0 : Int).toNat = 0 from rfl, List.getElem?_eq_getElem hp1]; exact hL
    have HE := Lib.hid (show startB p args fuel = (numbersB args p[0].args && decide (0 ≤ fuel) && decide (fuel ≤ 100000)) by unfold startB numbersB; rw [HV.out, hea, decide_eq_true rfl, Bool.true_and, Bool.and_comm (args.all isNum)])
    have HNL := Lib.hid (show numbersB args p[0].args = true → (args.length : Int) = p[0].args from fun h => by unfold numbersB at h; simp only [Bool.and_eq_true, decide_eq_true_eq] at h; exact h.2)
    have HEL := Lib.hid hel
    have AL := Lib.hid al
    clear hv a0 a4 al l8 hL hea hel
    go_enter Tryz.func8, Tryz.ntmps8
    go_wp2_with fail
    refine HP.out.mono ?_
    rintro e w3 ⟨rfl, hB⟩
    have B3 := Lib.hid (below_trans B2.out hB)
    have B23 := Lib.hid hB
    have HRF3 := Lib.hid (HRF.out.below hB)
    have t1 := R1.out.below hB
    have t2 := R2.out.below hB
    have k1 := row_cell t1
    obtain ⟨ad, eA, Ac, cc, hF⟩ := fnAt_of HRF3.out (Below.refl _ _) hp1
    subst eA
    have k2 := hF.c0
    simp only [Nat.zero_mul, add_nil] at k2
    have f0 := t2.free 0
    have f1 := t2.free 1
    have f2 := t2.free 2
    have f3 := t2.free 3
    have f4 := t2.free 4
    have g0 := t2.cell (k := 0) (by simp)
    have g1 := t2.cell (k := 1) (by simp)
    have g2 := t2.cell (k := 2) (by simp)
    have g3 := t2.cell (k := 3) (by simp)
    have g4 := t2.cell (k := 4) (by simp)
    simp only [List.getElem_cons_succ, List.getElem_cons_zero] at g0 g1 g2 g3 g4
    have T2 := Lib.hid t2
    have HB := Lib.hid (fun (hle : args.length ≤ L) => fresh_any p (some ad) A cp c 0 L args w3 HRF3.out hp1 HL.out L8 (HAR.out.below hB) hle)
    obtain ⟨pa, epa⟩ : ∃ pa, p[0].args = pa := ⟨_, rfl⟩
    rw [epa] at k2 HE AL HNL
    have HA := Lib.hid (numbers_any A c args pa w3 (HAR.out.below hB))
    obtain ⟨xa, exa⟩ : ∃ xa, numbersB args pa = xa := ⟨_, rfl⟩
    rw [exa] at HA HE HNL
    clear hB t1 t2 hF q1 hw1 hw2 exa epa
    by_cases hgo : (xa = true ∧ 0 ≤ fuel ∧ fuel ≤ 100000)
    · obtain ⟨rfl, h2, h3⟩ := hgo
      have h1 := HNL.out rfl
      have d2 : decide (fuel < 0) = false := by simpa using h2
      have d3 : decide (100000 < fuel) = false := by simpa using h3
      have HS := Lib.hid (show startB p args fuel = true by rw [HE.out, decide_eq_true h2, decide_eq_true h3]; rfl)
      have HLE := Lib.hid (show args.length ≤ L by have := AL.out; have := HL.out; omega)
      clear h1
      go_wp2_with (go_at_call 25; refine HA.out.mono ?_; rintro e w' ⟨rfl, rfl⟩)
      refine (HB.out HLE.out).mono ?_
      rintro e w4 ⟨g, rfl, hrg, hgl, hB4⟩
      obtain ⟨w5, hw5⟩ : ∃ w5, w4.alloc (.cells #[.int .i64 0, .int .i64 0, .slice (some ⟨g, 0, none⟩) L L, .slice none 0 0] 27) = w5 := ⟨_, rfl⟩
      have b5 : Below w4.heap.size w4 w5 := hw5 ▸ below_alloc (Below.refl _ _) _
      have r5 : RowAt 27 w4.heap.size [.int .i64 0, .int .i64 0, .slice (some ⟨g, 0, none⟩) L L, .slice none 0 0] w5 := hw5 ▸ RowAt.new _ _ w4
      have b35 := below_trans hB4 b5
      have t5 := T2.out.below b35
      have f0 := t5.free 0
      have f1 := t5.free 1
      have f2 := t5.free 2
      have f3 := t5.free 3
      have f4 := t5.free 4
      have g0 := t5.cell (k := 0) (by simp)
      have g1 := t5.cell (k := 1) (by simp)
      have g2 := t5.cell (k := 2) (by simp)
      have g3 := t5.cell (k := 3) (by simp)
      have g4 := t5.cell (k := 4) (by simp)
      simp only [List.getElem_cons_succ, List.getElem_cons_zero] at g0 g1 g2 g3 g4
      have pz := put5 t5 rfl (.slice (some ⟨w4.heap.size, 0, none⟩) 1 1) (.int .i64 fuel) (.slice none 0 0) (.int .i64 0) (.int .i64 0)
      have hzz := B3.out.size
      have hz2 := B23.out.size
      have hz3 := blk_lt T2.out
      have hz4 := hB4.size
      have hgs := blk_lt hrg
      have EE := Lib.hid pz.1
      have KB := Lib.hid (below_keep (below_trans B3.out b35) pz.2 (by have := Z1.out; omega))
      have OF := Lib.hid (own_one (base := w.heap.size) (f := ⟨0, 0, beginL args L, []⟩) ((hrg.below b5).keeps pz.2 (by omega)) (by omega) (beginL_len HLE.out) L8 rfl (r5.keeps pz.2 (by omega)) (by omega) (by omega))
      clear pz hzz hz2 hz3 hz4 hgs b5 r5 b35 t5 hrg hgl hB4
      go_wp2_with fail
      have hS : startS p args fuel = ⟨[⟨0, 0, beginL args L, []⟩], fuel, [], 0, 0⟩ := by unfold startS; rw [if_pos HS.out, HEL.out]; rfl
      have hC : startC p args fuel = 0 := by unfold startC; rw [if_pos HS.out]
      exact bodyPost_ret (v := .tuple #[.agg #[.slice (some ⟨w4.heap.size, 0, none⟩) 1 1, .int .i64 fuel, .slice none 0 0, .int .i64 0, .int .i64 0], .int .i64 0]) (by simp [results, Tryz.results8, go_sem, EE.out.1, EE.out.2.1, EE.out.2.2.1, EE.out.2.2.2.1, EE.out.2.2.2.2]) rfl
        ⟨_, .slice none 0 0, _, by rw [hS, hC]; rfl, by rw [hS]; exact ⟨OF.out, CRow.nil _ _ _ _, fun u hu b hb e => by cases e⟩, KB.out⟩
    · have HS := Lib.hid (show startB p args fuel = false by
        rw [HE.out]
        cases xa
        · simp
        · cases h : (true && decide (0 ≤ fuel) && decide (fuel ≤ 100000)) with
          | false => rfl
          | true =>
            simp only [Bool.and_eq_true, decide_eq_true_eq, true_and] at h
            exact absurd ⟨rfl, h.1, h.2⟩ hgo)
      clear hgo
      have pz := put5 T2.out rfl (.slice none 0 0) (.int .i64 0) (.slice none 0 0) (.int .i64 0) (.int .i64 0)
      have EE := Lib.hid pz.1
      have KB := Lib.hid (below_keep B3.out pz.2 (by have := Z1.out; omega))
      clear pz
      go_wp2_with (go_at_call 25; refine HA.out.mono ?_; rintro e w' ⟨rfl, rfl⟩)
      all_goals first
        | (refine bodyPost_ret (v := .tuple #[.agg #[.slice none 0 0, .int .i64 0, .slice none 0 0, .int .i64 0, .int .i64 0], .int .i64 600]) ?_ rfl ?_; (· simp [results, Tryz.results8, go_sem, EE.out.1, EE.out.2.1, EE.out.2.2.1, EE.out.2.2.2.1, EE.out.2.2.2.2]); exact ⟨.slice none 0 0, .slice none 0 0, [], by rw [(startB_no HS.out).1, (startB_no HS.out).2]; rfl, by rw [(startB_no HS.out).1]; exact OwnS.zero _ _ _ _ _, KB.out⟩)
        | (exfalso; have h := HE.out; rw [HS.out] at h; simp_all; done)
        | (exfalso; have h := HE.out; rw [HS.out] at h; simp_all; omega)
  · have dv : (vf != 0) = true := by simpa using hv
    have HS := Lib.hid (show startB p args fuel = false by unfold startB; rw [HVF.out, decide_eq_false hv]; rfl)
    clear hv
    go_enter Tryz.func8, Tryz.ntmps8
    go_wp2_with fail
    refine HP.out.mono ?_
    rintro e w3 ⟨rfl, hB⟩
    have t2 := R2.out.below hB
    have f0 := t2.free 0
    have f1 := t2.free 1
    have f2 := t2.free 2
    have f3 := t2.free 3
    have f4 := t2.free 4
    have g0 := t2.cell (k := 0) (by simp)
    have g1 := t2.cell (k := 1) (by simp)
    have g2 := t2.cell (k := 2) (by simp)
    have g3 := t2.cell (k := 3) (by simp)
    have g4 := t2.cell (k := 4) (by simp)
    simp only [List.getElem_cons_succ, List.getElem_cons_zero] at g0 g1 g2 g3 g4
    have B3 := Lib.hid (below_trans B2.out hB)
    have pz := put5 t2 rfl (.slice none 0 0) (.int .i64 0) (.slice none 0 0) (.int .i64 0) (.int .i64 0)
    have EE := Lib.hid pz.1
    have KB := Lib.hid (below_keep B3.out pz.2 (by have := Z1.out; omega))
    clear pz
    clear hB t2
    go_wp2_with fail
    exact bodyPost_ret (v := .tuple #[.agg #[.slice none 0 0, .int .i64 0, .slice none 0 0, .int .i64 0, .int .i64 0], .int .i64 600]) (by simp [results, Tryz.results8, go_sem, EE.out.1, EE.out.2.1, EE.out.2.2.1, EE.out.2.2.2.1, EE.out.2.2.2.2]) rfl
          ⟨.slice none 0 0, .slice none 0 0, [], by rw [(startB_no HS.out).1, (startB_no HS.out).2]; rfl, by rw [(startB_no HS.out).1]; exact OwnS.zero _ _ _ _ _, KB.out⟩
end Go.Proofs.YtdjlaglilokjeaaGreatDoor

namespace Go.Proofs.YtdjlaglilokjeaaGreatDoor
open Go.RowKit

section
variable {P : Program} {ops : Array Oper} {Q : Exit → Act → World → Prop} {md : Region.Mode}
theorem unlisted_lt {l : Array Bool} {j : Nat} (h : l.getD j true = false) : ∃ hj : j < l.size, l[j] = false := by
  by_cases hj : j < l.size
  · exact ⟨hj, by simpa [Array.getD, hj] using h⟩
  · simp [Array.getD, hj] at h
theorem wpAny_inv (J : Array Bool → Act → World → Prop) (hend : ∀ l a w, J l a w → Region.ready md ops l = [] → Q .normal a w)
    (hstep : ∀ l a w i, J l a w → i ∈ Region.ready md ops l → wpOp P ops Q i (fun a' w' => J (l.setIfInBounds i true) a' w') a w) :
    ∀ (fuel : Nat) (l : Array Bool) (a : Act) (w : World), J l a w → l.toList.count false ≤ fuel → wpAny P md ops Q fuel l a w := by
  have none : ∀ l : Array Bool, l.toList.count false = 0 → Region.ready md ops l = [] := fun l hc => by
    refine List.eq_nil_iff_forall_not_mem.2 fun j hj => ?_
    obtain ⟨hj, e⟩ := unlisted_lt (mem_ready.1 hj).1
    exact absurd (List.count_eq_zero.1 hc) (by simpa using (Array.mem_of_getElem e))
  intro fuel
  induction fuel with
  | zero => exact fun l a w h hc => ⟨none l (by omega), hend l a w h (none l (by omega))⟩
  | succ fuel ih =>
    refine fun l a w h hc => ⟨hend l a w h, fun i hi => wpOp_mono (fun a' w' h' => ih _ a' w' h' ?_) (hstep l a w i h hi)⟩
    obtain ⟨hj, e⟩ := unlisted_lt (mem_ready.1 hi).1
    have hj' : i < l.toList.length := by simpa using hj
    rw [Array.toList_setIfInBounds, List.count_set hj']
    have : 0 < l.toList.count false := List.count_pos_iff.2 (by simpa using (Array.mem_of_getElem e))
    have e2 : l.toList[i] = false := by simpa using e
    rw [e2]
    simp only [beq_self_eq_true, if_true, show (true == false) = false from rfl, Bool.false_eq_true, if_false]
    omega
/-- The region, by what holds behind any of its operations. -/
theorem wp_region_inv {id : Nat} {a : Act} {w : World} (hm : P.follows .mixedOrders = true) (J : Array Bool → Act → World → Prop) (h0 : J (Array.replicate ops.size false) a w.drew)
    (hend : ∀ l a w, J l a w → Region.ready .any ops l = [] → Q .normal a w)
    (hstep : ∀ l a w i, J l a w → i ∈ Region.ready .any ops l → wpOp P ops Q i (fun a' w' => J (l.setIfInBounds i true) a' w') a w) : (Code.region id ops true).wp P Q a w :=
  wp_region_any hm (wpAny_inv J hend hstep _ _ _ _ h0 (by simp))
theorem wp_region_inv_of {id : Nat} {a : Act} {w : World} (J : Act → Array Bool → Act → World → Prop) (hm : P.follows .mixedOrders = true) (h0 : J a (Array.replicate ops.size false) a w.drew)
    (hend : ∀ l a' w, J a l a' w → Region.ready .any ops l = [] → Q .normal a' w)
    (hstep : ∀ l a' w i, J a l a' w → i ∈ Region.ready .any ops l → wpOp P ops Q i (fun a' w' => J a (l.setIfInBounds i true) a' w') a' w) : (Code.region id ops true).wp P Q a w :=
  wp_region_inv hm (J a) h0 hend hstep
/-- Nothing may come up: what waits for no one has come up. -/
theorem all_listed {l : Array Bool} {i : Nat} {o : Oper} (h : Region.ready md ops l = []) (ho : ops[i]? = some o) (ha : o.after.toList.all (fun e => !Region.binds md e || l.getD e.on false) = true) : l.getD i true = true := by
  cases hl : l.getD i true
  · have : i ∈ Region.ready md ops l := mem_ready.2 ⟨hl, o, ho, fun e he hb => by
      have := List.all_eq_true.1 ha e (by simpa using he)
      simpa [hb] using this⟩
    rw [h] at this; cases this
  · rfl
end

/-- What holds, and goes on holding while none of the blocks S is written. -/
def Stays (S : Nat → Prop) (I : World → Prop) (w : World) : Prop := ∀ T w', Chg T w w' → (∀ b, T b → ¬ S b) → I w'
theorem Stays.now {S : Nat → Prop} {I : World → Prop} {w : World} (h : Stays S I w) : I w := h (fun _ => False) w (Chg.of_below (Below.refl _ _)) (fun _ h => h.elim)
theorem Stays.chg {S T : Nat → Prop} {I : World → Prop} {w w' : World} (h : Stays S I w) (hk : Chg T w w') (hd : ∀ b, T b → ¬ S b) : Stays S I w' := fun T' w'' hk' hd' =>
  h (fun b => T b ∨ T' b) w'' ((hk.mono (fun _ h => .inl h)).trans hk' (fun _ _ h => .inr h)) (fun b hb => hb.elim (hd b) (hd' b))
theorem Stays.below {S : Nat → Prop} {I : World → Prop} {w w' : World} (h : Stays S I w) (hb : Below w.heap.size w w') : Stays S I w' := h.chg (T := fun _ => False) (Chg.of_below hb) (fun _ h => h.elim)
theorem Chg.cut {S : Nat → Prop} {w w' : World} (h : Chg S w w') : Chg (fun b => S b ∧ b < w.heap.size) w w' := ⟨h.os, h.tape, h.output, h.size, fun k hk hn => h.block k hk (fun hs => hn ⟨hs, hk⟩)⟩
/-- The blocks that a call has made. -/
def Made (lo hi : Nat) (b : Nat) : Prop := lo ≤ b ∧ b < hi
theorem OwnF.stays {w : World} {base : Nat} {v : Value} {p : List Fn} (h : OwnF w base v p) : Stays (Made base w.heap.size) (fun w' => OwnF w' base v p) w := fun _ _ hk hd => h.chg hk.cut (fun k hk => by
  have h1 := hd k hk.1
  have h2 := hk.2
  unfold Made at h1; omega)
theorem OwnS.stays {w : World} {base : Nat} {s : Stt} {fv ov : Value} {vss : List (List Value)} (h : OwnS w base s fv ov vss) : Stays (Made base w.heap.size) (fun w' => OwnS w' base s fv ov vss) w := fun _ _ hk hd =>
  ⟨OwnG.chg h.fr hk.cut (fun u hu b hb hT => hd b hT.1 ⟨(OwnG.lo h.fr u hu b hb).1, hT.2⟩), h.out.chg hk.cut (fun b hb hT => hd b hT.1 ⟨(h.out.in_ b hb).1, hT.2⟩), h.sep⟩

/-- Two calls that make their answers, two variables for them: what holds while they come up in any order. -/
structure Two2 (w0 : World) (tX tY : Nat) (zX zY : List Value) (cX cY : Value → List Value) (I1 I2 : Value → World → Prop) (r1 r2 x y : Value) (b1 b3 b4 b5 b6 b7 : Bool) (l1 h1 l2 h2 bx bz : Nat) (w : World) : Prop where
  below : Below w0.heap.size w0 w
  got1 : b1 = true → h1 ≤ w.heap.size ∧ w0.heap.size ≤ l1 ∧ Stays (Made l1 h1) (I1 r1) w
  got2 : b3 = true → h2 ≤ w.heap.size ∧ w0.heap.size ≤ l2 ∧ Stays (Made l2 h2) (I2 r2) w
  isX : b4 = true → x = .pointer (some ⟨bx, 0, none⟩) ∧ w0.heap.size ≤ bx ∧ bx < w.heap.size ∧ RowAt tX bx (if b6 = true then cX r1 else zX) w
  isY : b5 = true → y = .pointer (some ⟨bz, 0, none⟩) ∧ w0.heap.size ≤ bz ∧ bz < w.heap.size ∧ RowAt tY bz (if b7 = true then cY r2 else zY) w
  ne : b4 = true → b5 = true → bx ≠ bz
  n1 : b1 = true → b4 = true → ¬ Made l1 h1 bx
  n2 : b1 = true → b5 = true → ¬ Made l1 h1 bz
  n3 : b3 = true → b4 = true → ¬ Made l2 h2 bx
  n4 : b3 = true → b5 = true → ¬ Made l2 h2 bz
  late6 : b6 = true → b1 = true ∧ b3 = true ∧ b4 = true ∧ b5 = true
  late7 : b7 = true → b1 = true ∧ b3 = true ∧ b4 = true ∧ b5 = true
section
variable {w0 w w' : World} {tX tY : Nat} {zX zY : List Value} {cX cY : Value → List Value} {I1 I2 : Value → World → Prop} {r1 r2 x y : Value} {b1 b3 b4 b5 b6 b7 : Bool} {l1 h1 l2 h2 bx bz : Nat}
theorem Two2.start (w0 w : World) (tX tY : Nat) (zX zY : List Value) (cX cY : Value → List Value) (I1 I2 : Value → World → Prop) (r1 r2 x y : Value) (hb : Below w0.heap.size w0 w) : Two2 w0 tX tY zX zY cX cY I1 I2 r1 r2 x y false false false false false false 0 0 0 0 0 0 w := by
  constructor <;> first | exact hb | (intro h; cases h)
theorem Two2.call1 (h : Two2 w0 tX tY zX zY cX cY I1 I2 r1 r2 x y false b3 b4 b5 b6 b7 l1 h1 l2 h2 bx bz w) {r : Value} (hb : Below w.heap.size w w') (hr : Stays (Made w.heap.size w'.heap.size) (I1 r) w') :
    Two2 w0 tX tY zX zY cX cY I1 I2 r r2 x y true b3 b4 b5 b6 b7 w.heap.size w'.heap.size l2 h2 bx bz w' := by
  have hs := hb.size
  have e6 : b6 = false := by cases b6; rfl; cases (h.late6 rfl).1
  have e7 : b7 = false := by cases b7; rfl; cases (h.late7 rfl).1
  subst e6 e7
  refine ⟨below_trans h.below hb, fun _ => ⟨Nat.le_refl _, h.below.size, hr⟩, fun e => ?_, fun e => ?_, fun e => ?_, h.ne, fun _ e hm => ?_, fun _ e hm => ?_, h.n3, h.n4, (fun e => by cases e), (fun e => by cases e)⟩
  · obtain ⟨g1, g2, g3⟩ := h.got2 e; exact ⟨by omega, g2, g3.below hb⟩
  · obtain ⟨g1, g2, g3, g4⟩ := h.isX e; exact ⟨g1, g2, by omega, g4.below hb⟩
  · obtain ⟨g1, g2, g3, g4⟩ := h.isY e; exact ⟨g1, g2, by omega, g4.below hb⟩
  · have := (h.isX e).2.2.1; unfold Made at hm; omega
  · have := (h.isY e).2.2.1; unfold Made at hm; omega
theorem Two2.call2 (h : Two2 w0 tX tY zX zY cX cY I1 I2 r1 r2 x y b1 false b4 b5 b6 b7 l1 h1 l2 h2 bx bz w) {r : Value} (hb : Below w.heap.size w w') (hr : Stays (Made w.heap.size w'.heap.size) (I2 r) w') :
    Two2 w0 tX tY zX zY cX cY I1 I2 r1 r x y b1 true b4 b5 b6 b7 l1 h1 w.heap.size w'.heap.size bx bz w' := by
  have hs := hb.size
  have e6 : b6 = false := by cases b6; rfl; cases (h.late6 rfl).2.1
  have e7 : b7 = false := by cases b7; rfl; cases (h.late7 rfl).2.1
  subst e6 e7
  refine ⟨below_trans h.below hb, fun e => ?_, fun _ => ⟨Nat.le_refl _, h.below.size, hr⟩, fun e => ?_, fun e => ?_, h.ne, h.n1, h.n2, fun _ e hm => ?_, fun _ e hm => ?_, (fun e => by cases e), (fun e => by cases e)⟩
  · obtain ⟨g1, g2, g3⟩ := h.got1 e; exact ⟨by omega, g2, g3.below hb⟩
  · obtain ⟨g1, g2, g3, g4⟩ := h.isX e; exact ⟨g1, g2, by omega, g4.below hb⟩
  · obtain ⟨g1, g2, g3, g4⟩ := h.isY e; exact ⟨g1, g2, by omega, g4.below hb⟩
  · have := (h.isX e).2.2.1; unfold Made at hm; omega
  · have := (h.isY e).2.2.1; unfold Made at hm; omega
theorem Two2.newX (h : Two2 w0 tX tY zX zY cX cY I1 I2 r1 r2 x y b1 b3 false b5 b6 b7 l1 h1 l2 h2 bx bz w) :
    Two2 w0 tX tY zX zY cX cY I1 I2 r1 r2 (.pointer (some ⟨w.heap.size, 0, none⟩)) y b1 b3 true b5 b6 b7 l1 h1 l2 h2 w.heap.size bz (w.alloc (.cells zX.toArray tX)) := by
  have hb := below_alloc (Below.refl w.heap.size w) (.cells zX.toArray tX)
  have hs : w.heap.size < (w.alloc (.cells zX.toArray tX)).heap.size := blk_lt (RowAt.new tX zX w)
  have e6 : b6 = false := by cases b6; rfl; cases (h.late6 rfl).2.2.1
  have e7 : b7 = false := by cases b7; rfl; cases (h.late7 rfl).2.2.1
  subst e6 e7
  refine ⟨below_trans h.below hb, fun e => ?_, fun e => ?_, fun _ => ⟨rfl, h.below.size, hs, RowAt.new _ _ _⟩, fun e => ?_, fun _ e => ?_, fun e _ hm => ?_, h.n2, fun e _ hm => ?_, h.n4, (fun e => by cases e), (fun e => by cases e)⟩
  · obtain ⟨g1, g2, g3⟩ := h.got1 e; exact ⟨by omega, g2, g3.below hb⟩
  · obtain ⟨g1, g2, g3⟩ := h.got2 e; exact ⟨by omega, g2, g3.below hb⟩
  · obtain ⟨g1, g2, g3, g4⟩ := h.isY e; exact ⟨g1, g2, by omega, g4.below hb⟩
  · have := (h.isY e).2.2.1; omega
  · have := (h.got1 e).1; unfold Made at hm; omega
  · have := (h.got2 e).1; unfold Made at hm; omega
theorem Two2.newY (h : Two2 w0 tX tY zX zY cX cY I1 I2 r1 r2 x y b1 b3 b4 false b6 b7 l1 h1 l2 h2 bx bz w) :
    Two2 w0 tX tY zX zY cX cY I1 I2 r1 r2 x (.pointer (some ⟨w.heap.size, 0, none⟩)) b1 b3 b4 true b6 b7 l1 h1 l2 h2 bx w.heap.size (w.alloc (.cells zY.toArray tY)) := by
  have hb := below_alloc (Below.refl w.heap.size w) (.cells zY.toArray tY)
  have hs : w.heap.size < (w.alloc (.cells zY.toArray tY)).heap.size := blk_lt (RowAt.new tY zY w)
  have e6 : b6 = false := by cases b6; rfl; cases (h.late6 rfl).2.2.2
  have e7 : b7 = false := by cases b7; rfl; cases (h.late7 rfl).2.2.2
  subst e6 e7
  refine ⟨below_trans h.below hb, fun e => ?_, fun e => ?_, fun e => ?_, fun _ => ⟨rfl, h.below.size, hs, RowAt.new _ _ _⟩, fun e _ => ?_, h.n1, fun e _ hm => ?_, h.n3, fun e _ hm => ?_, (fun e => by cases e), (fun e => by cases e)⟩
  · obtain ⟨g1, g2, g3⟩ := h.got1 e; exact ⟨by omega, g2, g3.below hb⟩
  · obtain ⟨g1, g2, g3⟩ := h.got2 e; exact ⟨by omega, g2, g3.below hb⟩
  · obtain ⟨g1, g2, g3, g4⟩ := h.isX e; exact ⟨g1, g2, by omega, g4.below hb⟩
  · have := (h.isX e).2.2.1; omega
  · have := (h.got1 e).1; unfold Made at hm; omega
  · have := (h.got2 e).1; unfold Made at hm; omega
theorem Two2.putX (h : Two2 w0 tX tY zX zY cX cY I1 I2 r1 r2 x y true true true true false b7 l1 h1 l2 h2 bx bz w) (hk : Chg (fun b => b = bx) w w') (hr : RowAt tX bx (cX r1) w') :
    Two2 w0 tX tY zX zY cX cY I1 I2 r1 r2 x y true true true true true b7 l1 h1 l2 h2 bx bz w' := by
  have hs := hk.size
  refine ⟨Chg.below h.below hk (fun k e => by subst e; exact (h.isX rfl).2.1), fun e => ?_, fun e => ?_, fun e => ?_, fun e => ?_, h.ne, h.n1, h.n2, h.n3, h.n4, fun _ => ⟨rfl, rfl, rfl, rfl⟩, fun _ => ⟨rfl, rfl, rfl, rfl⟩⟩
  · obtain ⟨g1, g2, g3⟩ := h.got1 e; exact ⟨by omega, g2, g3.chg hk (fun b e2 => by subst e2; exact h.n1 rfl rfl)⟩
  · obtain ⟨g1, g2, g3⟩ := h.got2 e; exact ⟨by omega, g2, g3.chg hk (fun b e2 => by subst e2; exact h.n3 rfl rfl)⟩
  · obtain ⟨g1, g2, g3, g4⟩ := h.isX e; exact ⟨g1, g2, by omega, hr⟩
  · obtain ⟨g1, g2, g3, g4⟩ := h.isY e; exact ⟨g1, g2, by omega, g4.chg hk (fun e2 => h.ne rfl rfl e2.symm)⟩
theorem Two2.putY (h : Two2 w0 tX tY zX zY cX cY I1 I2 r1 r2 x y true true true true b6 false l1 h1 l2 h2 bx bz w) (hk : Chg (fun b => b = bz) w w') (hr : RowAt tY bz (cY r2) w') :
    Two2 w0 tX tY zX zY cX cY I1 I2 r1 r2 x y true true true true b6 true l1 h1 l2 h2 bx bz w' := by
  have hs := hk.size
  refine ⟨Chg.below h.below hk (fun k e => by subst e; exact (h.isY rfl).2.1), fun e => ?_, fun e => ?_, fun e => ?_, fun e => ?_, h.ne, h.n1, h.n2, h.n3, h.n4, fun _ => ⟨rfl, rfl, rfl, rfl⟩, fun _ => ⟨rfl, rfl, rfl, rfl⟩⟩
  · obtain ⟨g1, g2, g3⟩ := h.got1 e; exact ⟨by omega, g2, g3.chg hk (fun b e2 => by subst e2; exact h.n2 rfl rfl)⟩
  · obtain ⟨g1, g2, g3⟩ := h.got2 e; exact ⟨by omega, g2, g3.chg hk (fun b e2 => by subst e2; exact h.n4 rfl rfl)⟩
  · obtain ⟨g1, g2, g3, g4⟩ := h.isX e; exact ⟨g1, g2, by omega, g4.chg hk (fun e2 => h.ne rfl rfl e2)⟩
  · obtain ⟨g1, g2, g3, g4⟩ := h.isY e; exact ⟨g1, g2, by omega, hr⟩
end
end Go.Proofs.YtdjlaglilokjeaaGreatDoor

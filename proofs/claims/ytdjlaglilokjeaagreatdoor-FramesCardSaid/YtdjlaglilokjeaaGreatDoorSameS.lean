/- 'SameFrames', 'SameState' of the statements. Conditions: the frames, the states lie in memory as they are said. -/
import Derived.Test.YtdjlaglilokjeaaGreatDoorStart
namespace Go.Proofs.YtdjlaglilokjeaaGreatDoor
open Go.RowKit

theorem frm_ext {x y : Frm} (h1 : x.fn = y.fn) (h2 : x.pc = y.pc) (h3 : x.locals = y.locals) (h4 : x.stack = y.stack) : x = y := by cases x; cases y; simp only at h1 h2 h3 h4; rw [h1, h2, h3, h4]
theorem quiet_back {w w' : World} {n m : Nat} (h : w' = (w.drewN n).drewN m ∨ w' = w.drewN m) : ∃ k, w' = w.drewN k := by
  rcases h with h | h
  · exact ⟨n + m, by rw [h, drewN_two]⟩
  · exact ⟨m, h⟩
set_option maxRecDepth 100000 in
set_option maxHeartbeats 4000000 in
theorem sameFrames_any (A B : Option Addr) (ca cb : Nat) (xs ys : List Frm) (w : World) (hx : ReadsFr w A xs) (hy : ReadsFr w B ys) :
    Calls Tryz.prog 28 #[.slice A xs.length ca, .slice B ys.length cb] w (RetD (.bool (decide (xs = ys))) w) := by
  have HX := Lib.hid hx
  have HY := Lib.hid hy
  have n1 : xs.length ≤ 9223372036854775807 := hx.1
  have n2 : ys.length ≤ 9223372036854775807 := hy.1
  clear hx hy
  by_cases hl : xs.length = ys.length
  case neg =>
    have dl : (xs.length != ys.length) = true := by simpa using hl
    have dm : ((xs.length : Int) != ys.length) = true := by simp; omega
    have HL := Lib.hid hl
    clear hl
    go_enter Tryz.func28, Tryz.ntmps28
    go_wp2_with fail
    go_ret
    exact ⟨ret_bool (ne_len HL.out).symm, 0, rfl⟩
  have dl : (xs.length != ys.length) = false := by simpa using hl
  have dm : ((xs.length : Int) != ys.length) = false := by simp; omega
  have HL := Lib.hid hl
  clear hl
  go_enter Tryz.func28, Tryz.ntmps28
  go_wp2_with fail
  clear dl dm
  go_loopw [5] (fun i wr => ∃ k : Nat, k ≤ xs.length ∧ i = .int .i64 k ∧ (∀ j (hx : j < xs.length) (hy : j < ys.length), j < k → xs[j] = ys[j]) ∧ ∃ n, wr = w.drewN n) (fun i _ => xs.length - (intOf i).toNat)
  case atStart => exact ⟨0, Nat.zero_le _, rfl, fun _ _ _ h => absurd h (Nat.not_lt_zero _), 0, rfl⟩
  case round =>
    obtain ⟨k, hk, rfl, hv, n, rfl⟩ := hrel
    have HV := Lib.hid hv
    clear hv
    by_cases hlt : k < xs.length
    case neg =>
      go_wp2_with fail
      go_ret
      exact ⟨ret_bool (eq_all HL.out fun j hx hy => HV.out j hx hy (by omega)).symm, _, rfl⟩
    have hly : k < ys.length := by have := HL.out; omega
    obtain ⟨a1, e1, c0, c1, ⟨L1, cl1, c2, r1⟩, S1, cs1, c3, r2⟩ := HX.out.at_ (Below.refl _ _) hlt
    obtain ⟨a2, e2, d0, d1, ⟨L2, cl2, d2, r3⟩, S2, cs2, d3, r4⟩ := HY.out.at_ (Below.refl _ _) hly
    subst e1 e2
    have HLS := Lib.hid (fun m => sameInts_any L1 L2 cl1 cl2 xs[k].locals ys[k].locals (w.drewN m) (r1.below (below_drew (Below.refl _ _) _)) (r3.below (below_drew (Below.refl _ _) _)))
    have HSS := Lib.hid (fun m => sameInts_any S1 S2 cs1 cs2 xs[k].stack ys[k].stack (w.drewN m) (r2.below (below_drew (Below.refl _ _) _)) (r4.below (below_drew (Below.refl _ _) _)))
    clear r1 r2 r3 r4
    by_cases h1 : xs[k].fn = ys[k].fn
    case neg =>
      have t1 : (xs[k].fn != ys[k].fn) = true := by simpa using h1
      have HE := Lib.hid (ne_at hlt hly (fun e => h1 (by rw [e])))
      clear h1
      go_wp2_with fail
      go_quiet (fail)
      go_wp2_with fail
      go_ret
      exact ⟨ret_bool HE.out.symm, by first | exact ⟨_, rfl⟩ | exact ⟨_, drewN_two _ _ _⟩⟩
    have t1 : (xs[k].fn != ys[k].fn) = false := by simpa using h1
    by_cases h2 : xs[k].pc = ys[k].pc
    case neg =>
      have t2 : (xs[k].pc != ys[k].pc) = true := by simpa using h2
      have HE := Lib.hid (ne_at hlt hly (fun e => h2 (by rw [e])))
      clear h1 h2
      go_wp2_with fail
      go_quiet (fail)
      go_wp2_with fail
      go_ret
      exact ⟨ret_bool HE.out.symm, by first | exact ⟨_, rfl⟩ | exact ⟨_, drewN_two _ _ _⟩⟩
    have t2 : (xs[k].pc != ys[k].pc) = false := by simpa using h2
    have H1 := Lib.hid h1
    have H2 := Lib.hid h2
    clear h1 h2
    by_cases h3 : xs[k].locals = ys[k].locals
    case neg =>
      have HE := Lib.hid (ne_at hlt hly (fun e => h3 (by rw [e])))
      rw [decide_eq_false h3] at HLS
      clear h3
      go_wp2_with fail
      go_quiet ((go_at_call 27; with_reducible (first | exact RetD.quiet0 (HLS.out _) | exact RetD.quiet (HLS.out _))))
      go_wp2_with fail
      go_ret
      exact ⟨ret_bool HE.out.symm, by first | exact ⟨_, rfl⟩ | exact ⟨_, drewN_two _ _ _⟩⟩
    rw [decide_eq_true h3] at HLS
    have H3 := Lib.hid h3
    clear h3
    by_cases h4 : xs[k].stack = ys[k].stack
    case neg =>
      have HE := Lib.hid (ne_at hlt hly (fun e => h4 (by rw [e])))
      rw [decide_eq_false h4] at HSS
      clear h4
      go_wp2_with fail
      go_quiet ((go_at_call 27; with_reducible (first | exact RetD.quiet0 (HLS.out _) | exact RetD.quiet (HLS.out _) | exact RetD.quiet0 (HSS.out _) | exact RetD.quiet (HSS.out _))))
      go_wp2_with fail
      go_ret
      exact ⟨ret_bool HE.out.symm, by first | exact ⟨_, rfl⟩ | exact ⟨_, drewN_two _ _ _⟩⟩
    rw [decide_eq_true h4] at HSS
    have H4 := Lib.hid h4
    clear h4
    go_wp2_with fail
    go_quiet ((go_at_call 27; with_reducible (first | exact RetD.quiet0 (HLS.out _) | exact RetD.quiet (HLS.out _) | exact RetD.quiet0 (HSS.out _) | exact RetD.quiet (HSS.out _))))
    go_wp2_with fail
    go_roundw
    case rel => exact ⟨k + 1, by omega, by go_num, fun j hx hy h => by
      rcases Nat.lt_or_ge j k with h2 | h2
      · exact HV.out j hx hy h2
      · obtain rfl : j = k := by omega
        exact frm_ext H1.out H2.out H3.out H4.out, by first | exact ⟨_, rfl⟩ | exact ⟨_, drewN_two _ _ _⟩⟩
    case measure => simp only [intOf]; omega
/-- A state, as it is read. -/
structure ReadsS (w : World) (s : Stt) (A Ao : Option Addr) : Prop where
  fr : ReadsFr w A s.frames
  out : ReadsI w Ao s.out
theorem ReadsS.below {w w1 : World} {s : Stt} {A Ao : Option Addr} (h : ReadsS w s A Ao) (hb : Below w.heap.size w w1) : ReadsS w1 s A Ao := ⟨h.fr.below hb, h.out.below hb⟩
theorem OwnS.reads {w : World} {base : Nat} {s : Stt} {fv ov : Value} {vss : List (List Value)} (h : OwnS w base s fv ov vss) : ∃ A c Ao co, fv = .slice A s.frames.length c ∧ ov = .slice Ao s.out.length co ∧ s.frames.length ≤ c ∧ ReadsS w s A Ao := by
  obtain ⟨A, c, rfl, h1, _⟩ := h.fr.row.shape
  obtain ⟨Ao, co, rfl, _, _⟩ := h.out.shape
  exact ⟨A, c, Ao, co, rfl, rfl, h1, h.fr.reads.2, h.out.ints⟩
set_option maxRecDepth 100000 in
set_option maxHeartbeats 4000000 in
theorem sameState_any (x y : Stt) (A Ao B Bo : Option Addr) (c co d dO : Nat) (w : World) (hx : ReadsS w x A Ao) (hy : ReadsS w y B Bo) :
    Calls Tryz.prog 9 #[sttV x (.slice A x.frames.length c) (.slice Ao x.out.length co), sttV y (.slice B y.frames.length d) (.slice Bo y.out.length dO)] w (Ret (.bool (decide (x = y))) w) := by
  obtain ⟨xf, xfu, xo, xd, xv⟩ := x
  obtain ⟨yf, yfu, yo, yd, yv⟩ := y
  obtain ⟨h1, h2⟩ := hx
  obtain ⟨h3, h4⟩ := hy
  unfold sttV
  simp only at h1 h2 h3 h4 ⊢
  obtain ⟨w1, hw1⟩ : ∃ w1, w.alloc (.cells #[.slice A xf.length c, .int .i64 xfu, .slice Ao xo.length co, .int .i64 xd, .int .i64 xv] 30) = w1 := ⟨_, rfl⟩
  obtain ⟨w2, hw2⟩ : ∃ w2, w1.alloc (.cells #[.slice B yf.length d, .int .i64 yfu, .slice Bo yo.length dO, .int .i64 yd, .int .i64 yv] 30) = w2 := ⟨_, rfl⟩
  have b1 : Below w.heap.size w w1 := hw1 ▸ below_alloc (Below.refl _ _) _
  have b2 : Below w1.heap.size w1 w2 := hw2 ▸ below_alloc (Below.refl _ _) _
  have b12 := below_trans b1 b2
  have r1 : RowAt 30 w.heap.size [.slice A xf.length c, .int .i64 xfu, .slice Ao xo.length co, .int .i64 xd, .int .i64 xv] w2 := (hw1 ▸ RowAt.new _ _ w : RowAt 30 w.heap.size _ w1).below b2
  have r2 : RowAt 30 w1.heap.size [.slice B yf.length d, .int .i64 yfu, .slice Bo yo.length dO, .int .i64 yd, .int .i64 yv] w2 := hw2 ▸ RowAt.new _ _ w1
  have k0 := r1.cell (k := 0) (by simp)
  have k1 := r1.cell (k := 1) (by simp)
  have k2 := r1.cell (k := 2) (by simp)
  have k3 := r1.cell (k := 3) (by simp)
  have k4 := r1.cell (k := 4) (by simp)
  have l0 := r2.cell (k := 0) (by simp)
  have l1 := r2.cell (k := 1) (by simp)
  have l2 := r2.cell (k := 2) (by simp)
  have l3 := r2.cell (k := 3) (by simp)
  have l4 := r2.cell (k := 4) (by simp)
  simp only [List.getElem_cons_succ, List.getElem_cons_zero] at k0 k1 k2 k3 k4 l0 l1 l2 l3 l4
  have HO := Lib.hid (sameInts_any Ao Bo co dO xo yo w2 (h2.below b12) (h4.below b12))
  have HF := Lib.hid (fun n => sameFrames_any A B c d xf yf (w2.drewN n) (h1.below (below_drew b12 n)) (h3.below (below_drew b12 n)))
  have HB := Lib.hid b12
  have HE := Lib.hid (show decide ((⟨xf, xfu, xo, xd, xv⟩ : Stt) = ⟨yf, yfu, yo, yd, yv⟩) = (decide (xfu = yfu) && decide (xd = yd) && decide (xv = yv) && decide (xo = yo) && decide (xf = yf)) by
    rw [Bool.eq_iff_iff]; simp only [decide_eq_true_eq, Bool.and_eq_true, Stt.mk.injEq]
    constructor
    · rintro ⟨a, b, c, d, e⟩; exact ⟨⟨⟨⟨b, d⟩, e⟩, c⟩, a⟩
    · rintro ⟨⟨⟨⟨a, b⟩, c⟩, d⟩, e⟩; exact ⟨e, a, d, b, c⟩)
  rw [HE.out]
  obtain ⟨bo, ebo⟩ : ∃ bo, decide (xo = yo) = bo := ⟨_, rfl⟩
  obtain ⟨bf, ebf⟩ : ∃ bf, decide (xf = yf) = bf := ⟨_, rfl⟩
  rw [ebo] at HO ⊢
  rw [ebf] at HF ⊢
  clear b1 b2 b12 r1 r2 h1 h2 h3 h4 HE ebo ebf
  go_enter Tryz.func9, Tryz.ntmps9
  go_wp2_with (first | (go_at_call 27; refine HO.out.mono ?_; rintro e w' ⟨rfl, n, rfl⟩) | (go_at_call 28; refine (HF.out _).mono ?_; rintro e w' ⟨rfl, m, rfl⟩))
  all_goals go_ret
  all_goals refine ret_tail ?_ HB.out (by first | exact Below.refl _ _ | exact below_drew (Below.refl _ _) _ | (rw [drewN_two]; exact below_drew (Below.refl _ _) _))
  all_goals clear HO HF HB k0 k1 k2 k3 k4 l0 l1 l2 l3 l4
  all_goals first | (simp_all; done) | (cases bo <;> simp_all [beq_dec]; done)
end Go.Proofs.YtdjlaglilokjeaaGreatDoor

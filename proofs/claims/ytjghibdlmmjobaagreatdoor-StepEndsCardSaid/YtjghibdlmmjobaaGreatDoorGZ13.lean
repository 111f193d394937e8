/- 'frame.Start': the state that a program begins with. Conditions: the program, the args lie in memory; errors.errorType is laid. 'SameFrames', 'SameState' of the statements. Conditions: the frames, the states lie in memory as they are said. 'CopyState' of the statements: another state that is the same, of the call's own. Conditions: the state lies in memory; no list is longer than the reach. -/
import Derived.Test.YtjghibdlmmjobaaGreatDoorGZ12
namespace Go.Proofs.YtjghibdlmmjobaaGreatDoor
open Go.RowKit

def argsAt0 (p : List Fn) : Int := match p[0]? with | some g => g.args | none => 0
def startB (p : List Fn) (args : List Int) (fuel : Int) : Bool := decide (verifyOf p = 0) && decide ((args.length : Int) = argsAt0 p) && args.all isNum && decide (0 ≤ fuel) && decide (fuel ≤ 100000)
def zeroS : Stt := ⟨[], 0, [], 0, 0⟩
def startS (p : List Fn) (args : List Int) (fuel : Int) : Stt := if startB p args fuel = true then ⟨[⟨0, 0, beginL args (localsAt p 0).toNat, []⟩], fuel, [], 0, 0⟩ else zeroS
def startC (p : List Fn) (args : List Int) (fuel : Int) : Int := if startB p args fuel = true then 0 else 600
/-- A call that answers a state of its own, and an int. -/
def StateE (s : Stt) (code : Int) (w : World) (e : Ending) (w' : World) : Prop :=
  ∃ fv ov vss, e = .returned (.tuple #[sttV s fv ov, .int .i64 code]) ∧ OwnS w' w.heap.size s fv ov vss ∧ Below w.heap.size w w'
theorem OwnS.zero (w : World) (base : Nat) (f d v : Int) : OwnS w base ⟨[], f, [], d, v⟩ (.slice none 0 0) (.slice none 0 0) [] :=
  ⟨OwnG.nil _ _ _, CRow.nil _ _ _ _, fun _ _ _ _ e => by cases e⟩
theorem crow_of {w : World} {base b t sz n : Nat} {cs : List Value} (h : RowAt t b cs w) (hb : base ≤ b) (hl : cs.length = n * sz) (hm : n ≤ maxLen) : CRow w base t sz (.slice (some ⟨b, 0, none⟩) n n) n cs := .inl (ORow.of_row h hb hl hm)
/-- One frame, newly laid. -/
theorem own_one {w : World} {base g g2 L : Nat} {f : Frm} (h : RowAt 3 g (intsV f.locals) w) (hb : base ≤ g) (hL : f.locals.length = L) (h8 : L ≤ 100) (hs : f.stack = [])
    (h2 : RowAt 54 g2 [.int .i64 f.fn, .int .i64 f.pc, .slice (some ⟨g, 0, none⟩) L L, .slice none 0 0] w) (hb2 : base ≤ g2) (hne : g ≠ g2) :
    OwnFr w base (.slice (some ⟨g2, 0, none⟩) 1 1) [f] [[.slice (some ⟨g, 0, none⟩) L L, .slice none 0 0]] := by
  obtain ⟨fn, pc, ls, ss⟩ := f
  simp only at hs hL h h2
  subst hs hL
  have ob1 : ∀ {x : Nat} {b : Nat}, ob (.slice (some ⟨x, 0, none⟩) ls.length ls.length) = some b → b = x := fun {x b} h => by
    have := ob_own h
    cases this; rfl
  refine ⟨rfl, crow_of (t := KFr.t) (sz := KFr.sz) h2 hb2 rfl (by decide), fun k hk hk' => ?_, ?_, ?_⟩
  · obtain rfl : k = 0 := by simpa using hk
    refine ⟨rfl, fun j hj hj' => ?_⟩
    match j, hj with
    | 0, _ => exact crow_of (sz := 1) h hb (show (intsV ls).length = ls.length * 1 by rw [intsV_len, Nat.mul_one]) (by unfold maxLen; omega)
    | 1, _ => exact CRow.nil _ _ _ _
  · intro k hk j hj b hb
    obtain rfl : k = 0 := by simpa using hk
    have e := ob_own hb
    cases e
    match j, hj with
    | 0, _ => exact fun h => hne (ob1 h).symm
    | 1, _ => exact fun h => by cases h
  · intro k hk j hj k' hk' j' hj' hne b hb
    obtain rfl : k = 0 := by simpa using hk
    obtain rfl : k' = 0 := by simpa using hk'
    match j, hj, j', hj' with
    | 0, _, 0, _ => exact absurd rfl (hne.resolve_left (by simp))
    | 0, _, 1, _ => exact fun h => by cases h
    | 1, _, _, _ => exact absurd hb (fun h => by cases h)
/-- Five cells, written one behind the other. -/
theorem put5 {t b : Nat} {cs : List Value} {w : World} (h : RowAt t b cs w) (hl : cs.length = 5) (v0 v1 v2 v3 v4 : Value) :
    ((w.setCell ⟨b, 0, none⟩ v0).cell? ⟨b, 0, none⟩ = some v0 ∧ ((w.setCell ⟨b, 0, none⟩ v0).setCell ⟨b, 1, none⟩ v1).cell? ⟨b, 1, none⟩ = some v1 ∧ (((w.setCell ⟨b, 0, none⟩ v0).setCell ⟨b, 1, none⟩ v1).setCell ⟨b, 2, none⟩ v2).cell? ⟨b, 2, none⟩ = some v2 ∧
      ((((w.setCell ⟨b, 0, none⟩ v0).setCell ⟨b, 1, none⟩ v1).setCell ⟨b, 2, none⟩ v2).setCell ⟨b, 3, none⟩ v3).cell? ⟨b, 3, none⟩ = some v3 ∧ (((((w.setCell ⟨b, 0, none⟩ v0).setCell ⟨b, 1, none⟩ v1).setCell ⟨b, 2, none⟩ v2).setCell ⟨b, 3, none⟩ v3).setCell ⟨b, 4, none⟩ v4).cell? ⟨b, 4, none⟩ = some v4) ∧
      Keeps b w (((((w.setCell ⟨b, 0, none⟩ v0).setCell ⟨b, 1, none⟩ v1).setCell ⟨b, 2, none⟩ v2).setCell ⟨b, 3, none⟩ v3).setCell ⟨b, 4, none⟩ v4) := by
  match cs, hl with
  | [c0, c1, c2, c3, c4], _ =>
    have s0 := h.put 0 v0
    have s1 := s0.put 1 v1
    have s2 := s1.put 2 v2
    have s3 := s2.put 3 v3
    have s4 := s3.put 4 v4
    exact ⟨⟨s0.cell (k := 0) (by simp), s1.cell (k := 1) (by simp), s2.cell (k := 2) (by simp), s3.cell (k := 3) (by simp), s4.cell (k := 4) (by simp)⟩, ((((Keeps.refl b w).put 0 v0).put 1 v1).put 2 v2).put 3 v3 |>.put 4 v4⟩
theorem startB_no {p : List Fn} {args : List Int} {fuel : Int} (h : startB p args fuel = false) : startS p args fuel = zeroS ∧ startC p args fuel = 600 := by
  unfold startS startC; rw [h]; exact ⟨rfl, rfl⟩
end Go.Proofs.YtjghibdlmmjobaaGreatDoor

namespace Go.Proofs.YtjghibdlmmjobaaGreatDoor
open Go.RowKit

theorem frm_ext {x y : Frm} (h1 : x.fn = y.fn) (h2 : x.pc = y.pc) (h3 : x.locals = y.locals) (h4 : x.stack = y.stack) : x = y := by cases x; cases y; simp only at h1 h2 h3 h4; rw [h1, h2, h3, h4]
theorem quiet_back {w w' : World} {n m : Nat} (h : w' = (w.drewN n).drewN m ∨ w' = w.drewN m) : ∃ k, w' = w.drewN k := by
  rcases h with h | h
  · exact ⟨n + m, by rw [h, drewN_two]⟩
  · exact ⟨m, h⟩
set_option maxRecDepth 100000 in
set_option maxHeartbeats 4000000 in
theorem sameFrames_any (A B : Option Addr) (ca cb : Nat) (xs ys : List Frm) (w : World) (hx : ReadsFr w A xs) (hy : ReadsFr w B ys) :
    Calls Tryz.prog 38 #[.slice A xs.length ca, .slice B ys.length cb] w (RetD (.bool (decide (xs = ys))) w) := by
  have HX := Lib.hid hx
  have HY := Lib.hid hy
  have n1 : xs.length ≤ 9223372036854775807 := hx.1
  have n2 : ys.length ≤ 9223372036854775807 := hy.1
  clear hx hy
  by_cases hl : xs.length = ys.length
  case neg =>
    have dl : (xs.length != ys.length) = true := by simpa using hl
    have dm : ((xs.length : Int) != ys.length) = true := by simp; omega
    have HL := Lib.hid hl
    clear hl
    go_enter Tryz.func38, Tryz.ntmps38
    go_wp2_with fail
    go_ret
    exact ⟨ret_bool (ne_len HL.out).symm, 0, rfl⟩
  have dl : (xs.length != ys.length) = false := by simpa using hl
  have dm : ((xs.length : Int) != ys.length) = false := by simp; omega
  have HL := Lib.hid hl
  clear hl
  go_enter Tryz.func38, Tryz.ntmps38
  go_wp2_with fail
  clear dl dm
  go_loopw [5] (fun i wr => ∃ k : Nat, k ≤ xs.length ∧ i = .int .i64 k ∧ (∀ j (hx : j < xs.length) (hy : j < ys.length), j < k → xs[j] = ys[j]) ∧ ∃ n, wr = w.drewN n) (fun i _ => xs.length - (intOf i).toNat)
  case atStart => exact ⟨0, Nat.zero_le _, rfl, fun _ _ _ h => absurd h (Nat.not_lt_zero _), 0, rfl⟩
  case round =>
    obtain ⟨k, hk, rfl, hv, n, rfl⟩ := hrel
    have HV := Lib.hid hv
    clear hv
    by_cases hlt : k < xs.length
    case neg =>
      go_wp2_with fail
      go_ret
      exact ⟨ret_bool (eq_all HL.out fun j hx hy => HV.out j hx hy (by omega)).symm, _, rfl⟩
    have hly : k < ys.length := by have := HL.out; omega
    obtain ⟨a1, e1, c0, c1, ⟨L1, cl1, c2, r1⟩, S1, cs1, c3, r2⟩ := HX.out.at_ (Below.refl _ _) hlt
    obtain ⟨a2, e2, d0, d1, ⟨L2, cl2, d2, r3⟩, S2, cs2, d3, r4⟩ := HY.out.at_ (Below.refl _ _) hly
    subst e1 e2
    have HLS := Lib.hid (fun m => sameInts_any L1 L2 cl1 cl2 xs[k].locals ys[k].locals (w.drewN m) (r1.below (below_drew (Below.refl _ _) _)) (r3.below (below_drew (Below.refl _ _) _)))
    have HSS := Lib.hid (fun m => sameInts_any S1 S2 cs1 cs2 xs[k].stack ys[k].stack (w.drewN m) (r2.below (below_drew (Below.refl _ _) _)) (r4.below (below_drew (Below.refl _ _) _)))
    clear r1 r2 r3 r4
    by_cases h1 : xs[k].fn = ys[k].fn
    case neg =>
      have t1 : (xs[k].fn != ys[k].fn) = true := by simpa using h1
      have HE := Lib.hid (ne_at hlt hly (fun e => h1 (by rw [e])))
      clear h1
      go_wp2_with fail
      go_quiet (fail)
      go_wp2_with fail
      go_ret
      exact ⟨ret_bool HE.out.symm, by first | exact ⟨_, rfl⟩ | exact ⟨_, drewN_two _ _ _⟩⟩
    have t1 : (xs[k].fn != ys[k].fn) = false := by simpa using h1
    by_cases h2 : xs[k].pc = ys[k].pc
    case neg =>
      have t2 : (xs[k].pc != ys[k].pc) = true := by simpa using h2
      have HE := Lib.hid (ne_at hlt hly (fun e => h2 (by rw [e])))
      clear h1 h2
      go_wp2_with fail
      go_quiet (fail)
      go_wp2_with fail
      go_ret
      exact ⟨ret_bool HE.out.symm, by first | exact ⟨_, rfl⟩ | exact ⟨_, drewN_two _ _ _⟩⟩
    have t2 : (xs[k].pc != ys[k].pc) = false := by simpa using h2
    have H1 := Lib.hid h1
    have H2 := Lib.hid h2
    clear h1 h2
    by_cases h3 : xs[k].locals = ys[k].locals
    case neg =>
      have HE := Lib.hid (ne_at hlt hly (fun e => h3 (by rw [e])))
      rw [decide_eq_false h3] at HLS
      clear h3
      go_wp2_with fail
      go_quiet ((go_at_call 32; with_reducible (first | exact RetD.quiet0 (HLS.out _) | exact RetD.quiet (HLS.out _))))
      go_wp2_with fail
      go_ret
      exact ⟨ret_bool HE.out.symm, by first | exact ⟨_, rfl⟩ | exact ⟨_, drewN_two _ _ _⟩⟩
    rw [decide_eq_true h3] at HLS
    have H3 := Lib.hid h3
    clear h3
    by_cases h4 : xs[k].stack = ys[k].stack
    case neg =>
      have HE := Lib.hid (ne_at hlt hly (fun e => h4 (by rw [e])))
      rw [decide_eq_false h4] at HSS
      clear h4
      go_wp2_with fail
      go_quiet ((go_at_call 32; with_reducible (first | exact RetD.quiet0 (HLS.out _) | exact RetD.quiet (HLS.out _) | exact RetD.quiet0 (HSS.out _) | exact RetD.quiet (HSS.out _))))
      go_wp2_with fail
      go_ret
      exact ⟨ret_bool HE.out.symm, by first | exact ⟨_, rfl⟩ | exact ⟨_, drewN_two _ _ _⟩⟩
    rw [decide_eq_true h4] at HSS
    have H4 := Lib.hid h4
    clear h4
    go_wp2_with fail
    go_quiet ((go_at_call 32; with_reducible (first | exact RetD.quiet0 (HLS.out _) | exact RetD.quiet (HLS.out _) | exact RetD.quiet0 (HSS.out _) | exact RetD.quiet (HSS.out _))))
    go_wp2_with fail
    go_roundw
    case rel => exact ⟨k + 1, by omega, by go_num, fun j hx hy h => by
      rcases Nat.lt_or_ge j k with h2 | h2
      · exact HV.out j hx hy h2
      · obtain rfl : j = k := by omega
        exact frm_ext H1.out H2.out H3.out H4.out, by first | exact ⟨_, rfl⟩ | exact ⟨_, drewN_two _ _ _⟩⟩
    case measure => simp only [intOf]; omega
/-- A state, as it is read. -/
structure ReadsS (w : World) (s : Stt) (A Ao : Option Addr) : Prop where
  fr : ReadsFr w A s.frames
  out : ReadsI w Ao s.out
theorem ReadsS.below {w w1 : World} {s : Stt} {A Ao : Option Addr} (h : ReadsS w s A Ao) (hb : Below w.heap.size w w1) : ReadsS w1 s A Ao := ⟨h.fr.below hb, h.out.below hb⟩
theorem OwnS.reads {w : World} {base : Nat} {s : Stt} {fv ov : Value} {vss : List (List Value)} (h : OwnS w base s fv ov vss) : ∃ A c Ao co, fv = .slice A s.frames.length c ∧ ov = .slice Ao s.out.length co ∧ s.frames.length ≤ c ∧ ReadsS w s A Ao := by
  obtain ⟨A, c, rfl, h1, _⟩ := h.fr.row.shape
  obtain ⟨Ao, co, rfl, _, _⟩ := h.out.shape
  exact ⟨A, c, Ao, co, rfl, rfl, h1, h.fr.reads.2, h.out.ints⟩
set_option maxRecDepth 100000 in
set_option maxHeartbeats 4000000 in
theorem sameState_any (x y : Stt) (A Ao B Bo : Option Addr) (c co d dO : Nat) (w : World) (hx : ReadsS w x A Ao) (hy : ReadsS w y B Bo) :
    Calls Tryz.prog 33 #[sttV x (.slice A x.frames.length c) (.slice Ao x.out.length co), sttV y (.slice B y.frames.length d) (.slice Bo y.out.length dO)] w (Ret (.bool (decide (x = y))) w) := by
  obtain ⟨xf, xfu, xo, xd, xv⟩ := x
  obtain ⟨yf, yfu, yo, yd, yv⟩ := y
  obtain ⟨h1, h2⟩ := hx
  obtain ⟨h3, h4⟩ := hy
  unfold sttV
  simp only at h1 h2 h3 h4 ⊢
  obtain ⟨w1, hw1⟩ : ∃ w1, w.alloc (.cells #[.slice A xf.length c, .int .i64 xfu, .slice Ao xo.length co, .int .i64 xd, .int .i64 xv] 57) = w1 := ⟨_, rfl⟩
  obtain ⟨w2, hw2⟩ : ∃ w2, w1.alloc (.cells #[.slice B yf.length d, .int .i64 yfu, .slice Bo yo.length dO, .int .i64 yd, .int .i64 yv] 57) = w2 := ⟨_, rfl⟩
  have b1 : Below w.heap.size w w1 := hw1 ▸ below_alloc (Below.refl _ _) _
  have b2 : Below w1.heap.size w1 w2 := hw2 ▸ below_alloc (Below.refl _ _) _
  have b12 := below_trans b1 b2
  have r1 : RowAt 57 w.heap.size [.slice A xf.length c, .int .i64 xfu, .slice Ao xo.length co, .int .i64 xd, .int .i64 xv] w2 := (hw1 ▸ RowAt.new _ _ w : RowAt 57 w.heap.size _ w1).below b2
  have r2 : RowAt 57 w1.heap.size [.slice B yf.length d, .int .i64 yfu, .slice Bo yo.length dO, .int .i64 yd, .int .i64 yv] w2 := hw2 ▸ RowAt.new _ _ w1
  have k0 := r1.cell (k := 0) (by simp)
  have k1 := r1.cell (k := 1) (by simp)
  have k2 := r1.cell (k := 2) (by simp)
  have k3 := r1.cell (k := 3) (by simp)
  have k4 := r1.cell (k := 4) (by simp)
  have l0 := r2.cell (k := 0) (by simp)
  have l1 := r2.cell (k := 1) (by simp)
  have l2 := r2.cell (k := 2) (by simp)
  have l3 := r2.cell (k := 3) (by simp)
  have l4 := r2.cell (k := 4) (by simp)
  simp only [List.getElem_cons_succ, List.getElem_cons_zero] at k0 k1 k2 k3 k4 l0 l1 l2 l3 l4
  have HO := Lib.hid (sameInts_any Ao Bo co dO xo yo w2 (h2.below b12) (h4.below b12))
  have HF := Lib.hid (fun n => sameFrames_any A B c d xf yf (w2.drewN n) (h1.below (below_drew b12 n)) (h3.below (below_drew b12 n)))
  have HB := Lib.hid b12
  have HE := Lib.hid (show decide ((⟨xf, xfu, xo, xd, xv⟩ : Stt) = ⟨yf, yfu, yo, yd, yv⟩) = (decide (xfu = yfu) && decide (xd = yd) && decide (xv = yv) && decide (xo = yo) && decide (xf = yf)) by
    rw [Bool.eq_iff_iff]; simp only [decide_eq_true_eq, Bool.and_eq_true, Stt.mk.injEq]
    constructor
    · rintro ⟨a, b, c, d, e⟩; exact ⟨⟨⟨⟨b, d⟩, e⟩, c⟩, a⟩
    · rintro ⟨⟨⟨⟨a, b⟩, c⟩, d⟩, e⟩; exact ⟨e, a, d, b, c⟩)
  rw [HE.out]
  obtain ⟨bo, ebo⟩ : ∃ bo, decide (xo = yo) = bo := ⟨_, rfl⟩
  obtain ⟨bf, ebf⟩ : ∃ bf, decide (xf = yf) = bf := ⟨_, rfl⟩
  rw [ebo] at HO ⊢
  rw [ebf] at HF ⊢
  clear b1 b2 b12 r1 r2 h1 h2 h3 h4 HE ebo ebf
  go_enter Tryz.func33, Tryz.ntmps33
  go_wp2_with (first | (go_at_call 32; refine HO.out.mono ?_; rintro e w' ⟨rfl, n, rfl⟩) | (go_at_call 38; refine (HF.out _).mono ?_; rintro e w' ⟨rfl, m, rfl⟩))
  all_goals go_ret
  all_goals refine ret_tail ?_ HB.out (by first | exact Below.refl _ _ | exact below_drew (Below.refl _ _) _ | (rw [drewN_two]; exact below_drew (Below.refl _ _) _))
  all_goals clear HO HF HB k0 k1 k2 k3 k4 l0 l1 l2 l3 l4
  all_goals first | (simp_all; done) | (cases bo <;> simp_all [beq_dec]; done)
end Go.Proofs.YtjghibdlmmjobaaGreatDoor

namespace Go.Proofs.YtjghibdlmmjobaaGreatDoor
open Go.RowKit

theorem append_copy {W : World} {A : Option Addr} {c : Nat} {xs : List Int} (hr : ReadsI W A xs) (hz : xs.length * 8 ≤ 140737488351232) :
    ∃ ao cap W', (Builtin.append_ #[28, 28] 28 #[.slice (some ⟨W.heap.size, 0, none⟩) 0 0, .slice A xs.length c]).run Tryz.prog (W.alloc (.cells #[] 3)) = .ok (.slice ao xs.length cap) W' ∧ CRow W' W.heap.size 3 1 (.slice ao xs.length cap) xs.length (intsV xs) ∧ Below W.heap.size W W' := by
  obtain ⟨i, hi, hz0, hs, hb⟩ := info_parts info_int
  have b1 : Below W.heap.size W (W.alloc (.cells #[] 3)) := below_alloc (Below.refl _ _) _
  obtain ⟨v', W', hrun, hG⟩ := run_append_crow (P := Tryz.prog) (W.alloc (.cells #[] 3)) 28 3 28 28 i (.int .i64 0) 1 8 Tryz.underlying28 hi hz0 hs hb rfl W.heap.size (some ⟨W.heap.size, 0, none⟩) 0 0 [] (.inr ⟨rfl, rfl, _, rfl⟩) (by simp)
    (.slice A xs.length c) xs.length (intsV xs) (ints_src Tryz.underlying28 (hr.below b1) (reads_none hr)) (by omega) (by unfold maxLen; omega)
  have hrow := hG.row
  rw [Nat.zero_add, List.nil_append] at hrow
  obtain ⟨ao, cap, rfl, _, _⟩ := hrow.shape
  exact ⟨ao, cap, W', hrun, hrow, (Chg.below b1 hG.chg (fun b hb => by cases hb))⟩
/-- 'append' by its run. -/
theorem wpList_append_run {P : Program} {ops : Array Oper} {rest : List Oper} {o : Oper} {a : Act} {Q : Exit → Act → World → Prop} (w : World) (hg : o.guard = none) (s x : Operand) (ts tx : TypeId)
    (hop : o.op = Op.call { callee := Callee.builtin Builtin.append, args := #[s, x], argTypes := #[ts, tx] }) (sv xv v' : Value) (w' : World) (hs : a.eval s = sv) (hx : a.eval x = xv)
    (hrun : (Builtin.append_ #[ts, tx] o.type #[sv, xv]).run P w = .ok v' w') (h : wpList P ops Q rest (a.put o.dst v') w') : wpList P ops Q (o :: rest) a w := by
  refine wpList_plain hg fun K hK' => ?_
  unfold Oper.wp
  simp [execOp, hop, resolve, invoke, builtin, hs, hx, hrun, Result.andThen]
  exact hK' _ _ h
theorem Chg.of_keeps {g : Nat} {w w1 : World} (h : Keeps g w w1) : Chg (fun b => b = g) w w1 := Chg.of_grown h (fun _ e => by cases e; rfl)
def FitS (s : Stt) : Prop := s.frames.length * 64 ≤ 140737488351232 ∧ s.out.length * 8 ≤ 140737488351232 ∧ ∀ f ∈ s.frames, f.locals.length * 8 ≤ 140737488351232 ∧ f.stack.length * 8 ≤ 140737488351232
theorem info_frame : (Tryz.prog.info? 54).map (fun i => (i.zero, i.size, i.bytes)) = some (some (.agg #[.int .i64 0, .int .i64 0, .slice none 0 0, .slice none 0 0]), 4, 64) := by kernel_rfl
/-- A call that answers a state of its own. -/
def CopyE (s : Stt) (w : World) (e : Ending) (w' : World) : Prop := ∃ fv ov vss, e = .returned (sttV s fv ov) ∧ OwnS w' w.heap.size s fv ov vss ∧ Below w.heap.size w w'
end Go.Proofs.YtjghibdlmmjobaaGreatDoor

/- The document's 'once': a step of a state of the call's own. Conditions: the state may be; the program lies in older memory. -/
import Derived.Test.YtpfgklkdldkajaaGreatDoorROnceK
import Derived.Deep.RegionLaw
import Derived.StillTailTactics
namespace Go.Proofs.YtpfgklkdldkajaaGreatDoor
open Go.RowKit

/-- Seven cells, written one behind the other: the row. -/
theorem put7r {t b : Nat} {cs : List Value} {w : World} (h : RowAt t b cs w) (hl : cs.length = 7) (c0 c1 c2 c3 c4 c5 c6 : Value) : True ∧ RowAt t b [c0, c1, c2, c3, c4, c5, c6] (((((((w.setCell ⟨b, 0, none⟩ c0).setCell ⟨b, 1, none⟩ c1).setCell ⟨b, 2, none⟩ c2).setCell ⟨b, 3, none⟩ c3).setCell ⟨b, 4, none⟩ c4).setCell ⟨b, 5, none⟩ c5).setCell ⟨b, 6, none⟩ c6) ∧
    Chg (fun x => x = b) w (((((((w.setCell ⟨b, 0, none⟩ c0).setCell ⟨b, 1, none⟩ c1).setCell ⟨b, 2, none⟩ c2).setCell ⟨b, 3, none⟩ c3).setCell ⟨b, 4, none⟩ c4).setCell ⟨b, 5, none⟩ c5).setCell ⟨b, 6, none⟩ c6) := by
  have hk := (put7 h hl c0 c1 c2 c3 c4 c5 c6).2
  match cs, hl with
  | [d0, d1, d2, d3, d4, d5, d6], _ => exact ⟨trivial, ((((((h.put 0 c0).put 1 c1).put 2 c2).put 3 c3).put 4 c4).put 5 c5).put 6 c6, hk⟩
/-- The state behind a step whose instruction came to r, its frame F. -/
def onceR (p : List Fn) (s : Stt) (L : Nat) (F : Frm) : Res → Stt
  | .next => ⟨s.frames.set L F, s.fuel - 1, s.out, s.done, s.value⟩
  | .print v => ⟨s.frames.set L F, s.fuel - 1, s.out ++ [v], s.done, s.value⟩
  | .call fn args => ⟨s.frames.set L F ++ [beginF p fn args], s.fuel - 1, s.out, s.done, s.value⟩
  | .ret v => if L = 0 then ⟨[], s.fuel - 1, s.out, 1, v⟩ else ⟨((s.frames.set L F).take L).set (L - 1) ⟨(s.frames.getD (L - 1) default).fn, (s.frames.getD (L - 1) default).pc, (s.frames.getD (L - 1) default).locals, (s.frames.getD (L - 1) default).stack ++ [v]⟩, s.fuel - 1, s.out, s.done, s.value⟩
  | .over d => ⟨[], s.fuel - 1, s.out, d, 0⟩
set_option maxRecDepth 100000 in
set_option maxHeartbeats 8000000 in
theorem ronce_run {w W0 : World} {base cp g o L cap co : Nat} {p : List Fn} {Ap Ao : Option Addr} {s : Stt} {vss : List (List Value)} (hO : OwnS w base s (.slice (some ⟨g, o, none⟩) (L + 1) cap) (.slice Ao s.out.length co) vss) (hb : base ≤ w.heap.size) (hbs : W0.heap.size ≤ base) (hW : Below W0.heap.size W0 w) (hr : ReadsF W0 Ap p)
    (hv : verifyOf p = 0) (hl : s.frames.length = L + 1) {f F : Frm} {r : Res} (hf : s.frames[L]? = some f) (hfb : frameB p f 0 = true) (hd : s.done = 0) (h0 : 0 < s.fuel) (h1 : s.fuel ≤ 100000) (hL : L < 12) (hol : s.out.length ≤ 1000000) (hval : s.value = 0)
    (hone : oneI p f (insAt p f) (L + 1) = (F, r)) (hcall : ∀ fn args, r = .call fn args → ∃ m Lc : Nat, fn = m ∧ ∃ h : m < p.length, p[m].locals = Lc ∧ Lc ≤ 100 ∧ args.length ≤ Lc) (hover : ∀ d, r = .over d → d ≠ 0) (hst : 0 < L → (s.frames.getD (L - 1) default).stack.length ≤ 1000) :
    Calls Tryz.prog 64 #[.agg #[.slice Ap p.length cp], .agg #[.slice (some ⟨g, o, none⟩) (L + 1) cap, .int .i64 s.fuel, .slice Ao s.out.length co, .int .i64 s.done, .int .i64 s.value]] w (OnceE (onceR p s L F r) base (.slice (some ⟨g, o, none⟩) (L + 1) cap) (.slice Ao s.out.length co) vss w) := by
  obtain ⟨w1, hw1⟩ : ∃ w1, w.alloc (.cells #[.slice Ap p.length cp] 24) = w1 := ⟨_, rfl⟩
  obtain ⟨w2, hw2⟩ : ∃ w2, w1.alloc (.cells #[.slice (some ⟨g, o, none⟩) (L + 1) cap, .int .i64 s.fuel, .slice Ao s.out.length co, .int .i64 s.done, .int .i64 s.value] 47) = w2 := ⟨_, rfl⟩
  have b1 : Below w.heap.size w w1 := hw1 ▸ below_alloc (Below.refl _ _) _
  have b2 : Below w1.heap.size w1 w2 := hw2 ▸ below_alloc (Below.refl _ _) _
  have b3 : Below w2.heap.size w2 (w2.alloc (.cells #[.slice none 0 0, .int .i64 0, .slice none 0 0, .int .i64 0, .int .i64 0] 47)) := below_alloc (Below.refl _ _) _
  have y1 : w1.heap.size = w.heap.size + 1 := by rw [← hw1]; simp
  have y2 : w2.heap.size = w.heap.size + 2 := by rw [← hw2]; simp [y1]
  have y3 : (w2.alloc (.cells #[.slice none 0 0, .int .i64 0, .slice none 0 0, .int .i64 0, .int .i64 0] 47)).heap.size = w.heap.size + 3 := by simp [y2]
  have r1 : RowAt 24 w.heap.size [.slice Ap p.length cp] (w2.alloc (.cells #[.slice none 0 0, .int .i64 0, .slice none 0 0, .int .i64 0, .int .i64 0] 47)) := ((hw1 ▸ RowAt.new _ _ w : RowAt 24 w.heap.size _ w1).below b2).below b3
  have r3 : RowAt 47 w2.heap.size [.slice none 0 0, .int .i64 0, .slice none 0 0, .int .i64 0, .int .i64 0] (w2.alloc (.cells #[.slice none 0 0, .int .i64 0, .slice none 0 0, .int .i64 0, .int .i64 0] 47)) := RowAt.new _ _ w2
  have hl' := hl
  have hS2 : StAt w2 base w1.heap.size s (.slice (some ⟨g, o, none⟩) (L + 1) cap) (.slice Ao s.out.length co) vss := StAt.alloc (hO.chg (S := fun _ => False) (Chg.of_below b1) (fun _ h => h.elim)) hw2
  have S3 := hS2.below b3
  have hold : ∀ b, FrB (.slice (some ⟨g, o, none⟩) (L + 1) cap) vss b ∨ ob (.slice Ao s.out.length co) = some b → b < w.heap.size := fun b hb => by
    rcases hb with ⟨x, hx, e⟩ | e
    · exact (OwnG.lo hO.fr x hx b e).2
    · exact (hO.out.in_ b e).2
  have HOLD := Lib.hid hold
  have B03 := Lib.hid (below_trans (below_trans b1 b2) b3)
  have R1 := Lib.hid r1
  have R3 := Lib.hid r3
  have SS := Lib.hid S3
  have Y := Lib.hid (And.intro y1 (And.intro y2 y3))
  have HW := Lib.hid (And.intro hW hr)
  have HBB := Lib.hid (And.intro hb hbs)
  have HV := Lib.hid hv
  have HFB := Lib.hid (And.intro hf hfb)
  have HL := Lib.hid hl
  have HLL := Lib.hid hL
  have HOL := Lib.hid hol
  have HVAL := Lib.hid hval
  have HONE := Lib.hid hone
  have HOVER := Lib.hid hover
  have HLEN := Lib.hid hl
  obtain ⟨dcall, dfn, dargs, dret, dval, dprint, ddone, hdid⟩ : ∃ a b c d e f g, didOf r = ⟨a, b, c, d, e, f, g⟩ := ⟨_, _, _, _, _, _, _, rfl⟩
  have HDID := Lib.hid hdid
  have HCALL := Lib.hid hcall
  have HST := Lib.hid hst
  have HFU := Lib.hid (And.intro h0 h1)
  have HDN := Lib.hid hd
  obtain ⟨c0, c1, c2, c3, c4, fz⟩ := S3.cells
  have z1 := fz 1
  rw [hd] at c3
  have d1 : (s.fuel == 0) = false := beq_eq_false_iff_ne.2 (by omega)
  have hw64 : wrap64 (s.fuel - 1) = s.fuel - 1 := by unfold wrap64; omega
  have hw1' : IntKind.i64.wrap ((L + 1 : Nat) - 1 : Int) = L := by rw [IntKind.wrap_i64]; omega
  have hw3' : wrap64 (L : Int) = L := by unfold wrap64; omega
  clear hO hb hbs hW hr hv hf hfb hd h0 h1 hol hval hone hover hdid hcall hst hl' b1 b2 b3 y1 y2 y3 r1 r3 hS2 S3 hold fz hl
  go_enter Tryz.func64, Tryz.ntmps64
  go_upto_region 1 with fail
  generalize hw3 : (w2.alloc (.cells #[.slice none 0 0, .int .i64 0, .slice none 0 0, .int .i64 0, .int .i64 0] 47)) = w3 at *
  clear hw1 hw2 hw3
  go_upto_region 7 with fail
  rw [hw64]
  obtain ⟨w5, hw5⟩ : ∃ w5, w3.setCell ⟨w1.heap.size, 1, none⟩ (.int .i64 (s.fuel - 1)) = w5 := ⟨_, rfl⟩
  rw [hw5]
  have S5 := Lib.hid (show StAt w5 base w1.heap.size ⟨s.frames, s.fuel - 1, s.out, s.done, s.value⟩ (.slice (some ⟨g, o, none⟩) (L + 1) cap) (.slice Ao s.out.length co) vss from hw5 ▸ SS.out.put 1 (.int .i64 (s.fuel - 1)) ⟨s.frames, s.fuel - 1, s.out, s.done, s.value⟩ rfl rfl rfl)
  have kc5 : Chg (fun b => b = w1.heap.size) w3 w5 := hw5 ▸ Chg.put (S := fun b => b = w1.heap.size) (Chg.refl _ w3) (a := ⟨w1.heap.size, 1, none⟩) rfl _
  have R15 := Lib.hid (R1.out.chg kc5 (show ¬ w.heap.size = w1.heap.size by have := Y.out; omega))
  have R35 := Lib.hid (R3.out.chg kc5 (show ¬ w2.heap.size = w1.heap.size by have := Y.out; omega))
  have C5 := Lib.hid (show Chg (StB w1.heap.size (.slice (some ⟨g, o, none⟩) (L + 1) cap) (.slice Ao s.out.length co) vss) w3 w5 from kc5.mono (fun _ e => .inl e))
  have B5 := Lib.hid (Chg.below (below_trans HW.out.1 B03.out) kc5 (fun b e => by have := Y.out; have := HBB.out; have := HW.out.1.size; omega))
  have Z35 := Lib.hid (show w5.heap.size = w3.heap.size by rw [← hw5]; simp)
  obtain ⟨v1, v2, hk', ev, hF⟩ := OwnFr.fat S5.out.own.fr (k := L) (by simp only; have := HLEN.out; omega)
  have hfL : ∀ h : L < s.frames.length, s.frames[L] = f := fun h => by have := HFB.out.1; rw [List.getElem?_eq_getElem h] at this; exact Option.some.inj this
  simp only [hfL] at hF
  have HFA := Lib.hid hF
  have hob : ob (.slice (some ⟨g, o, none⟩) (L + 1) cap) = some g := by
    obtain ⟨_, _, eg, _, _, hob, _⟩ := OwnFr.at_ S5.out.own.fr (k := L) (by simp only; have := HLEN.out; omega)
    cases eg; exact hob
  have l1 : 0 < vss[L].length := by rw [ev]; simp
  have l2 : 1 < vss[L].length := by rw [ev]; simp
  have AP := Lib.hid (show ∀ x, w.heap.size ≤ x → x ≠ g ∧ ob v1 ≠ some x ∧ ob v2 ≠ some x from fun x hx =>
    ⟨fun e => by have := HOLD.out g (.inl (FrB.outer hob)); omega, fun e => by have := HOLD.out x (.inl (FrB.inner hk' l1 (by simp only [ev, List.getElem_cons_zero]; exact e))); omega, fun e => by have := HOLD.out x (.inl (FrB.inner hk' l2 (by simp only [ev, List.getElem_cons_zero, List.getElem_cons_succ]; exact e))); omega⟩)
  have HEV := Lib.hid ev
  have HK := Lib.hid hk'
  have H := Lib.hid (show ∀ W, Below w5.heap.size w5 W → Calls Tryz.prog 97 #[.agg #[.slice Ap p.length cp], .pointer (some ⟨g, o + L * 4, none⟩), .int .i64 ((L : Int) + 1)] W (RInsE F ⟨dcall, dfn, dargs, dret, dval, dprint, ddone⟩ base g (o + L * 4) v1 v2 W) from fun W hB => by
    have := rins_any (cp := cp) (HFA.out.below hB) (show base ≤ W.heap.size by have := HBB.out; have := B03.out.size; have := Z35.out; have := hB.size; omega) HBB.out.2 (below_trans B5.out hB) HW.out.2 HV.out HFB.out.2 (L + 1)
    rw [HONE.out, HDID.out] at this
    exact this)
  have hi1 : (L : Int) < (L : Int) + 1 := by omega
  have hi2 : (0 : Int) ≤ L := by omega
  have hlm : L + 1 ≤ 9223372036854775807 := by have := HLL.out; omega
  have hw4' : wrap64 ((L : Int) + 1) = L + 1 := by have := HLL.out; unfold wrap64; omega
  have hw6' : IntKind.i64.wrap ((L : Int) + 1) = L + 1 := by rw [IntKind.wrap_i64]; have := HLL.out; omega
  have hw5' : IntKind.i64.wrap (L : Int) = L := by rw [IntKind.wrap_i64]; have := HLL.out; omega
  clear hw5 kc5 hF ev hob l1 l2 c0 c1 c2 c3 c4 z1 d1 hL hfL hw64
  refine wp_region_via (fun a' W => ∃ u : Value, ∃ vA : Option Addr, ∃ vn : Nat, ∃ vc : Nat, ∃ xb : Nat, a' = ⟨#[.agg #[.slice Ap p.length cp], .agg #[.slice (some ⟨g, o, none⟩) (L + 1) cap, .int .i64 s.fuel, .slice Ao s.out.length co, .int .i64 s.done, .int .i64 s.value], .pointer (some ⟨w.heap.size, 0, none⟩), .pointer (some ⟨w1.heap.size, 0, none⟩), .pointer (some ⟨w2.heap.size, 0, none⟩), .int .i64 L, .pointer (some ⟨xb, 0, none⟩), .pointer (some ⟨w1.heap.size, 3, none⟩), .int .i64 0, .bool false, undef, .pointer (some ⟨w1.heap.size, 1, none⟩), .int .i64 s.fuel, .bool false, undef, undef, .pointer (some ⟨w1.heap.size, 1, none⟩), .int .i64 s.fuel, .int .i64 (s.fuel - 1), .pointer (some ⟨w1.heap.size, 1, none⟩), .pointer (some ⟨w1.heap.size, 0, none⟩), .slice (some ⟨g, o, none⟩) (L + 1) cap, .int .i64 ((L : Int) + 1), .int .i64 L, .agg #[.slice Ap p.length cp], .pointer (some ⟨w1.heap.size, 0, none⟩), .slice (some ⟨g, o, none⟩) (L + 1) cap, .int .i64 L, .pointer (some ⟨g, o + L * 4, none⟩), .int .i64 L, .int .i64 ((L : Int) + 1), .agg #[.bool dcall, .int .i64 dfn, .slice vA vn vc, .bool dret, .int .i64 dval, .bool dprint, .int .i64 ddone], undef, undef, undef, undef, undef, undef, undef, undef, undef, undef, undef, undef, undef, undef, undef, undef, undef, undef, undef, undef, undef, undef, undef, undef, undef, undef, undef, undef, undef, undef, undef, undef, undef, undef, undef, undef, undef, undef, undef, undef, undef, undef, undef, undef, undef, undef, undef, undef, undef, undef, undef, undef, undef, undef, undef], []⟩ ∧ RunPd w5 base g (o + L * 4) F v1 v2 dargs [.bool dcall, .int .i64 dfn, .slice vA vn vc, .bool dret, .int .i64 dval, .bool dprint, .int .i64 ddone] true true u (.slice vA vn vc) xb W) (fun Q' hQ' => ?_) ?_
  refine wp_region_inv_n 10 (by kernel_rfl) (by kernel_rfl) (fun lst a' W => ∃ x0 x1 x2 x3 x4 x5 x6 x7 x8 : Value, ∃ u : Value, ∃ vA : Option Addr, ∃ vn : Nat, ∃ vc : Nat, ∃ xb : Nat, lst.size = 10 ∧ a' = ⟨#[.agg #[.slice Ap p.length cp], .agg #[.slice (some ⟨g, o, none⟩) (L + 1) cap, .int .i64 s.fuel, .slice Ao s.out.length co, .int .i64 s.done, .int .i64 s.value], .pointer (some ⟨w.heap.size, 0, none⟩), .pointer (some ⟨w1.heap.size, 0, none⟩), .pointer (some ⟨w2.heap.size, 0, none⟩), .int .i64 L, x8, .pointer (some ⟨w1.heap.size, 3, none⟩), .int .i64 0, .bool false, undef, .pointer (some ⟨w1.heap.size, 1, none⟩), .int .i64 s.fuel, .bool false, undef, undef, .pointer (some ⟨w1.heap.size, 1, none⟩), .int .i64 s.fuel, .int .i64 (s.fuel - 1), .pointer (some ⟨w1.heap.size, 1, none⟩), .pointer (some ⟨w1.heap.size, 0, none⟩), .slice (some ⟨g, o, none⟩) (L + 1) cap, .int .i64 ((L : Int) + 1), .int .i64 L, x0, x1, x2, x3, x4, x5, x6, x7, undef, undef, undef, undef, undef, undef, undef, undef, undef, undef, undef, undef, undef, undef, undef, undef, undef, undef, undef, undef, undef, undef, undef, undef, undef, undef, undef, undef, undef, undef, undef, undef, undef, undef, undef, undef, undef, undef, undef, undef, undef, undef, undef, undef, undef, undef, undef, undef, undef, undef, undef, undef, undef, undef, undef], []⟩ ∧ (lst.getD 0 false = true → x0 = .agg #[.slice Ap p.length cp]) ∧ (lst.getD 1 false = true → x1 = .pointer (some ⟨w1.heap.size, 0, none⟩)) ∧ (lst.getD 2 false = true → x2 = .slice (some ⟨g, o, none⟩) (L + 1) cap) ∧ (lst.getD 3 false = true → x3 = .int .i64 L) ∧ (lst.getD 4 false = true → x4 = .pointer (some ⟨g, o + L * 4, none⟩)) ∧ (lst.getD 5 false = true → x5 = .int .i64 L) ∧ (lst.getD 6 false = true → x6 = .int .i64 ((L : Int) + 1)) ∧ (lst.getD 7 false = true → x7 = .agg #[.bool dcall, .int .i64 dfn, .slice vA vn vc, .bool dret, .int .i64 dval, .bool dprint, .int .i64 ddone]) ∧ (lst.getD 8 false = true → x8 = .pointer (some ⟨xb, 0, none⟩)) ∧ (lst.getD 9 false = true → lst.getD 7 false = true ∧ lst.getD 8 false = true) ∧ RunPd w5 base g (o + L * 4) F v1 v2 dargs (bif lst.getD 9 false then [.bool dcall, .int .i64 dfn, .slice vA vn vc, .bool dret, .int .i64 dval, .bool dprint, .int .i64 ddone] else [.bool false, .int .i64 0, .slice none 0 0, .bool false, .int .i64 0, .bool false, .int .i64 0]) (lst.getD 7 false) (lst.getD 8 false) u (.slice vA vn vc) xb W) ?_ ?_ ?_
  · exact ⟨undef, undef, undef, undef, undef, undef, undef, undef, undef, undef, none, 0, 0, 0, rfl, rfl, (fun e => by cases e), (fun e => by cases e), (fun e => by cases e), (fun e => by cases e), (fun e => by cases e), (fun e => by cases e), (fun e => by cases e), (fun e => by cases e), (fun e => by cases e), (fun e => by cases e), RunPd.start (below_drw (Below.refl _ _))⟩
  rotate_left
  · rintro lst a' W i ⟨x0, x1, x2, x3, x4, x5, x6, x7, x8, u, vA, vn, vc, xb, hsz, rfl, g0, g1, g2, g3, g4, g5, g6, g7, g8, ph⟩ hr
    match i, hr with
    | 0, hr =>
      have hn : lst.getD 0 false = false := ready_no hr
      have rS := RunPd.row ph.2 R15.out (AP.out _ (show w.heap.size ≤ w.heap.size by have := Y.out; omega)).1 (AP.out _ (show w.heap.size ≤ w.heap.size by have := Y.out; omega)).2.1 (AP.out _ (show w.heap.size ≤ w.heap.size by have := Y.out; omega)).2.2
      have q0 : W.cell? ⟨w.heap.size, 0, none⟩ = some (.slice Ap p.length cp) := rS.cell (k := 0) (by simp)
      clear rS
      clear hr
      refine wpOp_step rfl (fun K hK => ?_)
      go_simp
      refine hK _ _ ?_
      refine ⟨_, x1, x2, x3, x4, x5, x6, x7, x8, u, vA, vn, vc, xb, (by simpa using hsz), rfl, (fun _ => rfl), (fun e => g1 (set_back (by decide) e)), (fun e => g2 (set_back (by decide) e)), (fun e => g3 (set_back (by decide) e)), (fun e => g4 (set_back (by decide) e)), (fun e => g5 (set_back (by decide) e)), (fun e => g6 (set_back (by decide) e)), (fun e => g7 (set_back (by decide) e)), (fun e => g8 (set_back (by decide) e)), ?_⟩
      rw [getD_set_ne false (show 0 ≠ 7 by decide), getD_set_ne false (show 0 ≠ 8 by decide), getD_set_ne false (show 0 ≠ 9 by decide)]
      exact ph
    | 1, hr =>
      have hn : lst.getD 1 false = false := ready_no hr
      clear hr
      refine wpOp_step rfl (fun K hK => ?_)
      go_simp
      refine hK _ _ ?_
      refine ⟨x0, _, x2, x3, x4, x5, x6, x7, x8, u, vA, vn, vc, xb, (by simpa using hsz), rfl, (fun e => g0 (set_back (by decide) e)), (fun _ => rfl), (fun e => g2 (set_back (by decide) e)), (fun e => g3 (set_back (by decide) e)), (fun e => g4 (set_back (by decide) e)), (fun e => g5 (set_back (by decide) e)), (fun e => g6 (set_back (by decide) e)), (fun e => g7 (set_back (by decide) e)), (fun e => g8 (set_back (by decide) e)), ?_⟩
      rw [getD_set_ne false (show 1 ≠ 7 by decide), getD_set_ne false (show 1 ≠ 8 by decide), getD_set_ne false (show 1 ≠ 9 by decide)]
      exact ph
    | 2, hr =>
      have hn : lst.getD 2 false = false := ready_no hr
      have f1 : lst.getD 1 false = true := ready_needs hr (by kernel_rfl)
      obtain rfl := g1 f1
      have rS := RunPd.row ph.2 S5.out.row (AP.out _ (show w.heap.size ≤ w1.heap.size by have := Y.out; omega)).1 (AP.out _ (show w.heap.size ≤ w1.heap.size by have := Y.out; omega)).2.1 (AP.out _ (show w.heap.size ≤ w1.heap.size by have := Y.out; omega)).2.2
      have q0 : W.cell? ⟨w1.heap.size, 0, none⟩ = some (.slice (some ⟨g, o, none⟩) (L + 1) cap) := rS.cell (k := 0) (by simp [sttC])
      clear rS
      clear hr
      refine wpOp_step rfl (fun K hK => ?_)
      go_simp
      refine hK _ _ ?_
      refine ⟨x0, _, _, x3, x4, x5, x6, x7, x8, u, vA, vn, vc, xb, (by simpa using hsz), rfl, (fun e => g0 (set_back (by decide) e)), (fun _ => rfl), (fun _ => rfl), (fun e => g3 (set_back (by decide) e)), (fun e => g4 (set_back (by decide) e)), (fun e => g5 (set_back (by decide) e)), (fun e => g6 (set_back (by decide) e)), (fun e => g7 (set_back (by decide) e)), (fun e => g8 (set_back (by decide) e)), ?_⟩
      rw [getD_set_ne false (show 2 ≠ 7 by decide), getD_set_ne false (show 2 ≠ 8 by decide), getD_set_ne false (show 2 ≠ 9 by decide)]
      exact ph
    | 3, hr =>
      have hn : lst.getD 3 false = false := ready_no hr
      clear hr
      refine wpOp_step rfl (fun K hK => ?_)
      go_simp
      refine hK _ _ ?_
      refine ⟨x0, x1, x2, _, x4, x5, x6, x7, x8, u, vA, vn, vc, xb, (by simpa using hsz), rfl, (fun e => g0 (set_back (by decide) e)), (fun e => g1 (set_back (by decide) e)), (fun e => g2 (set_back (by decide) e)), (fun _ => rfl), (fun e => g4 (set_back (by decide) e)), (fun e => g5 (set_back (by decide) e)), (fun e => g6 (set_back (by decide) e)), (fun e => g7 (set_back (by decide) e)), (fun e => g8 (set_back (by decide) e)), ?_⟩
      rw [getD_set_ne false (show 3 ≠ 7 by decide), getD_set_ne false (show 3 ≠ 8 by decide), getD_set_ne false (show 3 ≠ 9 by decide)]
      exact ph
    | 4, hr =>
      have hn : lst.getD 4 false = false := ready_no hr
      have f2 : lst.getD 2 false = true := ready_needs hr (by kernel_rfl)
      obtain rfl := g2 f2
      have f3 : lst.getD 3 false = true := ready_needs hr (by kernel_rfl)
      obtain rfl := g3 f3
      clear hr
      refine wpOp_step rfl (fun K hK => ?_)
      go_simp
      refine hK _ _ ?_
      refine ⟨x0, x1, _, _, _, x5, x6, x7, x8, u, vA, vn, vc, xb, (by simpa using hsz), rfl, (fun e => g0 (set_back (by decide) e)), (fun e => g1 (set_back (by decide) e)), (fun _ => rfl), (fun _ => rfl), (fun _ => rfl), (fun e => g5 (set_back (by decide) e)), (fun e => g6 (set_back (by decide) e)), (fun e => g7 (set_back (by decide) e)), (fun e => g8 (set_back (by decide) e)), ?_⟩
      rw [getD_set_ne false (show 4 ≠ 7 by decide), getD_set_ne false (show 4 ≠ 8 by decide), getD_set_ne false (show 4 ≠ 9 by decide)]
      exact ph
    | 5, hr =>
      have hn : lst.getD 5 false = false := ready_no hr
      clear hr
      refine wpOp_step rfl (fun K hK => ?_)
      go_simp
      refine hK _ _ ?_
      refine ⟨x0, x1, x2, x3, x4, _, x6, x7, x8, u, vA, vn, vc, xb, (by simpa using hsz), rfl, (fun e => g0 (set_back (by decide) e)), (fun e => g1 (set_back (by decide) e)), (fun e => g2 (set_back (by decide) e)), (fun e => g3 (set_back (by decide) e)), (fun e => g4 (set_back (by decide) e)), (fun _ => rfl), (fun e => g6 (set_back (by decide) e)), (fun e => g7 (set_back (by decide) e)), (fun e => g8 (set_back (by decide) e)), ?_⟩
      rw [getD_set_ne false (show 5 ≠ 7 by decide), getD_set_ne false (show 5 ≠ 8 by decide), getD_set_ne false (show 5 ≠ 9 by decide)]
      exact ph
    | 6, hr =>
      have hn : lst.getD 6 false = false := ready_no hr
      have f5 : lst.getD 5 false = true := ready_needs hr (by kernel_rfl)
      obtain rfl := g5 f5
      clear hr
      refine wpOp_step rfl (fun K hK => ?_)
      go_simp
      refine hK _ _ ?_
      refine ⟨x0, x1, x2, x3, x4, _, _, x7, x8, u, vA, vn, vc, xb, (by simpa using hsz), rfl, (fun e => g0 (set_back (by decide) e)), (fun e => g1 (set_back (by decide) e)), (fun e => g2 (set_back (by decide) e)), (fun e => g3 (set_back (by decide) e)), (fun e => g4 (set_back (by decide) e)), (fun _ => rfl), (fun _ => rfl), (fun e => g7 (set_back (by decide) e)), (fun e => g8 (set_back (by decide) e)), ?_⟩
      rw [getD_set_ne false (show 6 ≠ 7 by decide), getD_set_ne false (show 6 ≠ 8 by decide), getD_set_ne false (show 6 ≠ 9 by decide)]
      exact ph
    | 7, hr =>
      have hn : lst.getD 7 false = false := ready_no hr
      have f0 : lst.getD 0 false = true := ready_needs hr (by kernel_rfl)
      obtain rfl := g0 f0
      have f4 : lst.getD 4 false = true := ready_needs hr (by kernel_rfl)
      obtain rfl := g4 f4
      have f6 : lst.getD 6 false = true := ready_needs hr (by kernel_rfl)
      obtain rfl := g6 f6
      rw [hn] at ph
      have hBW := ph.2.1 rfl
      have h21 : lst.getD 9 false = false := by
        cases hb : lst.getD 9 false with
        | false => rfl
        | true => cases (ph.1 hb).1
      rw [h21] at ph
      clear hr
      refine wpOp_step rfl (fun K hK => ?_)
      go_simp
      (with_reducible refine (H.out _ hBW).mono ?_)
      rintro e w9 ⟨u', va', rfl, hT, hI, hD⟩
      obtain ⟨vA', vc', eva, _⟩ := CRow.shape hI
      obtain ⟨vn', eva'⟩ : ∃ vn', va' = .slice vA' vn' vc' := ⟨_, eva⟩
      clear eva
      subst eva'
      have hJ2 := RunPd.call ph.2 HFA.out hT hI hD
      clear hT hI hD hBW
      go_simp
      refine hK _ _ ?_
      refine ⟨_, x1, x2, x3, _, x5, _, _, x8, u', vA', vn', vc', xb, (by simpa using hsz), rfl, (fun _ => rfl), (fun e => g1 (set_back (by decide) e)), (fun e => g2 (set_back (by decide) e)), (fun e => g3 (set_back (by decide) e)), (fun _ => rfl), (fun e => g5 (set_back (by decide) e)), (fun _ => rfl), (fun _ => rfl), (fun e => g8 (set_back (by decide) e)), ?_⟩
      rw [getD_set_is (by omega), getD_set_ne false (show 7 ≠ 8 by decide), getD_set_ne false (show 7 ≠ 9 by decide), h21]
      exact ⟨(fun e => by cases e), hJ2⟩
    | 8, hr =>
      have hn : lst.getD 8 false = false := ready_no hr
      rw [hn] at ph
      have h21 : lst.getD 9 false = false := by
        cases hb : lst.getD 9 false with
        | false => rfl
        | true => cases (ph.1 hb).2
      rw [h21] at ph
      clear hr
      refine wpOp_step rfl (fun K hK => ?_)
      go_simp
      refine hK _ _ ?_
      refine ⟨x0, x1, x2, x3, x4, x5, x6, x7, _, u, vA, vn, vc, W.heap.size, (by simpa using hsz), rfl, (fun e => g0 (set_back (by decide) e)), (fun e => g1 (set_back (by decide) e)), (fun e => g2 (set_back (by decide) e)), (fun e => g3 (set_back (by decide) e)), (fun e => g4 (set_back (by decide) e)), (fun e => g5 (set_back (by decide) e)), (fun e => g6 (set_back (by decide) e)), (fun e => g7 (set_back (by decide) e)), (fun _ => rfl), ?_⟩
      rw [getD_set_is (by omega), getD_set_ne false (show 8 ≠ 7 by decide), getD_set_ne false (show 8 ≠ 9 by decide), h21]
      exact ⟨(fun e => by cases e), RunPd.alloc (z := [.bool false, .int .i64 0, .slice none 0 0, .bool false, .int .i64 0, .bool false, .int .i64 0]) ph.2⟩
    | 9, hr =>
      have hn : lst.getD 9 false = false := ready_no hr
      have f8 : lst.getD 8 false = true := ready_needs hr (by kernel_rfl)
      obtain rfl := g8 f8
      have f7 : lst.getD 7 false = true := ready_needs hr (by kernel_rfl)
      obtain rfl := g7 f7
      rw [hn, f8, f7] at ph
      have RZ : RowAt 151 xb [.bool false, .int .i64 0, .slice none 0 0, .bool false, .int .i64 0, .bool false, .int .i64 0] W := (ph.2.2.2 rfl).1
      obtain ⟨p0, p1, p2, p3, p4, p5, p6⟩ := row7 RZ
      have y0 := RZ.free 0
      have y1 := RZ.free 1
      have y2 := RZ.free 2
      have y3 := RZ.free 3
      have y4 := RZ.free 4
      have y5 := RZ.free 5
      have y6 := RZ.free 6
      have pz := put7r RZ rfl (.bool dcall) (.int .i64 dfn) (.slice vA vn vc) (.bool dret) (.int .i64 dval) (.bool dprint) (.int .i64 ddone)
      have hJ2 := RunPd.store ph.2 HFA.out pz.2.2 pz.2.1
      clear hr RZ pz
      refine wpOp_step rfl (fun K hK => ?_)
      go_simp
      refine hK _ _ ?_
      refine ⟨x0, x1, x2, x3, x4, x5, x6, _, _, u, vA, vn, vc, xb, (by simpa using hsz), rfl, (fun e => g0 (set_back (by decide) e)), (fun e => g1 (set_back (by decide) e)), (fun e => g2 (set_back (by decide) e)), (fun e => g3 (set_back (by decide) e)), (fun e => g4 (set_back (by decide) e)), (fun e => g5 (set_back (by decide) e)), (fun e => g6 (set_back (by decide) e)), (fun _ => rfl), (fun _ => rfl), ?_⟩
      rw [getD_set_is (by omega), getD_set_ne false (show 9 ≠ 7 by decide), getD_set_ne false (show 9 ≠ 8 by decide), f8, f7]
      exact ⟨(fun _ => ⟨rfl, rfl⟩), hJ2⟩
    | i + 10, hr => exact absurd (mem_ready.1 hr).2 (by simp)
  rotate_left
  rintro lst a' W ⟨x0, x1, x2, x3, x4, x5, x6, x7, x8, u, vA, vn, vc, xb, hsz, rfl, g0, g1, g2, g3, g4, g5, g6, g7, g8, ph⟩ hr
  have T := all_come (md := .any) (n := 10) (by kernel_rfl) hsz (by kernel_rfl) hr
  clear hr
  obtain rfl := g0 (T 0 (by decide))
  obtain rfl := g1 (T 1 (by decide))
  obtain rfl := g2 (T 2 (by decide))
  obtain rfl := g3 (T 3 (by decide))
  obtain rfl := g4 (T 4 (by decide))
  obtain rfl := g5 (T 5 (by decide))
  obtain rfl := g6 (T 6 (by decide))
  obtain rfl := g7 (T 7 (by decide))
  obtain rfl := g8 (T 8 (by decide))
  rw [T 7 (by decide)] at ph
  rw [T 8 (by decide)] at ph
  rw [T 9 (by decide)] at ph
  exact hQ' _ _ ⟨u, vA, vn, vc, xb, rfl, ph.2⟩
  rintro _ W ⟨u, vA, vn, vc, xb, rfl, hJ⟩
  obtain ⟨hT, hI, hD⟩ := hJ.2.1 rfl
  obtain ⟨hRX, hxb, hnx⟩ := hJ.2.2 rfl
  obtain ⟨nu, na⟩ := hnx rfl
  clear hJ hnx
  have hTU := OwnFr.turned S5.out.own.fr (by simp only; have := HLEN.out; omega) HK.out HEV.out hT
  have S6 := Lib.hid (S5.out.fr0 hTU.1 hTU.2.1 hTU.2.2)
  have C6 := Lib.hid (show Chg (StB w1.heap.size (.slice (some ⟨g, o, none⟩) (L + 1) cap) (.slice Ao s.out.length co) vss) w3 W from C5.out.trans (hTU.2.1.mono (fun b h => .inr (.inl h))) (fun _ _ h => h))
  have N6 := Lib.hid (show ∀ b, FrB (.slice (some ⟨g, o, none⟩) (L + 1) cap) (vss.set L [v1, u]) b → FrB (.slice (some ⟨g, o, none⟩) (L + 1) cap) vss b ∨ w3.heap.size ≤ b from fun b h => (hTU.2.2 b h).imp id (fun h => by have := Z35.out; omega))
  have RX := Lib.hid hRX
  have HI := Lib.hid hI
  have DIS := Lib.hid hD
  have R3 := Lib.hid (hT.row R35.out (AP.out _ (show w.heap.size ≤ w2.heap.size by have := Y.out; omega)).1 (AP.out _ (show w.heap.size ≤ w2.heap.size by have := Y.out; omega)).2.1 (AP.out _ (show w.heap.size ≤ w2.heap.size by have := Y.out; omega)).2.2)
  have R1W := Lib.hid (hT.row R15.out (AP.out _ (show w.heap.size ≤ w.heap.size by have := Y.out; omega)).1 (AP.out _ (show w.heap.size ≤ w.heap.size by have := Y.out; omega)).2.1 (AP.out _ (show w.heap.size ≤ w.heap.size by have := Y.out; omega)).2.2)
  have XB := Lib.hid hxb
  have HLS := Lib.hid (show (s.frames.set L F).length = L + 1 by rw [List.length_set]; exact HLEN.out)
  obtain ⟨r0, r1, r2, r3, r4, r5, r6⟩ := row7 RX.out
  clear hT hI hD hRX nu na hTU hxb H
  have hdid := HDID.out
  cases r with
  | next =>
    simp only [didOf, Did.mk.injEq] at hdid
    obtain ⟨rfl, rfl, rfl, rfl, rfl, rfl, rfl⟩ := hdid
    obtain ⟨c0, c1, c2, c3, c4, _⟩ := S6.out.cells
    simp only at c0 c1 c2 c3 c4
    have m0 := R3.out.cell (k := 0) (by simp)
    have m1 := R3.out.cell (k := 1) (by simp)
    have m2 := R3.out.cell (k := 2) (by simp)
    have m3 := R3.out.cell (k := 3) (by simp)
    have m4 := R3.out.cell (k := 4) (by simp)
    simp only [List.getElem_cons_zero, List.getElem_cons_succ] at m0 m1 m2 m3 m4
    have n0 := R3.out.free 0
    have n1 := R3.out.free 1
    have n2 := R3.out.free 2
    have n3 := R3.out.free 3
    have n4 := R3.out.free 4
    have pz := put5s R3.out rfl (.slice (some ⟨g, o, none⟩) (L + 1) cap) (.int .i64 (s.fuel - 1)) (.slice Ao (s.out.length) co) (.int .i64 (s.done)) (.int .i64 (s.value))
    have EE := Lib.hid pz.1
    have HR := Lib.hid (once_end (s2 := ⟨s.frames.set L F, s.fuel - 1, s.out, s.done, s.value⟩) B03.out (show w.heap.size ≤ w1.heap.size by have := Y.out; omega) (show w.heap.size ≤ w2.heap.size by have := Y.out; omega) (show w2.heap.size < w3.heap.size by have := Y.out; omega) HOLD.out S6.out.own HLS.out rfl rfl rfl rfl C6.out (fun b hb => by
      rcases hb with h | h
      · exact (N6.out b h).imp .inl id
      · exact .inl (.inr h)) pz.2)
    clear pz
    go_wp2_with fail
    exact bodyPost_ret (v := .agg #[.slice (some ⟨g, o, none⟩) (L + 1) cap, .int .i64 (s.fuel - 1), .slice Ao (s.out.length) co, .int .i64 (s.done), .int .i64 (s.value)]) (by simp [results, Tryz.results64, go_sem, EE.out.1, EE.out.2.1, EE.out.2.2.1, EE.out.2.2.2.1, EE.out.2.2.2.2]) rfl HR.out
  | print v =>
    simp only [didOf, Did.mk.injEq] at hdid
    obtain ⟨rfl, rfl, rfl, rfl, rfl, rfl, rfl⟩ := hdid
    have b7 : Below W.heap.size W (W.alloc (.cells #[.int .i64 v] 3)) := below_alloc (Below.refl _ _) _
    have rN : RowAt 3 W.heap.size (intsV [v]) (W.alloc (.cells #[.int .i64 v] 3)) := RowAt.new 3 (intsV [v]) W
    have S7 := S6.out.below b7
    have hsrc : Src Tryz.prog 1 28 (.slice (some ⟨W.heap.size, 0, none⟩) 1 1) 1 (intsV [v]) (W.alloc (.cells #[.int .i64 v] 3)) := ints_src (xs := [v]) Tryz.underlying28 (intsL (xs := [v]) rN (by simp)) (fun e => by cases e)
    obtain ⟨ii, hi, hz0, hsz, hbb⟩ := info_parts info_int
    obtain ⟨v', w8, hrun, hG⟩ := run_append_crow (P := Tryz.prog) (W.alloc (.cells #[.int .i64 v] 3)) 28 3 28 28 ii (.int .i64 0) 1 8 Tryz.underlying28 hi hz0 hsz hbb rfl base Ao s.out.length co (intsV s.out) S7.own.out (by have := b7.size; have := C6.out.size; have := HBB.out.1; have := B03.out.size; omega)
      (.slice (some ⟨W.heap.size, 0, none⟩) 1 1) 1 (intsV [v]) hsrc (by have := HOL.out; omega) (by have := HOL.out; unfold maxLen; omega)
    obtain ⟨ao', cap', rfl, _, _⟩ := hG.row.shape
    have hrow := hG.row
    rw [show intsV s.out ++ intsV [v] = intsV (s.out ++ [v]) by simp [intsV]] at hrow
    have S8 := S7.trace (out := s.out ++ [v]) (by rw [List.length_append]; exact hrow) hG.chg hG.at_
    have d2 := S6.out.cells.2.2.1
    have k8 := S7.row.chg hG.chg S7.no
    obtain ⟨y2, d28⟩ : ∃ c, w8.cell? ⟨w1.heap.size, 2, none⟩ = some c := ⟨_, k8.cell (k := 2) (by simp [sttC])⟩
    have z28 := k8.free 2
    have C8 := ((C6.out.after b7).trans hG.chg (fun _ _ e => .inr (.inr e))).put (a := ⟨w1.heap.size, 2, none⟩) (.inl rfl) (.slice ao' (s.out.length + 1) cap')
    have hrb : ∀ b, ob (.slice Ao s.out.length co) = some b → b ≠ w2.heap.size := fun b h e => by have := HOLD.out b (.inr h); have := Y.out; omega
    have R8 := ((R3.out.below b7).chg hG.chg (fun e => hrb _ e rfl)).chg (Chg.put (S := fun b => b = w1.heap.size) (Chg.refl _ w8) (a := ⟨w1.heap.size, 2, none⟩) rfl (.slice ao' (s.out.length + 1) cap')) (show ¬ w2.heap.size = w1.heap.size by have := Y.out; omega)
    have N8 := Lib.hid (show ∀ b, (FrB (.slice (some ⟨g, o, none⟩) (L + 1) cap) (vss.set L [v1, u]) b ∨ ob (.slice ao' (s.out.length + 1) cap') = some b) → (FrB (.slice (some ⟨g, o, none⟩) (L + 1) cap) vss b ∨ ob (.slice Ao s.out.length co) = some b) ∨ w3.heap.size ≤ b from fun b hb => by
      rcases hb with h | h
      · exact (N6.out b h).imp .inl id
      · rcases hG.at_ b h with h | h
        · exact .inl (.inr h)
        · exact .inr (by have := b7.size; have := C6.out.size; omega))
    obtain ⟨w9, hw9⟩ : ∃ w9, w8.setCell ⟨w1.heap.size, 2, none⟩ (.slice ao' (s.out.length + 1) cap') = w9 := ⟨_, rfl⟩
    rw [hw9] at S8 C8 R8
    have S9 := Lib.hid S8
    have C9 := Lib.hid C8
    have R9 := Lib.hid R8
    clear b7 rN S7 hsrc hi hz0 hsz hbb hG hrow S8 C8 R8 k8 hrb
    go_upto_region 19 with (first | (at_builtin; refine wpList_append_run _ rfl _ _ _ _ rfl _ _ _ _ rfl rfl hrun ?_) | fail)
    clear hrun d2 d28 z28 hw9 r0 r1 r2 r3 r4 r5 r6
    obtain ⟨c0, c1, c2, c3, c4, _⟩ := S9.out.cells
    simp only at c0 c1 c2 c3 c4
    have m0 := R9.out.cell (k := 0) (by simp)
    have m1 := R9.out.cell (k := 1) (by simp)
    have m2 := R9.out.cell (k := 2) (by simp)
    have m3 := R9.out.cell (k := 3) (by simp)
    have m4 := R9.out.cell (k := 4) (by simp)
    simp only [List.getElem_cons_zero, List.getElem_cons_succ] at m0 m1 m2 m3 m4
    have n0 := R9.out.free 0
    have n1 := R9.out.free 1
    have n2 := R9.out.free 2
    have n3 := R9.out.free 3
    have n4 := R9.out.free 4
    have pz := put5s R9.out rfl (.slice (some ⟨g, o, none⟩) (L + 1) cap) (.int .i64 (s.fuel - 1)) (.slice ao' (s.out.length + 1) cap') (.int .i64 (s.done)) (.int .i64 (s.value))
    have EE := Lib.hid pz.1
    have HR := Lib.hid (once_end (s2 := ⟨s.frames.set L F, s.fuel - 1, s.out ++ [v], s.done, s.value⟩) B03.out (show w.heap.size ≤ w1.heap.size by have := Y.out; omega) (show w.heap.size ≤ w2.heap.size by have := Y.out; omega) (show w2.heap.size < w3.heap.size by have := Y.out; omega) HOLD.out S9.out.own HLS.out (by simp) rfl rfl rfl C9.out N8.out pz.2)
    clear pz
    go_wp2_with fail
    exact bodyPost_ret (v := .agg #[.slice (some ⟨g, o, none⟩) (L + 1) cap, .int .i64 (s.fuel - 1), .slice ao' (s.out.length + 1) cap', .int .i64 (s.done), .int .i64 (s.value)]) (by simp [results, Tryz.results64, go_sem, EE.out.1, EE.out.2.1, EE.out.2.2.1, EE.out.2.2.2.1, EE.out.2.2.2.2]) rfl HR.out
  | over d =>
    simp only [didOf, Did.mk.injEq] at hdid
    obtain ⟨rfl, rfl, rfl, rfl, rfl, rfl, rfl⟩ := hdid
    have dne : (d != 0) = true := by have := HOVER.out d rfl; simpa using this
    have HO := Lib.hid (rover_any (some ⟨g, o, none⟩) Ao (L + 1) s.out.length cap co (s.fuel - 1) s.done s.value d 0 W)
    obtain ⟨c0, c1, c2, c3, c4, _⟩ := S6.out.cells
    simp only at c0 c1 c2 c3 c4
    have SW := S6
    have CW := C6
    have RW := R3
    go_wp2_with fail
    (with_reducible refine HO.out.mono ?_)
    rintro e w9 ⟨rfl, hB9⟩
    have R9 := Lib.hid (RW.out.below hB9)
    have C9 := Lib.hid (CW.out.after hB9)
    have S9 := Lib.hid (show OwnS w9 base ⟨[], s.fuel - 1, s.out, d, 0⟩ (.slice none 0 0) (.slice Ao s.out.length co) [] from ⟨OwnG.nil _ _ _, (SW.out.own.out.below hB9), fun u hu b hb => by
      have e1 : u = .slice none 0 0 := by simpa using hu
      subst e1; cases hb⟩)
    clear hB9 HO
    have m0 := R9.out.cell (k := 0) (by simp)
    have m1 := R9.out.cell (k := 1) (by simp)
    have m2 := R9.out.cell (k := 2) (by simp)
    have m3 := R9.out.cell (k := 3) (by simp)
    have m4 := R9.out.cell (k := 4) (by simp)
    simp only [List.getElem_cons_zero, List.getElem_cons_succ] at m0 m1 m2 m3 m4
    have n0 := R9.out.free 0
    have n1 := R9.out.free 1
    have n2 := R9.out.free 2
    have n3 := R9.out.free 3
    have n4 := R9.out.free 4
    have pz := put5s R9.out rfl (.slice none 0 0) (.int .i64 (s.fuel - 1)) (.slice Ao (s.out.length) co) (.int .i64 (d)) (.int .i64 (0))
    have EE := Lib.hid pz.1
    have HR := Lib.hid (once_end (s2 := ⟨[], s.fuel - 1, s.out, d, 0⟩) B03.out (show w.heap.size ≤ w1.heap.size by have := Y.out; omega) (show w.heap.size ≤ w2.heap.size by have := Y.out; omega) (show w2.heap.size < w3.heap.size by have := Y.out; omega) HOLD.out S9.out rfl rfl rfl rfl rfl C9.out (fun b hb => by
      rcases hb with h | h
      · exact (FrB.nil h).elim
      · exact .inl (.inr h)) pz.2)
    clear pz
    go_wp2_with fail
    exact bodyPost_ret (v := .agg #[.slice none 0 0, .int .i64 (s.fuel - 1), .slice Ao (s.out.length) co, .int .i64 (d), .int .i64 (0)]) (by simp [results, Tryz.results64, go_sem, EE.out.1, EE.out.2.1, EE.out.2.2.1, EE.out.2.2.2.1, EE.out.2.2.2.2]) rfl HR.out
  | ret v =>
    simp only [didOf, Did.mk.injEq] at hdid
    obtain ⟨rfl, rfl, rfl, rfl, rfl, rfl, rfl⟩ := hdid
    obtain ⟨ii, hi, _⟩ := info_parts info_frame
    have hcap : L + 1 ≤ cap := by
      obtain ⟨_, _, e, hle, _⟩ := S6.out.own.fr.row.shape
      injection e with _ _ e3
      simp only [HLS.out] at hle
      omega
    have RI := run_init (P := Tryz.prog) 45 68 Tryz.underlying45 ii hi g o (L + 1) cap L (by omega)
    obtain ⟨c0, _, _, _, _, zd⟩ := S6.out.cells
    have z0 := zd 0
    have FT := Lib.hid (show ∀ b, FrB (.slice (some ⟨g, o, none⟩) L cap) ((vss.set L [v1, u]).take L) b → FrB (.slice (some ⟨g, o, none⟩) (L + 1) cap) (vss.set L [v1, u]) b from fun b hb => by
      obtain ⟨x, hx, e⟩ := hb
      rcases List.mem_cons.1 hx with rfl | hx
      · refine FrB.outer ?_
        obtain ⟨c, rfl⟩ : ∃ c, cap = c + 1 := ⟨cap - 1, by omega⟩
        exact e
      · obtain ⟨l, hl, hxl⟩ := List.mem_flatten.1 hx
        exact ⟨x, List.mem_cons_of_mem _ (List.mem_flatten.2 ⟨l, List.mem_of_mem_take hl, hxl⟩), e⟩)
    have ht := OwnG.take S6.out.own.fr L (by simp only; have := HLS.out; omega)
    have S7 := S6.out.fr (fs := (s.frames.set L F).take L) ht (Chg.refl _ _) (fun b hb => .inl (FT.out b hb))
    have C7 := C6.out.put (a := ⟨w1.heap.size, 0, none⟩) (.inl rfl) (.slice (some ⟨g, o, none⟩) L cap)
    obtain ⟨w7, hw7⟩ : ∃ w7, W.setCell ⟨w1.heap.size, 0, none⟩ (.slice (some ⟨g, o, none⟩) L cap) = w7 := ⟨_, rfl⟩
    have kc : Chg (fun b => b = w1.heap.size) W w7 := hw7 ▸ Chg.put (S := fun b => b = w1.heap.size) (Chg.refl _ W) (a := ⟨w1.heap.size, 0, none⟩) rfl _
    rw [hw7] at S7 C7
    have SW := Lib.hid S7
    have CW := Lib.hid C7
    have RW := Lib.hid (R3.out.chg kc (show ¬ w2.heap.size = w1.heap.size by have := Y.out; omega))
    have RX7 := Lib.hid (RX.out.chg kc (show ¬ xb = w1.heap.size by have := XB.out; have := Z35.out; have := Y.out; omega))
    clear ht S7 C7 kc zd hi
    go_upto_region 16 with fail
    clear hw7 c0 z0 RI r0 r1 r2 r3 r4 r5 r6
    obtain ⟨r0, r1, r2, r3, r4, r5, r6⟩ := row7 RX7.out
    by_cases hL0 : L = 0
    · subst hL0
      have HO := Lib.hid (rover_any (some ⟨g, o, none⟩) Ao 0 s.out.length cap co (s.fuel - 1) s.done s.value 1 v w7)
      obtain ⟨c0, c1, c2, c3, c4, _⟩ := SW.out.cells
      simp only at c0 c1 c2 c3 c4
      go_wp2_with fail
      (with_reducible refine HO.out.mono ?_)
      rintro e w9 ⟨rfl, hB9⟩
      have R9 := Lib.hid (RW.out.below hB9)
      have C9 := Lib.hid (CW.out.after hB9)
      have S9 := Lib.hid (show OwnS w9 base ⟨[], s.fuel - 1, s.out, 1, v⟩ (.slice none 0 0) (.slice Ao s.out.length co) [] from ⟨OwnG.nil _ _ _, (SW.out.own.out.below hB9), fun u hu b hb => by
        have e1 : u = .slice none 0 0 := by simpa using hu
        subst e1; cases hb⟩)
      clear hB9 HO
      have m0 := R9.out.cell (k := 0) (by simp)
      have m1 := R9.out.cell (k := 1) (by simp)
      have m2 := R9.out.cell (k := 2) (by simp)
      have m3 := R9.out.cell (k := 3) (by simp)
      have m4 := R9.out.cell (k := 4) (by simp)
      simp only [List.getElem_cons_zero, List.getElem_cons_succ] at m0 m1 m2 m3 m4
      have n0 := R9.out.free 0
      have n1 := R9.out.free 1
      have n2 := R9.out.free 2
      have n3 := R9.out.free 3
      have n4 := R9.out.free 4
      have pz := put5s R9.out rfl (.slice none 0 0) (.int .i64 (s.fuel - 1)) (.slice Ao (s.out.length) co) (.int .i64 (1)) (.int .i64 (v))
      have EE := Lib.hid pz.1
      have HR := Lib.hid (once_end (s2 := ⟨[], s.fuel - 1, s.out, 1, v⟩) B03.out (show w.heap.size ≤ w1.heap.size by have := Y.out; omega) (show w.heap.size ≤ w2.heap.size by have := Y.out; omega) (show w2.heap.size < w3.heap.size by have := Y.out; omega) HOLD.out S9.out rfl rfl rfl rfl rfl C9.out (fun b hb => by
        rcases hb with h | h
        · exact (FrB.nil h).elim
        · exact .inl (.inr h)) pz.2)
      clear pz
      go_wp2_with fail
      exact bodyPost_ret (v := .agg #[.slice none 0 0, .int .i64 (s.fuel - 1), .slice Ao (s.out.length) co, .int .i64 (1), .int .i64 (v)]) (by simp [results, Tryz.results64, go_sem, EE.out.1, EE.out.2.1, EE.out.2.2.1, EE.out.2.2.2.1, EE.out.2.2.2.2]) rfl HR.out
    · obtain ⟨M, hM⟩ : ∃ M, L = M + 1 := ⟨L - 1, by omega⟩
      have dl : ((L : Int) == 0) = false := beq_eq_false_iff_ne.2 (by omega)
      have i1 : IntKind.i64.wrap ((L : Int) - 1) = M := by rw [IntKind.wrap_i64]; have := HLL.out; omega
      have i2 : (M : Int) < (L : Int) := by omega
      have i3 : M < L := by omega
      have i4 : (0 : Int) ≤ (M : Int) := by omega
      have i5 : L ≤ 9223372036854775807 := by omega
      have hlt2 : ((s.frames.set L F).take L).length = L := by rw [List.length_take, HLS.out]; omega
      obtain ⟨x1, x2, hk2, ev2, hF2⟩ := OwnFr.fat SW.out.own.fr (k := M) (by simp only; omega)
      have ef : ((s.frames.set L F).take L)[M]'(by omega) = s.frames.getD (L - 1) default := by
        rw [List.getElem_take, List.getElem_set_ne (by omega), List.getD_eq_getElem?_getD, List.getElem?_eq_getElem (by have := HLEN.out; omega)]
        simp [hM]
      simp only [ef] at hF2
      have bd : Below w7.heap.size w7 w7.drew := below_drw (Below.refl _ _)
      have hF3 := hF2.below bd
      have HG := Lib.hid (rpush_at hF3 (show base ≤ w7.heap.size by have := CW.out.size; have := HBB.out.1; have := B03.out.size; omega) (HST.out (by omega)) v)
      obtain ⟨a0, _⟩ := SW.out.cells
      have SWD := Lib.hid (SW.out.below bd)
      have CWD := Lib.hid (CW.out.after bd)
      have RWD := Lib.hid (RW.out.below bd)
      have EV2 := Lib.hid ev2
      have HK2 := Lib.hid hk2
      have HT2 := Lib.hid hlt2
      have HM := Lib.hid hM
      have hgl : w2.heap.size ≠ g := (AP.out _ (show w.heap.size ≤ w2.heap.size by have := Y.out; omega)).1
      have LOF := Lib.hid (show ∀ b, FrB (.slice (some ⟨g, o, none⟩) L cap) ((vss.set L [v1, u]).take L) b → b ≠ w2.heap.size from fun b hb e => by
        rcases N6.out b (FT.out b hb) with h | h
        · have := HOLD.out b (.inl h); have := Y.out; omega
        · have := Y.out; omega)
      clear ev2 hF2 hF3 bd ef hL0 hlt2 hM
      go_upto_region 18 with fail
      go_still_tail 7, (by kernel_rfl)
      go_wp2_with fail
      (with_reducible refine HG.out.mono ?_)
      rintro e w9 ⟨u9, rfl, h9⟩
      have hT9 := OwnFr.turned SWD.out.own.fr (k := M) (by simp only; rw [HT2.out]; omega) HK2.out EV2.out h9
      have S9 := Lib.hid (SWD.out.fr0 hT9.1 hT9.2.1 hT9.2.2)
      have C9 := Lib.hid (CWD.out.trans (hT9.2.1.mono (fun b h => h)) (fun b hb h => by
        rcases N6.out b (FT.out b h) with e | e
        · exact .inr (.inl e)
        · omega))
      have R9 := Lib.hid (RWD.out.chg hT9.2.1 (fun e => LOF.out _ e rfl))
      have N9 := Lib.hid (show ∀ b, (FrB (.slice (some ⟨g, o, none⟩) L cap) (((vss.set L [v1, u]).take L).set M [x1, u9]) b ∨ ob (.slice Ao s.out.length co) = some b) → (FrB (.slice (some ⟨g, o, none⟩) (L + 1) cap) vss b ∨ ob (.slice Ao s.out.length co) = some b) ∨ w3.heap.size ≤ b from fun b hb => by
        rcases hb with h | h
        · rcases hT9.2.2 b h with h | h
          · exact (N6.out b (FT.out b h)).imp .inl id
          · exact .inr (Nat.le_trans CWD.out.size h)
        · exact .inl (.inr h))
      have ER := Lib.hid (show onceR p s L F (.ret v) = ⟨((s.frames.set L F).take L).set M ⟨(s.frames.getD (L - 1) default).fn, (s.frames.getD (L - 1) default).pc, (s.frames.getD (L - 1) default).locals, (s.frames.getD (L - 1) default).stack ++ [v]⟩, s.fuel - 1, s.out, s.done, s.value⟩ from by
        have hL0 : ¬ L = 0 := by have := HM.out; omega
        have e : L - 1 = M := by have := HM.out; omega
        simp only [onceR, if_neg hL0]
        rw [e])
      clear h9 hT9 a0
      obtain ⟨c0, c1, c2, c3, c4, _⟩ := S9.out.cells
      simp only at c0 c1 c2 c3 c4
      have m0 := R9.out.cell (k := 0) (by simp)
      have m1 := R9.out.cell (k := 1) (by simp)
      have m2 := R9.out.cell (k := 2) (by simp)
      have m3 := R9.out.cell (k := 3) (by simp)
      have m4 := R9.out.cell (k := 4) (by simp)
      simp only [List.getElem_cons_zero, List.getElem_cons_succ] at m0 m1 m2 m3 m4
      have n0 := R9.out.free 0
      have n1 := R9.out.free 1
      have n2 := R9.out.free 2
      have n3 := R9.out.free 3
      have n4 := R9.out.free 4
      have pz := put5s R9.out rfl (.slice (some ⟨g, o, none⟩) (L) cap) (.int .i64 (s.fuel - 1)) (.slice Ao (s.out.length) co) (.int .i64 (s.done)) (.int .i64 (s.value))
      have EE := Lib.hid pz.1
      have HR := Lib.hid (once_end (s2 := ⟨((s.frames.set L F).take L).set M ⟨(s.frames.getD (L - 1) default).fn, (s.frames.getD (L - 1) default).pc, (s.frames.getD (L - 1) default).locals, (s.frames.getD (L - 1) default).stack ++ [v]⟩, s.fuel - 1, s.out, s.done, s.value⟩) B03.out (show w.heap.size ≤ w1.heap.size by have := Y.out; omega) (show w.heap.size ≤ w2.heap.size by have := Y.out; omega) (show w2.heap.size < w3.heap.size by have := Y.out; omega) HOLD.out S9.out.own (by simp only [List.length_set]; exact HT2.out) rfl rfl rfl rfl C9.out N9.out pz.2)
      clear pz
      go_wp2_with fail
      exact bodyPost_ret (v := .agg #[.slice (some ⟨g, o, none⟩) (L) cap, .int .i64 (s.fuel - 1), .slice Ao (s.out.length) co, .int .i64 (s.done), .int .i64 (s.value)]) (by simp [results, Tryz.results64, go_sem, EE.out.1, EE.out.2.1, EE.out.2.2.1, EE.out.2.2.2.1, EE.out.2.2.2.2]) rfl (by rw [ER.out]; exact HR.out)
  | call fn args =>
    simp only [didOf, Did.mk.injEq] at hdid
    obtain ⟨rfl, rfl, rfl, rfl, rfl, rfl, rfl⟩ := hdid
    obtain ⟨m, Lc, rfl, hml, hlc, hl100, hal⟩ := HCALL.out fn args rfl
    obtain ⟨vA', vc', eva, _, _⟩ := CRow.shape HI.out
    have evn : vn = args.length := by injection eva
    subst evn
    clear eva
    have hra : ReadsI W vA args := CRow.ints (show CRow W w5.heap.size 3 1 (.slice vA args.length vc) args.length (intsV args) from HI.out)
    have hbz : base ≤ W.heap.size := by have := C6.out.size; have := HBB.out.1; have := B03.out.size; omega
    have hW3 : Below W0.heap.size W0 W := Chg.below (below_trans HW.out.1 B03.out) C6.out (fun b hb => by
      rcases hb with e | ⟨x, hx, e⟩ | e
      · rw [e]; have := HW.out.1.size; have := Y.out; omega
      · have := (OwnG.lo S5.out.own.fr x hx b e).1; have := HBB.out.2; omega
      · have := (S5.out.own.out.in_ b e).1; have := HBB.out.2; omega)
    have bd : Below W.heap.size W W.drew := below_drw (Below.refl _ _)
    have HBG := Lib.hid (fresh_any p Ap vA cp vc m Lc args W.drew (HW.out.2.below (below_trans hW3 bd)) hml hlc hl100 (hra.below bd) hal)
    obtain ⟨ii, hi, hz0, hsz, hbb⟩ := info_parts info_frame
    have hlf := HLS.out
    have eb : beginF p m args = ⟨m, 0, beginL args Lc, []⟩ := by
      unfold beginF beginL localsAt
      rw [Int.toNat_natCast, List.getElem?_eq_getElem hml]
      simp only [hlc, Int.toNat_natCast]
    have HAPP := Lib.hid (show ∀ (w4 : World) (gB : Nat), RowAt 3 gB (intsV (beginL args Lc)) w4 → W.heap.size ≤ gB → Below W.heap.size W w4 →
        ∃ ao' cap' w6 w9, (Builtin.append_ #[45, 45] 45 #[.slice (some ⟨g, o, none⟩) (L + 1) cap, .slice (some ⟨w4.heap.size, 0, none⟩) 1 1]).run Tryz.prog (w4.alloc (.cells #[.int .i64 m, .int .i64 0, .slice (some ⟨gB, 0, none⟩) Lc Lc, .slice none 0 0] 68)) = .ok (.slice ao' (L + 2) cap') w6 ∧
          (w4.cell? ⟨w1.heap.size, 0, none⟩ = some (.slice (some ⟨g, o, none⟩) (L + 1) cap) ∧ (w4.alloc (.cells #[.int .i64 m, .int .i64 0, .slice (some ⟨gB, 0, none⟩) Lc Lc, .slice none 0 0] 68)).cell? ⟨w1.heap.size, 0, none⟩ = some (.slice (some ⟨g, o, none⟩) (L + 1) cap)) ∧ w6.cell? ⟨w1.heap.size, 0, none⟩ = some (.slice (some ⟨g, o, none⟩) (L + 1) cap) ∧ w6.frozen? ⟨w1.heap.size, 0, none⟩ = false ∧
          w6.setCell ⟨w1.heap.size, 0, none⟩ (.slice ao' (L + 2) cap') = w9 ∧ (∃ vss9, StAt w9 base w1.heap.size ⟨s.frames.set L F ++ [⟨m, 0, beginL args Lc, []⟩], s.fuel - 1, s.out, s.done, s.value⟩ (.slice ao' (L + 2) cap') (.slice Ao s.out.length co) vss9 ∧
            ∀ b, (FrB (.slice ao' (L + 2) cap') vss9 b ∨ ob (.slice Ao s.out.length co) = some b) → (FrB (.slice (some ⟨g, o, none⟩) (L + 1) cap) vss b ∨ ob (.slice Ao s.out.length co) = some b) ∨ w3.heap.size ≤ b) ∧ Chg (StB w1.heap.size (.slice (some ⟨g, o, none⟩) (L + 1) cap) (.slice Ao s.out.length co) vss) w3 w9 ∧
            RowAt 47 w2.heap.size [.slice none 0 0, .int .i64 0, .slice none 0 0, .int .i64 0, .int .i64 0] w9 from fun w4 gB hrg hgl hB4 => by
      have b5 := below_alloc (Below.refl w4.heap.size w4) (.cells #[.int .i64 m, .int .i64 0, .slice (some ⟨gB, 0, none⟩) Lc Lc, .slice none 0 0] 68)
      have b35 := below_trans hB4 b5
      have S5 := S6.out.below b35
      have rF : RowAt 68 w4.heap.size (frC ⟨m, 0, beginL args Lc, []⟩ (.slice (some ⟨gB, 0, none⟩) Lc Lc) (.slice none 0 0)) (w4.alloc (.cells #[.int .i64 m, .int .i64 0, .slice (some ⟨gB, 0, none⟩) Lc Lc, .slice none 0 0] 68)) := RowAt.new _ _ w4
      have hrow := S5.own.fr.row
      simp only [hlf] at hrow
      obtain ⟨v', w6, hrun, hG⟩ := run_append_crow (P := Tryz.prog) (w4.alloc (.cells #[.int .i64 m, .int .i64 0, .slice (some ⟨gB, 0, none⟩) Lc Lc, .slice none 0 0] 68)) 45 68 45 45 ii _ 4 64 Tryz.underlying45 hi hz0 hsz hbb rfl base (some ⟨g, o, none⟩) (L + 1) cap _ hrow (by have := b35.size; omega)
        (.slice (some ⟨w4.heap.size, 0, none⟩) 1 1) 1 _ (frame_src rF) (by have := HLL.out; omega) (by unfold maxLen; have := HLL.out; omega)
      obtain ⟨ao', cap', rfl, _, _⟩ := hG.row.shape
      have hgB := blk_lt hrg
      have hold := fun u hu b e => (OwnG.lo S6.out.own.fr u hu b e).2
      have hpush := OwnFr.push (f := ⟨m, 0, beginL args Lc, []⟩) (N := W.heap.size) S5.own.fr hlf hG (innI_new (base := base) (hrg.below b5) (by omega) (beginL_len hal) (by omega)) (innI_nil _ _) hold (fun x e => by have := ob_new e; omega) (fun x e => by cases e) (fun x e e2 => by cases e2)
      have hch : Chg (FrB (.slice (some ⟨g, o, none⟩) (L + 1) cap) (vss.set L [v1, u])) _ w6 := hG.chg.mono (fun b e => FrB.outer e)
      have hnew : ∀ b, FrB (.slice ao' (L + 1 + 1) cap') (vss.set L [v1, u] ++ [[.slice (some ⟨gB, 0, none⟩) Lc Lc, .slice none 0 0]]) b → FrB (.slice (some ⟨g, o, none⟩) (L + 1) cap) (vss.set L [v1, u]) b ∨ W.heap.size ≤ b := fun b hb => by
        obtain ⟨x, hx, e⟩ := hb
        rcases List.mem_cons.1 hx with rfl | hx
        · rcases hG.at_ b e with e2 | e2
          · exact .inl (FrB.outer e2)
          · exact .inr (Nat.le_trans b35.size e2)
        · rw [List.flatten_append] at hx
          rcases List.mem_append.1 hx with hx | hx
          · exact .inl ⟨x, List.mem_cons_of_mem _ hx, e⟩
          · simp at hx
            rcases hx with rfl | rfl
            · have := ob_new e; exact .inr (by omega)
            · cases e
      have S7 := S6.out.fr (fs := s.frames.set L F ++ [⟨m, 0, beginL args Lc, []⟩]) hpush ((Chg.of_below b35).trans hch (fun _ _ e => e)) hnew
      have kr := (S6.out.row.below b35).chg hch S6.out.ns
      have kz := (R3.out.below b35).chg hch (fun e => by
        rcases N6.out _ e with h | h
        · have := HOLD.out _ (.inl h); have := Y.out; omega
        · have := Y.out; omega)
      have kp := kz.chg (Chg.put (S := fun b => b = w1.heap.size) (Chg.refl _ w6) (a := ⟨w1.heap.size, 0, none⟩) rfl (.slice ao' (L + 2) cap')) (show ¬ w2.heap.size = w1.heap.size by have := Y.out; omega)
      have c0 := S6.out.cells.1
      refine ⟨ao', cap', w6, _, hrun, ⟨cell_below hB4 c0, cell_below b35 c0⟩, kr.cell (k := 0) (by simp [sttC]), kr.free 0, rfl, ⟨_, S7, fun b hb => ?_⟩, ?_, kp⟩
      · rcases hb with h | h
        · rcases hnew b h with e2 | e2
          · exact (N6.out b e2).imp .inl id
          · exact .inr (Nat.le_trans C6.out.size e2)
        · exact .inl (.inr h)
      · refine Chg.put (S := StB w1.heap.size (.slice (some ⟨g, o, none⟩) (L + 1) cap) (.slice Ao s.out.length co) vss) ?_ (a := ⟨w1.heap.size, 0, none⟩) (.inl rfl) _
        exact C6.out.trans ((Chg.of_below (S := FrB (.slice (some ⟨g, o, none⟩) (L + 1) cap) (vss.set L [v1, u])) b35).trans hch (fun _ _ e => e)) (fun b hb e => by
          rcases N6.out b e with e2 | e2
          · exact .inr (.inl e2)
          · omega))
    have HEB := Lib.hid eb
    have c0 := S6.out.cells.1
    have p1 : W.cell? ⟨w.heap.size, 0, none⟩ = some (.slice Ap p.length cp) := R1W.out.cell (k := 0) (by simp)
    clear hi hz0 hsz hbb hra hW3 hlf eb hml hlc hl100 hal bd hbz
    go_upto_region 13 with fail
    go_region_law (first | (refine step_append_run rfl _ _ _ _ rfl _ _ rfl rfl hrun ?_) | (rw [if_pos (by rfl)]; go_simp; go_at_call 98; (with_reducible refine HBG.out.mono ?_); rintro e w4 ⟨gB, rfl, hrg, hgl, hB4⟩; obtain ⟨ao', cap', w6, w9, hrun, ⟨c04, c05⟩, c06, z06, hw9, hST9, hC9, hR9⟩ := HAPP.out w4 gB hrg hgl (below_trans (below_drw (Below.refl _ _)) hB4); have S9 := Lib.hid hST9; have C9 := Lib.hid hC9; have R9 := Lib.hid hR9; clear hST9 hC9 hR9 hrg hgl hB4; go_simp))
    all_goals
      (try simp only [Exit.then])
      obtain ⟨vss9, hS9, hN9⟩ := S9.out
      obtain ⟨c0, c1, c2, c3, c4, _⟩ := hS9.cells
      have m0 := R9.out.cell (k := 0) (by simp)
      have m1 := R9.out.cell (k := 1) (by simp)
      have m2 := R9.out.cell (k := 2) (by simp)
      have m3 := R9.out.cell (k := 3) (by simp)
      have m4 := R9.out.cell (k := 4) (by simp)
      simp only [List.getElem_cons_zero, List.getElem_cons_succ] at m0 m1 m2 m3 m4
      have n0 := R9.out.free 0
      have n1 := R9.out.free 1
      have n2 := R9.out.free 2
      have n3 := R9.out.free 3
      have n4 := R9.out.free 4
      have pz := put5s R9.out rfl (.slice ao' (L + 2) cap') (.int .i64 (s.fuel - 1)) (.slice Ao (s.out.length) co) (.int .i64 (s.done)) (.int .i64 (s.value))
      have EE := Lib.hid pz.1
      have HR := Lib.hid (once_end (s2 := ⟨s.frames.set L F ++ [⟨m, 0, beginL args Lc, []⟩], s.fuel - 1, s.out, s.done, s.value⟩) B03.out (show w.heap.size ≤ w1.heap.size by have := Y.out; omega) (show w.heap.size ≤ w2.heap.size by have := Y.out; omega) (show w2.heap.size < w3.heap.size by have := Y.out; omega) HOLD.out hS9.own (by rw [List.length_append, HLS.out]; rfl) rfl rfl rfl rfl C9.out hN9 pz.2)
      clear pz
      go_wp2_with fail
      exact bodyPost_ret (v := .agg #[.slice ao' (L + 2) cap', .int .i64 (s.fuel - 1), .slice Ao (s.out.length) co, .int .i64 (s.done), .int .i64 (s.value)]) (by simp [results, Tryz.results64, go_sem, EE.out.1, EE.out.2.1, EE.out.2.2.1, EE.out.2.2.2.1, EE.out.2.2.2.2]) rfl (by simp only [onceR]; rw [HEB.out]; exact HR.out)
end Go.Proofs.YtpfgklkdldkajaaGreatDoor

/- 'step.Run' on a state at a place. Conditions: the state is the call's own and may be; the program lies in older memory. -/
import Derived.Test.YtjghibdlmmjobaaGreatDoorGZ21
import Derived.Deep.RegionLaw
import Derived.Deep.RegionWith
import Derived.StillTailTactics
namespace Go.Proofs.YtjghibdlmmjobaaGreatDoor
open Go.RowKit

/-- The state behind a step whose instruction came to X, its frame F. -/
def runX (p : List Fn) (s : Stt) (L : Nat) (F : Frm) (X : Exc) : Stt :=
  if X.kind = 0 then ⟨s.frames.set L F, X.fuel, if X.print = true then s.out ++ [X.value] else s.out, s.done, s.value⟩
  else if X.kind = 1 then ⟨s.frames.set L F ++ [beginF p X.fn X.args], X.fuel, s.out, s.done, s.value⟩
  else if X.kind = 2 then
    if L = 0 then ⟨[], X.fuel, s.out, 1, X.value⟩
    else ⟨((s.frames.set L F).take L).set (L - 1) ⟨(s.frames.getD (L - 1) default).fn, (s.frames.getD (L - 1) default).pc, (s.frames.getD (L - 1) default).locals, (s.frames.getD (L - 1) default).stack ++ [X.value]⟩, X.fuel, s.out, s.done, s.value⟩
  else ⟨[], X.fuel, s.out, outcomeN X.kind, s.value⟩
/-- What X says can be done. -/
def RunOk (p : List Fn) (s : Stt) (L : Nat) (X : Exc) : Prop :=
  (X.kind = 0 ∧ s.out.length ≤ 1000000) ∨ (X.kind = 1 ∧ ∃ m Lc : Nat, X.fn = m ∧ ∃ h : m < p.length, p[m].locals = Lc ∧ Lc ≤ 100 ∧ X.args.length ≤ Lc) ∨ (X.kind = 2 ∧ (s.frames.getD (L - 1) default).stack.length ≤ 1000) ∨ 3 ≤ X.kind

set_option maxRecDepth 100000 in
set_option maxHeartbeats 8000000 in
theorem lrun_any {w W0 : World} {base sb cp g o L cap : Nat} {P : Addr} {p : List Fn} {Ap : Option Addr} {s : Stt} {ov : Value} {vss : List (List Value)} (hS : StAt w base sb s (.slice (some ⟨g, o, none⟩) (L + 1) cap) ov vss) (hb : base ≤ w.heap.size) (hbs : W0.heap.size ≤ base) (hsb : W0.heap.size ≤ sb) (hW : Below W0.heap.size W0 w) (hP : W0.cell? P = some (.slice Ap p.length cp)) (hr : ReadsF W0 Ap p)
    (hv : verifyOf p = 0) (hl : s.frames.length = L + 1) {f : Frm} (hf : s.frames[L] = f) (hfb : frameB p f 0 = true) (h0 : 0 ≤ s.fuel) (h1 : s.fuel ≤ 100000) (hL : L < 12) {F : Frm} (hF' : oneF p f s.fuel (L + 1) = F) {fu : Int}{k pl n v mt : Int} {args : List Int} {pr po : Bool} (hK : RunOk p s L ⟨k, pl, fu, n, args, v, pr, mt, po⟩) (hX : oneX p f s.fuel (L + 1) = ⟨k, pl, fu, n, args, v, pr, mt, po⟩) :
    Calls Tryz.prog 81 #[.pointer (some P), .pointer (some ⟨sb, 0, none⟩)] w (RunE (runX p s L F ⟨k, pl, fu, n, args, v, pr, mt, po⟩) base sb (.slice (some ⟨g, o, none⟩) (L + 1) cap) ov vss w) := by
  obtain ⟨v1, v2, hk', ev, hF⟩ := OwnFr.fat hS.own.fr (k := L) (by omega)
  rw [hf] at hF
  have H := Lib.hid (show ∀ W, Below w.heap.size w W → Calls Tryz.prog 129 #[.pointer (some P), .pointer (some ⟨g, o + L * 4, none⟩), .int .i64 s.fuel, .int .i64 ((L : Int) + 1)] W (OneE F ⟨k, pl, fu, n, args, v, pr, mt, po⟩ (oneJ p f s.fuel) base g (o + L * 4) v1 v2 W) from fun W hB => by
    rw [← hF', ← hX]
    exact one_any (hF.below hB) (Nat.le_trans hb hB.size) hbs (below_trans hW hB) hP hr hv hfb h0 h1 (L + 1))
  obtain ⟨J, hJ⟩ : ∃ J, oneJ p f s.fuel = J := ⟨_, rfl⟩
  rw [hJ] at H
  have row := hS.row
  obtain ⟨c0, c1, c2, c3, c4, _⟩ := hS.cells
  have hw1 : IntKind.i64.wrap ((L + 1 : Nat) - 1 : Int) = L := by rw [IntKind.wrap_i64]; omega
  have hw2 : IntKind.i64.wrap ((L : Int) + 1 - 1) = L := by rw [IntKind.wrap_i64]; omega
  have hw3 : IntKind.i64.wrap (L : Int) = L := by rw [IntKind.wrap_i64]; omega
  have hi1 : (L : Int) < (L : Int) + 1 := by omega
  have hi2 : (0 : Int) ≤ L := by omega
  have hlm : L + 1 ≤ 9223372036854775807 := by omega
  have hob : ob (.slice (some ⟨g, o, none⟩) (L + 1) cap) = some g := by
    obtain ⟨_, _, eg, _, _, hob, _⟩ := OwnFr.at_ hS.own.fr (k := L) (by omega)
    cases eg; exact hob
  have hsg : sb ≠ g := fun e => hS.ns (FrB.outer (by rw [e]; exact hob))
  have l1 : 0 < vss[L].length := by rw [ev]; simp
  have l2 : 1 < vss[L].length := by rw [ev]; simp
  have hs1 : ob v1 ≠ some sb := fun e => hS.ns (FrB.inner hk' l1 (by simp only [ev, List.getElem_cons_zero]; exact e))
  have hs2 : ob v2 ≠ some sb := fun e => hS.ns (FrB.inner hk' l2 (by simp only [ev, List.getElem_cons_zero, List.getElem_cons_succ]; exact e))
  have HSEP := Lib.hid (And.intro hsg (And.intro hs1 hs2))
  have hne : w.heap.size ≠ sb := fun e => by have := blk_lt hS.row; omega
  have ROW := Lib.hid row
  have HS := Lib.hid hS
  have HFA := Lib.hid hF
  have HEV := Lib.hid ev
  have HK := Lib.hid hk'
  have HL := Lib.hid hl
  have HB := Lib.hid (And.intro hb (And.intro hbs hsb))
  have HW := Lib.hid (And.intro hW (And.intro hP hr))
  have HLL := Lib.hid hL
  have HKK := Lib.hid hK
  clear hS hb hbs hsb hW hP hr hv hf hfb h0 h1 hL l1 l2 hs1 hs2 hsg row c2 c3 c4 hF ev hl hob hF' hX hJ hK
  go_enter Tryz.func81, Tryz.ntmps81
  go_upto_region 1 with fail
  refine wp_region_via (fun a' W => ∃ u : Value, ∃ vA : Option Addr, ∃ vn : Nat, ∃ vc : Nat, ∃ xb : Nat, a' = ⟨#[.pointer (some P), .pointer (some ⟨sb, 0, none⟩), undef, undef, .int .i64 L, .pointer (some ⟨xb, 0, none⟩), .bool J, .pointer (some ⟨sb, 0, none⟩), .pointer (some ⟨sb, 0, none⟩), .pointer (some ⟨sb, 0, none⟩), .slice (some ⟨g, o, none⟩) (L + 1) cap, .int .i64 ((L : Int) + 1), .int .i64 L, .tuple #[.agg #[.int .i64 k, .int .i64 pl, .int .i64 fu, .int .i64 n, .slice vA vn vc, .int .i64 v, .bool pr, .int .i64 mt, .bool po], .bool J], .pointer (some P), .pointer (some ⟨sb, 0, none⟩), .pointer (some ⟨sb, 0, none⟩), .pointer (some ⟨sb, 0, none⟩), .slice (some ⟨g, o, none⟩) (L + 1) cap, .int .i64 L, .pointer (some ⟨g, o + L * 4, none⟩), .pointer (some ⟨sb, 0, none⟩), .pointer (some ⟨sb, 0, none⟩), .pointer (some ⟨sb, 1, none⟩), .int .i64 s.fuel, .pointer (some ⟨sb, 0, none⟩), .pointer (some ⟨sb, 0, none⟩), .pointer (some ⟨sb, 0, none⟩), .slice (some ⟨g, o, none⟩) (L + 1) cap, .int .i64 ((L : Int) + 1), .tuple #[.agg #[.int .i64 k, .int .i64 pl, .int .i64 fu, .int .i64 n, .slice vA vn vc, .int .i64 v, .bool pr, .int .i64 mt, .bool po], .bool J], .agg #[.int .i64 k, .int .i64 pl, .int .i64 fu, .int .i64 n, .slice vA vn vc, .int .i64 v, .bool pr, .int .i64 mt, .bool po], .bool J, undef, undef, undef, undef, undef, undef, undef, undef, undef, undef, undef, undef, undef, undef, undef, undef, undef, undef, undef, undef, undef, undef, undef, undef, undef, undef, undef, undef, undef, undef, undef, undef, undef, undef, undef, undef, undef, undef, undef, undef, undef, undef, undef, undef, undef, undef, undef, undef, undef, undef, undef, undef, undef, undef, undef, undef, undef, undef, undef, undef, undef, undef, undef, undef, undef, undef, undef, undef, undef, undef, undef, undef, undef, undef, undef, undef], []⟩ ∧ RunPh w base g (o + L * 4) F v1 v2 args [.int .i64 k, .int .i64 pl, .int .i64 fu, .int .i64 n, .slice vA vn vc, .int .i64 v, .bool pr, .int .i64 mt, .bool po] true true u (.slice vA vn vc) xb W) (fun Q' hQ' => ?_) ?_
  refine wp_region_inv_n 23 (by kernel_rfl) (by kernel_rfl) (fun lst a' W => ∃ x0 x1 x2 x3 x4 x5 x6 x7 x8 x9 x10 x11 x12 x13 x14 x15 x16 x17 x18 x19 x20 x22 : Value, ∃ u : Value, ∃ vA : Option Addr, ∃ vn : Nat, ∃ vc : Nat, ∃ xb : Nat, lst.size = 23 ∧ a' = ⟨#[.pointer (some P), .pointer (some ⟨sb, 0, none⟩), undef, undef, .int .i64 L, x20, x22, .pointer (some ⟨sb, 0, none⟩), .pointer (some ⟨sb, 0, none⟩), .pointer (some ⟨sb, 0, none⟩), .slice (some ⟨g, o, none⟩) (L + 1) cap, .int .i64 ((L : Int) + 1), .int .i64 L, x17, x0, x1, x2, x3, x4, x5, x6, x7, x8, x9, x10, x11, x12, x13, x14, x15, x16, x18, x19, undef, undef, undef, undef, undef, undef, undef, undef, undef, undef, undef, undef, undef, undef, undef, undef, undef, undef, undef, undef, undef, undef, undef, undef, undef, undef, undef, undef, undef, undef, undef, undef, undef, undef, undef, undef, undef, undef, undef, undef, undef, undef, undef, undef, undef, undef, undef, undef, undef, undef, undef, undef, undef, undef, undef, undef, undef, undef, undef, undef, undef, undef, undef, undef, undef, undef, undef, undef, undef, undef, undef, undef, undef, undef, undef, undef], []⟩ ∧ (lst.getD 0 false = true → x0 = .pointer (some P)) ∧ (lst.getD 1 false = true → x1 = .pointer (some ⟨sb, 0, none⟩)) ∧ (lst.getD 2 false = true → x2 = .pointer (some ⟨sb, 0, none⟩)) ∧ (lst.getD 3 false = true → x3 = .pointer (some ⟨sb, 0, none⟩)) ∧ (lst.getD 4 false = true → x4 = .slice (some ⟨g, o, none⟩) (L + 1) cap) ∧ (lst.getD 5 false = true → x5 = .int .i64 L) ∧ (lst.getD 6 false = true → x6 = .pointer (some ⟨g, o + L * 4, none⟩)) ∧ (lst.getD 7 false = true → x7 = .pointer (some ⟨sb, 0, none⟩)) ∧ (lst.getD 8 false = true → x8 = .pointer (some ⟨sb, 0, none⟩)) ∧ (lst.getD 9 false = true → x9 = .pointer (some ⟨sb, 1, none⟩)) ∧ (lst.getD 10 false = true → x10 = .int .i64 s.fuel) ∧ (lst.getD 11 false = true → x11 = .pointer (some ⟨sb, 0, none⟩)) ∧ (lst.getD 12 false = true → x12 = .pointer (some ⟨sb, 0, none⟩)) ∧ (lst.getD 13 false = true → x13 = .pointer (some ⟨sb, 0, none⟩)) ∧ (lst.getD 14 false = true → x14 = .slice (some ⟨g, o, none⟩) (L + 1) cap) ∧ (lst.getD 15 false = true → x15 = .int .i64 ((L : Int) + 1)) ∧ (lst.getD 16 false = true → x16 = .tuple #[.agg #[.int .i64 k, .int .i64 pl, .int .i64 fu, .int .i64 n, .slice vA vn vc, .int .i64 v, .bool pr, .int .i64 mt, .bool po], .bool J]) ∧ (lst.getD 17 false = true → lst.getD 16 false = true ∧ x17 = .tuple #[.agg #[.int .i64 k, .int .i64 pl, .int .i64 fu, .int .i64 n, .slice vA vn vc, .int .i64 v, .bool pr, .int .i64 mt, .bool po], .bool J]) ∧ (lst.getD 18 false = true → lst.getD 16 false = true ∧ x18 = .agg #[.int .i64 k, .int .i64 pl, .int .i64 fu, .int .i64 n, .slice vA vn vc, .int .i64 v, .bool pr, .int .i64 mt, .bool po]) ∧ (lst.getD 19 false = true → lst.getD 16 false = true ∧ x19 = .bool J) ∧ (lst.getD 20 false = true → x20 = .pointer (some ⟨xb, 0, none⟩)) ∧ (lst.getD 22 false = true → x22 = .bool J) ∧ (lst.getD 21 false = true → lst.getD 16 false = true ∧ lst.getD 20 false = true) ∧ RunPh w base g (o + L * 4) F v1 v2 args (bif lst.getD 21 false then [.int .i64 k, .int .i64 pl, .int .i64 fu, .int .i64 n, .slice vA vn vc, .int .i64 v, .bool pr, .int .i64 mt, .bool po] else [.int .i64 0, .int .i64 0, .int .i64 0, .int .i64 0, .slice none 0 0, .int .i64 0, .bool false, .int .i64 0, .bool false]) (lst.getD 16 false) (lst.getD 20 false) u (.slice vA vn vc) xb W) ?_ ?_ ?_
  · exact ⟨undef, undef, undef, undef, undef, undef, undef, undef, undef, undef, undef, undef, undef, undef, undef, undef, undef, undef, undef, undef, undef, undef, undef, none, 0, 0, 0, rfl, rfl, (fun e => by cases e), (fun e => by cases e), (fun e => by cases e), (fun e => by cases e), (fun e => by cases e), (fun e => by cases e), (fun e => by cases e), (fun e => by cases e), (fun e => by cases e), (fun e => by cases e), (fun e => by cases e), (fun e => by cases e), (fun e => by cases e), (fun e => by cases e), (fun e => by cases e), (fun e => by cases e), (fun e => by cases e), (fun e => by cases e), (fun e => by cases e), (fun e => by cases e), (fun e => by cases e), (fun e => by cases e), (fun e => by cases e), RunPh.start (below_drw (Below.refl _ _))⟩
  rotate_left
  · rintro lst a' W i ⟨x0, x1, x2, x3, x4, x5, x6, x7, x8, x9, x10, x11, x12, x13, x14, x15, x16, x17, x18, x19, x20, x22, u, vA, vn, vc, xb, hsz, rfl, g0, g1, g2, g3, g4, g5, g6, g7, g8, g9, g10, g11, g12, g13, g14, g15, g16, g17, g18, g19, g20, g22, ph⟩ hr
    match i, hr with
    | 0, hr =>
      have hn : lst.getD 0 false = false := ready_no hr
      clear hr
      refine wpOp_step rfl (fun K hK => ?_)
      go_simp
      refine hK _ _ ?_
      refine ⟨_, x1, x2, x3, x4, x5, x6, x7, x8, x9, x10, x11, x12, x13, x14, x15, x16, x17, x18, x19, x20, x22, u, vA, vn, vc, xb, (by simpa using hsz), rfl, (fun _ => rfl), (fun e => g1 (set_back (by decide) e)), (fun e => g2 (set_back (by decide) e)), (fun e => g3 (set_back (by decide) e)), (fun e => g4 (set_back (by decide) e)), (fun e => g5 (set_back (by decide) e)), (fun e => g6 (set_back (by decide) e)), (fun e => g7 (set_back (by decide) e)), (fun e => g8 (set_back (by decide) e)), (fun e => g9 (set_back (by decide) e)), (fun e => g10 (set_back (by decide) e)), (fun e => g11 (set_back (by decide) e)), (fun e => g12 (set_back (by decide) e)), (fun e => g13 (set_back (by decide) e)), (fun e => g14 (set_back (by decide) e)), (fun e => g15 (set_back (by decide) e)), (fun e => g16 (set_back (by decide) e)), (fun e => ⟨getD_set_true (g17 (set_back (by decide) e)).1, (g17 (set_back (by decide) e)).2⟩), (fun e => ⟨getD_set_true (g18 (set_back (by decide) e)).1, (g18 (set_back (by decide) e)).2⟩), (fun e => ⟨getD_set_true (g19 (set_back (by decide) e)).1, (g19 (set_back (by decide) e)).2⟩), (fun e => g20 (set_back (by decide) e)), (fun e => g22 (set_back (by decide) e)), ?_⟩
      rw [getD_set_ne false (show 0 ≠ 16 by decide), getD_set_ne false (show 0 ≠ 20 by decide), getD_set_ne false (show 0 ≠ 21 by decide)]
      exact ph
    | 1, hr =>
      have hn : lst.getD 1 false = false := ready_no hr
      clear hr
      refine wpOp_step rfl (fun K hK => ?_)
      go_simp
      refine hK _ _ ?_
      refine ⟨x0, _, x2, x3, x4, x5, x6, x7, x8, x9, x10, x11, x12, x13, x14, x15, x16, x17, x18, x19, x20, x22, u, vA, vn, vc, xb, (by simpa using hsz), rfl, (fun e => g0 (set_back (by decide) e)), (fun _ => rfl), (fun e => g2 (set_back (by decide) e)), (fun e => g3 (set_back (by decide) e)), (fun e => g4 (set_back (by decide) e)), (fun e => g5 (set_back (by decide) e)), (fun e => g6 (set_back (by decide) e)), (fun e => g7 (set_back (by decide) e)), (fun e => g8 (set_back (by decide) e)), (fun e => g9 (set_back (by decide) e)), (fun e => g10 (set_back (by decide) e)), (fun e => g11 (set_back (by decide) e)), (fun e => g12 (set_back (by decide) e)), (fun e => g13 (set_back (by decide) e)), (fun e => g14 (set_back (by decide) e)), (fun e => g15 (set_back (by decide) e)), (fun e => g16 (set_back (by decide) e)), (fun e => ⟨getD_set_true (g17 (set_back (by decide) e)).1, (g17 (set_back (by decide) e)).2⟩), (fun e => ⟨getD_set_true (g18 (set_back (by decide) e)).1, (g18 (set_back (by decide) e)).2⟩), (fun e => ⟨getD_set_true (g19 (set_back (by decide) e)).1, (g19 (set_back (by decide) e)).2⟩), (fun e => g20 (set_back (by decide) e)), (fun e => g22 (set_back (by decide) e)), ?_⟩
      rw [getD_set_ne false (show 1 ≠ 16 by decide), getD_set_ne false (show 1 ≠ 20 by decide), getD_set_ne false (show 1 ≠ 21 by decide)]
      exact ph
    | 2, hr =>
      have hn : lst.getD 2 false = false := ready_no hr
      have f1 : lst.getD 1 false = true := ready_needs hr (by kernel_rfl)
      obtain rfl := g1 f1
      clear hr
      refine wpOp_step rfl (fun K hK => ?_)
      go_simp
      refine hK _ _ ?_
      refine ⟨x0, _, _, x3, x4, x5, x6, x7, x8, x9, x10, x11, x12, x13, x14, x15, x16, x17, x18, x19, x20, x22, u, vA, vn, vc, xb, (by simpa using hsz), rfl, (fun e => g0 (set_back (by decide) e)), (fun _ => rfl), (fun _ => rfl), (fun e => g3 (set_back (by decide) e)), (fun e => g4 (set_back (by decide) e)), (fun e => g5 (set_back (by decide) e)), (fun e => g6 (set_back (by decide) e)), (fun e => g7 (set_back (by decide) e)), (fun e => g8 (set_back (by decide) e)), (fun e => g9 (set_back (by decide) e)), (fun e => g10 (set_back (by decide) e)), (fun e => g11 (set_back (by decide) e)), (fun e => g12 (set_back (by decide) e)), (fun e => g13 (set_back (by decide) e)), (fun e => g14 (set_back (by decide) e)), (fun e => g15 (set_back (by decide) e)), (fun e => g16 (set_back (by decide) e)), (fun e => ⟨getD_set_true (g17 (set_back (by decide) e)).1, (g17 (set_back (by decide) e)).2⟩), (fun e => ⟨getD_set_true (g18 (set_back (by decide) e)).1, (g18 (set_back (by decide) e)).2⟩), (fun e => ⟨getD_set_true (g19 (set_back (by decide) e)).1, (g19 (set_back (by decide) e)).2⟩), (fun e => g20 (set_back (by decide) e)), (fun e => g22 (set_back (by decide) e)), ?_⟩
      rw [getD_set_ne false (show 2 ≠ 16 by decide), getD_set_ne false (show 2 ≠ 20 by decide), getD_set_ne false (show 2 ≠ 21 by decide)]
      exact ph
    | 3, hr =>
      have hn : lst.getD 3 false = false := ready_no hr
      have f2 : lst.getD 2 false = true := ready_needs hr (by kernel_rfl)
      obtain rfl := g2 f2
      clear hr
      refine wpOp_step rfl (fun K hK => ?_)
      go_simp
      refine hK _ _ ?_
      refine ⟨x0, x1, _, _, x4, x5, x6, x7, x8, x9, x10, x11, x12, x13, x14, x15, x16, x17, x18, x19, x20, x22, u, vA, vn, vc, xb, (by simpa using hsz), rfl, (fun e => g0 (set_back (by decide) e)), (fun e => g1 (set_back (by decide) e)), (fun _ => rfl), (fun _ => rfl), (fun e => g4 (set_back (by decide) e)), (fun e => g5 (set_back (by decide) e)), (fun e => g6 (set_back (by decide) e)), (fun e => g7 (set_back (by decide) e)), (fun e => g8 (set_back (by decide) e)), (fun e => g9 (set_back (by decide) e)), (fun e => g10 (set_back (by decide) e)), (fun e => g11 (set_back (by decide) e)), (fun e => g12 (set_back (by decide) e)), (fun e => g13 (set_back (by decide) e)), (fun e => g14 (set_back (by decide) e)), (fun e => g15 (set_back (by decide) e)), (fun e => g16 (set_back (by decide) e)), (fun e => ⟨getD_set_true (g17 (set_back (by decide) e)).1, (g17 (set_back (by decide) e)).2⟩), (fun e => ⟨getD_set_true (g18 (set_back (by decide) e)).1, (g18 (set_back (by decide) e)).2⟩), (fun e => ⟨getD_set_true (g19 (set_back (by decide) e)).1, (g19 (set_back (by decide) e)).2⟩), (fun e => g20 (set_back (by decide) e)), (fun e => g22 (set_back (by decide) e)), ?_⟩
      rw [getD_set_ne false (show 3 ≠ 16 by decide), getD_set_ne false (show 3 ≠ 20 by decide), getD_set_ne false (show 3 ≠ 21 by decide)]
      exact ph
    | 4, hr =>
      have hn : lst.getD 4 false = false := ready_no hr
      have f3 : lst.getD 3 false = true := ready_needs hr (by kernel_rfl)
      obtain rfl := g3 f3
      have rS := RunPh.row ph.2 ROW.out HSEP.out.1 HSEP.out.2.1 HSEP.out.2.2
      have q0 : W.cell? ⟨sb, 0, none⟩ = some (.slice (some ⟨g, o, none⟩) (L + 1) cap) := rS.cell (k := 0) (by simp [sttC])
      clear rS
      clear hr
      refine wpOp_step rfl (fun K hK => ?_)
      go_simp
      refine hK _ _ ?_
      refine ⟨x0, x1, x2, _, _, x5, x6, x7, x8, x9, x10, x11, x12, x13, x14, x15, x16, x17, x18, x19, x20, x22, u, vA, vn, vc, xb, (by simpa using hsz), rfl, (fun e => g0 (set_back (by decide) e)), (fun e => g1 (set_back (by decide) e)), (fun e => g2 (set_back (by decide) e)), (fun _ => rfl), (fun _ => rfl), (fun e => g5 (set_back (by decide) e)), (fun e => g6 (set_back (by decide) e)), (fun e => g7 (set_back (by decide) e)), (fun e => g8 (set_back (by decide) e)), (fun e => g9 (set_back (by decide) e)), (fun e => g10 (set_back (by decide) e)), (fun e => g11 (set_back (by decide) e)), (fun e => g12 (set_back (by decide) e)), (fun e => g13 (set_back (by decide) e)), (fun e => g14 (set_back (by decide) e)), (fun e => g15 (set_back (by decide) e)), (fun e => g16 (set_back (by decide) e)), (fun e => ⟨getD_set_true (g17 (set_back (by decide) e)).1, (g17 (set_back (by decide) e)).2⟩), (fun e => ⟨getD_set_true (g18 (set_back (by decide) e)).1, (g18 (set_back (by decide) e)).2⟩), (fun e => ⟨getD_set_true (g19 (set_back (by decide) e)).1, (g19 (set_back (by decide) e)).2⟩), (fun e => g20 (set_back (by decide) e)), (fun e => g22 (set_back (by decide) e)), ?_⟩
      rw [getD_set_ne false (show 4 ≠ 16 by decide), getD_set_ne false (show 4 ≠ 20 by decide), getD_set_ne false (show 4 ≠ 21 by decide)]
      exact ph
    | 5, hr =>
      have hn : lst.getD 5 false = false := ready_no hr
      clear hr
      refine wpOp_step rfl (fun K hK => ?_)
      go_simp
      refine hK _ _ ?_
      refine ⟨x0, x1, x2, x3, x4, _, x6, x7, x8, x9, x10, x11, x12, x13, x14, x15, x16, x17, x18, x19, x20, x22, u, vA, vn, vc, xb, (by simpa using hsz), rfl, (fun e => g0 (set_back (by decide) e)), (fun e => g1 (set_back (by decide) e)), (fun e => g2 (set_back (by decide) e)), (fun e => g3 (set_back (by decide) e)), (fun e => g4 (set_back (by decide) e)), (fun _ => rfl), (fun e => g6 (set_back (by decide) e)), (fun e => g7 (set_back (by decide) e)), (fun e => g8 (set_back (by decide) e)), (fun e => g9 (set_back (by decide) e)), (fun e => g10 (set_back (by decide) e)), (fun e => g11 (set_back (by decide) e)), (fun e => g12 (set_back (by decide) e)), (fun e => g13 (set_back (by decide) e)), (fun e => g14 (set_back (by decide) e)), (fun e => g15 (set_back (by decide) e)), (fun e => g16 (set_back (by decide) e)), (fun e => ⟨getD_set_true (g17 (set_back (by decide) e)).1, (g17 (set_back (by decide) e)).2⟩), (fun e => ⟨getD_set_true (g18 (set_back (by decide) e)).1, (g18 (set_back (by decide) e)).2⟩), (fun e => ⟨getD_set_true (g19 (set_back (by decide) e)).1, (g19 (set_back (by decide) e)).2⟩), (fun e => g20 (set_back (by decide) e)), (fun e => g22 (set_back (by decide) e)), ?_⟩
      rw [getD_set_ne false (show 5 ≠ 16 by decide), getD_set_ne false (show 5 ≠ 20 by decide), getD_set_ne false (show 5 ≠ 21 by decide)]
      exact ph
    | 6, hr =>
      have hn : lst.getD 6 false = false := ready_no hr
      have f4 : lst.getD 4 false = true := ready_needs hr (by kernel_rfl)
      obtain rfl := g4 f4
      have f5 : lst.getD 5 false = true := ready_needs hr (by kernel_rfl)
      obtain rfl := g5 f5
      clear hr
      refine wpOp_step rfl (fun K hK => ?_)
      go_simp
      refine hK _ _ ?_
      refine ⟨x0, x1, x2, x3, _, _, _, x7, x8, x9, x10, x11, x12, x13, x14, x15, x16, x17, x18, x19, x20, x22, u, vA, vn, vc, xb, (by simpa using hsz), rfl, (fun e => g0 (set_back (by decide) e)), (fun e => g1 (set_back (by decide) e)), (fun e => g2 (set_back (by decide) e)), (fun e => g3 (set_back (by decide) e)), (fun _ => rfl), (fun _ => rfl), (fun _ => rfl), (fun e => g7 (set_back (by decide) e)), (fun e => g8 (set_back (by decide) e)), (fun e => g9 (set_back (by decide) e)), (fun e => g10 (set_back (by decide) e)), (fun e => g11 (set_back (by decide) e)), (fun e => g12 (set_back (by decide) e)), (fun e => g13 (set_back (by decide) e)), (fun e => g14 (set_back (by decide) e)), (fun e => g15 (set_back (by decide) e)), (fun e => g16 (set_back (by decide) e)), (fun e => ⟨getD_set_true (g17 (set_back (by decide) e)).1, (g17 (set_back (by decide) e)).2⟩), (fun e => ⟨getD_set_true (g18 (set_back (by decide) e)).1, (g18 (set_back (by decide) e)).2⟩), (fun e => ⟨getD_set_true (g19 (set_back (by decide) e)).1, (g19 (set_back (by decide) e)).2⟩), (fun e => g20 (set_back (by decide) e)), (fun e => g22 (set_back (by decide) e)), ?_⟩
      rw [getD_set_ne false (show 6 ≠ 16 by decide), getD_set_ne false (show 6 ≠ 20 by decide), getD_set_ne false (show 6 ≠ 21 by decide)]
      exact ph
    | 7, hr =>
      have hn : lst.getD 7 false = false := ready_no hr
      clear hr
      refine wpOp_step rfl (fun K hK => ?_)
      go_simp
      refine hK _ _ ?_
      refine ⟨x0, x1, x2, x3, x4, x5, x6, _, x8, x9, x10, x11, x12, x13, x14, x15, x16, x17, x18, x19, x20, x22, u, vA, vn, vc, xb, (by simpa using hsz), rfl, (fun e => g0 (set_back (by decide) e)), (fun e => g1 (set_back (by decide) e)), (fun e => g2 (set_back (by decide) e)), (fun e => g3 (set_back (by decide) e)), (fun e => g4 (set_back (by decide) e)), (fun e => g5 (set_back (by decide) e)), (fun e => g6 (set_back (by decide) e)), (fun _ => rfl), (fun e => g8 (set_back (by decide) e)), (fun e => g9 (set_back (by decide) e)), (fun e => g10 (set_back (by decide) e)), (fun e => g11 (set_back (by decide) e)), (fun e => g12 (set_back (by decide) e)), (fun e => g13 (set_back (by decide) e)), (fun e => g14 (set_back (by decide) e)), (fun e => g15 (set_back (by decide) e)), (fun e => g16 (set_back (by decide) e)), (fun e => ⟨getD_set_true (g17 (set_back (by decide) e)).1, (g17 (set_back (by decide) e)).2⟩), (fun e => ⟨getD_set_true (g18 (set_back (by decide) e)).1, (g18 (set_back (by decide) e)).2⟩), (fun e => ⟨getD_set_true (g19 (set_back (by decide) e)).1, (g19 (set_back (by decide) e)).2⟩), (fun e => g20 (set_back (by decide) e)), (fun e => g22 (set_back (by decide) e)), ?_⟩
      rw [getD_set_ne false (show 7 ≠ 16 by decide), getD_set_ne false (show 7 ≠ 20 by decide), getD_set_ne false (show 7 ≠ 21 by decide)]
      exact ph
    | 8, hr =>
      have hn : lst.getD 8 false = false := ready_no hr
      have f7 : lst.getD 7 false = true := ready_needs hr (by kernel_rfl)
      obtain rfl := g7 f7
      clear hr
      refine wpOp_step rfl (fun K hK => ?_)
      go_simp
      refine hK _ _ ?_
      refine ⟨x0, x1, x2, x3, x4, x5, x6, _, _, x9, x10, x11, x12, x13, x14, x15, x16, x17, x18, x19, x20, x22, u, vA, vn, vc, xb, (by simpa using hsz), rfl, (fun e => g0 (set_back (by decide) e)), (fun e => g1 (set_back (by decide) e)), (fun e => g2 (set_back (by decide) e)), (fun e => g3 (set_back (by decide) e)), (fun e => g4 (set_back (by decide) e)), (fun e => g5 (set_back (by decide) e)), (fun e => g6 (set_back (by decide) e)), (fun _ => rfl), (fun _ => rfl), (fun e => g9 (set_back (by decide) e)), (fun e => g10 (set_back (by decide) e)), (fun e => g11 (set_back (by decide) e)), (fun e => g12 (set_back (by decide) e)), (fun e => g13 (set_back (by decide) e)), (fun e => g14 (set_back (by decide) e)), (fun e => g15 (set_back (by decide) e)), (fun e => g16 (set_back (by decide) e)), (fun e => ⟨getD_set_true (g17 (set_back (by decide) e)).1, (g17 (set_back (by decide) e)).2⟩), (fun e => ⟨getD_set_true (g18 (set_back (by decide) e)).1, (g18 (set_back (by decide) e)).2⟩), (fun e => ⟨getD_set_true (g19 (set_back (by decide) e)).1, (g19 (set_back (by decide) e)).2⟩), (fun e => g20 (set_back (by decide) e)), (fun e => g22 (set_back (by decide) e)), ?_⟩
      rw [getD_set_ne false (show 8 ≠ 16 by decide), getD_set_ne false (show 8 ≠ 20 by decide), getD_set_ne false (show 8 ≠ 21 by decide)]
      exact ph
    | 9, hr =>
      have hn : lst.getD 9 false = false := ready_no hr
      have f8 : lst.getD 8 false = true := ready_needs hr (by kernel_rfl)
      obtain rfl := g8 f8
      clear hr
      refine wpOp_step rfl (fun K hK => ?_)
      go_simp
      refine hK _ _ ?_
      refine ⟨x0, x1, x2, x3, x4, x5, x6, x7, _, _, x10, x11, x12, x13, x14, x15, x16, x17, x18, x19, x20, x22, u, vA, vn, vc, xb, (by simpa using hsz), rfl, (fun e => g0 (set_back (by decide) e)), (fun e => g1 (set_back (by decide) e)), (fun e => g2 (set_back (by decide) e)), (fun e => g3 (set_back (by decide) e)), (fun e => g4 (set_back (by decide) e)), (fun e => g5 (set_back (by decide) e)), (fun e => g6 (set_back (by decide) e)), (fun e => g7 (set_back (by decide) e)), (fun _ => rfl), (fun _ => rfl), (fun e => g10 (set_back (by decide) e)), (fun e => g11 (set_back (by decide) e)), (fun e => g12 (set_back (by decide) e)), (fun e => g13 (set_back (by decide) e)), (fun e => g14 (set_back (by decide) e)), (fun e => g15 (set_back (by decide) e)), (fun e => g16 (set_back (by decide) e)), (fun e => ⟨getD_set_true (g17 (set_back (by decide) e)).1, (g17 (set_back (by decide) e)).2⟩), (fun e => ⟨getD_set_true (g18 (set_back (by decide) e)).1, (g18 (set_back (by decide) e)).2⟩), (fun e => ⟨getD_set_true (g19 (set_back (by decide) e)).1, (g19 (set_back (by decide) e)).2⟩), (fun e => g20 (set_back (by decide) e)), (fun e => g22 (set_back (by decide) e)), ?_⟩
      rw [getD_set_ne false (show 9 ≠ 16 by decide), getD_set_ne false (show 9 ≠ 20 by decide), getD_set_ne false (show 9 ≠ 21 by decide)]
      exact ph
    | 10, hr =>
      have hn : lst.getD 10 false = false := ready_no hr
      have f9 : lst.getD 9 false = true := ready_needs hr (by kernel_rfl)
      obtain rfl := g9 f9
      have rS := RunPh.row ph.2 ROW.out HSEP.out.1 HSEP.out.2.1 HSEP.out.2.2
      have q0 : W.cell? ⟨sb, 1, none⟩ = some (.int .i64 s.fuel) := rS.cell (k := 1) (by simp [sttC])
      clear rS
      clear hr
      refine wpOp_step rfl (fun K hK => ?_)
      go_simp
      refine hK _ _ ?_
      refine ⟨x0, x1, x2, x3, x4, x5, x6, x7, x8, _, _, x11, x12, x13, x14, x15, x16, x17, x18, x19, x20, x22, u, vA, vn, vc, xb, (by simpa using hsz), rfl, (fun e => g0 (set_back (by decide) e)), (fun e => g1 (set_back (by decide) e)), (fun e => g2 (set_back (by decide) e)), (fun e => g3 (set_back (by decide) e)), (fun e => g4 (set_back (by decide) e)), (fun e => g5 (set_back (by decide) e)), (fun e => g6 (set_back (by decide) e)), (fun e => g7 (set_back (by decide) e)), (fun e => g8 (set_back (by decide) e)), (fun _ => rfl), (fun _ => rfl), (fun e => g11 (set_back (by decide) e)), (fun e => g12 (set_back (by decide) e)), (fun e => g13 (set_back (by decide) e)), (fun e => g14 (set_back (by decide) e)), (fun e => g15 (set_back (by decide) e)), (fun e => g16 (set_back (by decide) e)), (fun e => ⟨getD_set_true (g17 (set_back (by decide) e)).1, (g17 (set_back (by decide) e)).2⟩), (fun e => ⟨getD_set_true (g18 (set_back (by decide) e)).1, (g18 (set_back (by decide) e)).2⟩), (fun e => ⟨getD_set_true (g19 (set_back (by decide) e)).1, (g19 (set_back (by decide) e)).2⟩), (fun e => g20 (set_back (by decide) e)), (fun e => g22 (set_back (by decide) e)), ?_⟩
      rw [getD_set_ne false (show 10 ≠ 16 by decide), getD_set_ne false (show 10 ≠ 20 by decide), getD_set_ne false (show 10 ≠ 21 by decide)]
      exact ph
    | 11, hr =>
      have hn : lst.getD 11 false = false := ready_no hr
      clear hr
      refine wpOp_step rfl (fun K hK => ?_)
      go_simp
      refine hK _ _ ?_
      refine ⟨x0, x1, x2, x3, x4, x5, x6, x7, x8, x9, x10, _, x12, x13, x14, x15, x16, x17, x18, x19, x20, x22, u, vA, vn, vc, xb, (by simpa using hsz), rfl, (fun e => g0 (set_back (by decide) e)), (fun e => g1 (set_back (by decide) e)), (fun e => g2 (set_back (by decide) e)), (fun e => g3 (set_back (by decide) e)), (fun e => g4 (set_back (by decide) e)), (fun e => g5 (set_back (by decide) e)), (fun e => g6 (set_back (by decide) e)), (fun e => g7 (set_back (by decide) e)), (fun e => g8 (set_back (by decide) e)), (fun e => g9 (set_back (by decide) e)), (fun e => g10 (set_back (by decide) e)), (fun _ => rfl), (fun e => g12 (set_back (by decide) e)), (fun e => g13 (set_back (by decide) e)), (fun e => g14 (set_back (by decide) e)), (fun e => g15 (set_back (by decide) e)), (fun e => g16 (set_back (by decide) e)), (fun e => ⟨getD_set_true (g17 (set_back (by decide) e)).1, (g17 (set_back (by decide) e)).2⟩), (fun e => ⟨getD_set_true (g18 (set_back (by decide) e)).1, (g18 (set_back (by decide) e)).2⟩), (fun e => ⟨getD_set_true (g19 (set_back (by decide) e)).1, (g19 (set_back (by decide) e)).2⟩), (fun e => g20 (set_back (by decide) e)), (fun e => g22 (set_back (by decide) e)), ?_⟩
      rw [getD_set_ne false (show 11 ≠ 16 by decide), getD_set_ne false (show 11 ≠ 20 by decide), getD_set_ne false (show 11 ≠ 21 by decide)]
      exact ph
    | 12, hr =>
      have hn : lst.getD 12 false = false := ready_no hr
      have f11 : lst.getD 11 false = true := ready_needs hr (by kernel_rfl)
      obtain rfl := g11 f11
      clear hr
      refine wpOp_step rfl (fun K hK => ?_)
      go_simp
      refine hK _ _ ?_
      refine ⟨x0, x1, x2, x3, x4, x5, x6, x7, x8, x9, x10, _, _, x13, x14, x15, x16, x17, x18, x19, x20, x22, u, vA, vn, vc, xb, (by simpa using hsz), rfl, (fun e => g0 (set_back (by decide) e)), (fun e => g1 (set_back (by decide) e)), (fun e => g2 (set_back (by decide) e)), (fun e => g3 (set_back (by decide) e)), (fun e => g4 (set_back (by decide) e)), (fun e => g5 (set_back (by decide) e)), (fun e => g6 (set_back (by decide) e)), (fun e => g7 (set_back (by decide) e)), (fun e => g8 (set_back (by decide) e)), (fun e => g9 (set_back (by decide) e)), (fun e => g10 (set_back (by decide) e)), (fun _ => rfl), (fun _ => rfl), (fun e => g13 (set_back (by decide) e)), (fun e => g14 (set_back (by decide) e)), (fun e => g15 (set_back (by decide) e)), (fun e => g16 (set_back (by decide) e)), (fun e => ⟨getD_set_true (g17 (set_back (by decide) e)).1, (g17 (set_back (by decide) e)).2⟩), (fun e => ⟨getD_set_true (g18 (set_back (by decide) e)).1, (g18 (set_back (by decide) e)).2⟩), (fun e => ⟨getD_set_true (g19 (set_back (by decide) e)).1, (g19 (set_back (by decide) e)).2⟩), (fun e => g20 (set_back (by decide) e)), (fun e => g22 (set_back (by decide) e)), ?_⟩
      rw [getD_set_ne false (show 12 ≠ 16 by decide), getD_set_ne false (show 12 ≠ 20 by decide), getD_set_ne false (show 12 ≠ 21 by decide)]
      exact ph
    | 13, hr =>
      have hn : lst.getD 13 false = false := ready_no hr
      have f12 : lst.getD 12 false = true := ready_needs hr (by kernel_rfl)
      obtain rfl := g12 f12
      clear hr
      refine wpOp_step rfl (fun K hK => ?_)
      go_simp
      refine hK _ _ ?_
      refine ⟨x0, x1, x2, x3, x4, x5, x6, x7, x8, x9, x10, x11, _, _, x14, x15, x16, x17, x18, x19, x20, x22, u, vA, vn, vc, xb, (by simpa using hsz), rfl, (fun e => g0 (set_back (by decide) e)), (fun e => g1 (set_back (by decide) e)), (fun e => g2 (set_back (by decide) e)), (fun e => g3 (set_back (by decide) e)), (fun e => g4 (set_back (by decide) e)), (fun e => g5 (set_back (by decide) e)), (fun e => g6 (set_back (by decide) e)), (fun e => g7 (set_back (by decide) e)), (fun e => g8 (set_back (by decide) e)), (fun e => g9 (set_back (by decide) e)), (fun e => g10 (set_back (by decide) e)), (fun e => g11 (set_back (by decide) e)), (fun _ => rfl), (fun _ => rfl), (fun e => g14 (set_back (by decide) e)), (fun e => g15 (set_back (by decide) e)), (fun e => g16 (set_back (by decide) e)), (fun e => ⟨getD_set_true (g17 (set_back (by decide) e)).1, (g17 (set_back (by decide) e)).2⟩), (fun e => ⟨getD_set_true (g18 (set_back (by decide) e)).1, (g18 (set_back (by decide) e)).2⟩), (fun e => ⟨getD_set_true (g19 (set_back (by decide) e)).1, (g19 (set_back (by decide) e)).2⟩), (fun e => g20 (set_back (by decide) e)), (fun e => g22 (set_back (by decide) e)), ?_⟩
      rw [getD_set_ne false (show 13 ≠ 16 by decide), getD_set_ne false (show 13 ≠ 20 by decide), getD_set_ne false (show 13 ≠ 21 by decide)]
      exact ph
    | 14, hr =>
      have hn : lst.getD 14 false = false := ready_no hr
      have f13 : lst.getD 13 false = true := ready_needs hr (by kernel_rfl)
      obtain rfl := g13 f13
      have rS := RunPh.row ph.2 ROW.out HSEP.out.1 HSEP.out.2.1 HSEP.out.2.2
      have q0 : W.cell? ⟨sb, 0, none⟩ = some (.slice (some ⟨g, o, none⟩) (L + 1) cap) := rS.cell (k := 0) (by simp [sttC])
      clear rS
      clear hr
      refine wpOp_step rfl (fun K hK => ?_)
      go_simp
      refine hK _ _ ?_
      refine ⟨x0, x1, x2, x3, x4, x5, x6, x7, x8, x9, x10, x11, x12, _, _, x15, x16, x17, x18, x19, x20, x22, u, vA, vn, vc, xb, (by simpa using hsz), rfl, (fun e => g0 (set_back (by decide) e)), (fun e => g1 (set_back (by decide) e)), (fun e => g2 (set_back (by decide) e)), (fun e => g3 (set_back (by decide) e)), (fun e => g4 (set_back (by decide) e)), (fun e => g5 (set_back (by decide) e)), (fun e => g6 (set_back (by decide) e)), (fun e => g7 (set_back (by decide) e)), (fun e => g8 (set_back (by decide) e)), (fun e => g9 (set_back (by decide) e)), (fun e => g10 (set_back (by decide) e)), (fun e => g11 (set_back (by decide) e)), (fun e => g12 (set_back (by decide) e)), (fun _ => rfl), (fun _ => rfl), (fun e => g15 (set_back (by decide) e)), (fun e => g16 (set_back (by decide) e)), (fun e => ⟨getD_set_true (g17 (set_back (by decide) e)).1, (g17 (set_back (by decide) e)).2⟩), (fun e => ⟨getD_set_true (g18 (set_back (by decide) e)).1, (g18 (set_back (by decide) e)).2⟩), (fun e => ⟨getD_set_true (g19 (set_back (by decide) e)).1, (g19 (set_back (by decide) e)).2⟩), (fun e => g20 (set_back (by decide) e)), (fun e => g22 (set_back (by decide) e)), ?_⟩
      rw [getD_set_ne false (show 14 ≠ 16 by decide), getD_set_ne false (show 14 ≠ 20 by decide), getD_set_ne false (show 14 ≠ 21 by decide)]
      exact ph
    | 15, hr =>
      have hn : lst.getD 15 false = false := ready_no hr
      have f14 : lst.getD 14 false = true := ready_needs hr (by kernel_rfl)
      obtain rfl := g14 f14
      clear hr
      refine wpOp_step rfl (fun K hK => ?_)
      go_simp
      refine hK _ _ ?_
      refine ⟨x0, x1, x2, x3, x4, x5, x6, x7, x8, x9, x10, x11, x12, x13, _, _, x16, x17, x18, x19, x20, x22, u, vA, vn, vc, xb, (by simpa using hsz), rfl, (fun e => g0 (set_back (by decide) e)), (fun e => g1 (set_back (by decide) e)), (fun e => g2 (set_back (by decide) e)), (fun e => g3 (set_back (by decide) e)), (fun e => g4 (set_back (by decide) e)), (fun e => g5 (set_back (by decide) e)), (fun e => g6 (set_back (by decide) e)), (fun e => g7 (set_back (by decide) e)), (fun e => g8 (set_back (by decide) e)), (fun e => g9 (set_back (by decide) e)), (fun e => g10 (set_back (by decide) e)), (fun e => g11 (set_back (by decide) e)), (fun e => g12 (set_back (by decide) e)), (fun e => g13 (set_back (by decide) e)), (fun _ => rfl), (fun _ => rfl), (fun e => g16 (set_back (by decide) e)), (fun e => ⟨getD_set_true (g17 (set_back (by decide) e)).1, (g17 (set_back (by decide) e)).2⟩), (fun e => ⟨getD_set_true (g18 (set_back (by decide) e)).1, (g18 (set_back (by decide) e)).2⟩), (fun e => ⟨getD_set_true (g19 (set_back (by decide) e)).1, (g19 (set_back (by decide) e)).2⟩), (fun e => g20 (set_back (by decide) e)), (fun e => g22 (set_back (by decide) e)), ?_⟩
      rw [getD_set_ne false (show 15 ≠ 16 by decide), getD_set_ne false (show 15 ≠ 20 by decide), getD_set_ne false (show 15 ≠ 21 by decide)]
      exact ph
    | 16, hr =>
      have hn : lst.getD 16 false = false := ready_no hr
      have f0 : lst.getD 0 false = true := ready_needs hr (by kernel_rfl)
      obtain rfl := g0 f0
      have f6 : lst.getD 6 false = true := ready_needs hr (by kernel_rfl)
      obtain rfl := g6 f6
      have f10 : lst.getD 10 false = true := ready_needs hr (by kernel_rfl)
      obtain rfl := g10 f10
      have f15 : lst.getD 15 false = true := ready_needs hr (by kernel_rfl)
      obtain rfl := g15 f15
      rw [hn] at ph
      have hBW := ph.2.1 rfl
      have h21 : lst.getD 21 false = false := by
        cases hb : lst.getD 21 false with
        | false => rfl
        | true => cases (ph.1 hb).1
      rw [h21] at ph
      clear hr
      refine wpOp_step rfl (fun K hK => ?_)
      go_simp
      (with_reducible refine (H.out _ hBW).mono ?_)
      rintro e w1 ⟨u', va', rfl, hT, hI, hD⟩
      obtain ⟨vA', vc', eva, _⟩ := CRow.shape hI
      obtain ⟨vn', eva'⟩ : ∃ vn', va' = .slice vA' vn' vc' := ⟨_, eva⟩
      clear eva
      subst eva'
      have hJ2 := RunPh.call ph.2 HFA.out hT hI hD
      clear hT hI hD hBW
      go_simp
      refine hK _ _ ?_
      refine ⟨_, x1, x2, x3, x4, x5, _, x7, x8, x9, _, x11, x12, x13, x14, _, _, x17, x18, x19, x20, x22, u', vA', vn', vc', xb, (by simpa using hsz), rfl, (fun _ => rfl), (fun e => g1 (set_back (by decide) e)), (fun e => g2 (set_back (by decide) e)), (fun e => g3 (set_back (by decide) e)), (fun e => g4 (set_back (by decide) e)), (fun e => g5 (set_back (by decide) e)), (fun _ => rfl), (fun e => g7 (set_back (by decide) e)), (fun e => g8 (set_back (by decide) e)), (fun e => g9 (set_back (by decide) e)), (fun _ => rfl), (fun e => g11 (set_back (by decide) e)), (fun e => g12 (set_back (by decide) e)), (fun e => g13 (set_back (by decide) e)), (fun e => g14 (set_back (by decide) e)), (fun _ => rfl), (fun _ => rfl), (fun e => by have := (g17 (set_back (by decide) e)).1; rw [hn] at this; cases this), (fun e => by have := (g18 (set_back (by decide) e)).1; rw [hn] at this; cases this), (fun e => by have := (g19 (set_back (by decide) e)).1; rw [hn] at this; cases this), (fun e => g20 (set_back (by decide) e)), (fun e => g22 (set_back (by decide) e)), ?_⟩
      rw [getD_set_is (by omega), getD_set_ne false (show 16 ≠ 20 by decide), getD_set_ne false (show 16 ≠ 21 by decide), h21]
      exact ⟨(fun e => by cases e), hJ2⟩
    | 17, hr =>
      have hn : lst.getD 17 false = false := ready_no hr
      have f16 : lst.getD 16 false = true := ready_needs hr (by kernel_rfl)
      obtain rfl := g16 f16
      clear hr
      refine wpOp_step rfl (fun K hK => ?_)
      go_simp
      refine hK _ _ ?_
      refine ⟨x0, x1, x2, x3, x4, x5, x6, x7, x8, x9, x10, x11, x12, x13, x14, x15, _, _, x18, x19, x20, x22, u, vA, vn, vc, xb, (by simpa using hsz), rfl, (fun e => g0 (set_back (by decide) e)), (fun e => g1 (set_back (by decide) e)), (fun e => g2 (set_back (by decide) e)), (fun e => g3 (set_back (by decide) e)), (fun e => g4 (set_back (by decide) e)), (fun e => g5 (set_back (by decide) e)), (fun e => g6 (set_back (by decide) e)), (fun e => g7 (set_back (by decide) e)), (fun e => g8 (set_back (by decide) e)), (fun e => g9 (set_back (by decide) e)), (fun e => g10 (set_back (by decide) e)), (fun e => g11 (set_back (by decide) e)), (fun e => g12 (set_back (by decide) e)), (fun e => g13 (set_back (by decide) e)), (fun e => g14 (set_back (by decide) e)), (fun e => g15 (set_back (by decide) e)), (fun _ => rfl), (fun _ => ⟨getD_set_true f16, rfl⟩), (fun e => ⟨getD_set_true (g18 (set_back (by decide) e)).1, (g18 (set_back (by decide) e)).2⟩), (fun e => ⟨getD_set_true (g19 (set_back (by decide) e)).1, (g19 (set_back (by decide) e)).2⟩), (fun e => g20 (set_back (by decide) e)), (fun e => g22 (set_back (by decide) e)), ?_⟩
      rw [getD_set_ne false (show 17 ≠ 16 by decide), getD_set_ne false (show 17 ≠ 20 by decide), getD_set_ne false (show 17 ≠ 21 by decide)]
      exact ph
    | 18, hr =>
      have hn : lst.getD 18 false = false := ready_no hr
      have f17 : lst.getD 17 false = true := ready_needs hr (by kernel_rfl)
      obtain ⟨c16, rfl⟩ := g17 f17
      obtain rfl := g16 c16
      clear hr
      refine wpOp_step rfl (fun K hK => ?_)
      go_simp
      refine hK _ _ ?_
      refine ⟨x0, x1, x2, x3, x4, x5, x6, x7, x8, x9, x10, x11, x12, x13, x14, x15, _, _, _, x19, x20, x22, u, vA, vn, vc, xb, (by simpa using hsz), rfl, (fun e => g0 (set_back (by decide) e)), (fun e => g1 (set_back (by decide) e)), (fun e => g2 (set_back (by decide) e)), (fun e => g3 (set_back (by decide) e)), (fun e => g4 (set_back (by decide) e)), (fun e => g5 (set_back (by decide) e)), (fun e => g6 (set_back (by decide) e)), (fun e => g7 (set_back (by decide) e)), (fun e => g8 (set_back (by decide) e)), (fun e => g9 (set_back (by decide) e)), (fun e => g10 (set_back (by decide) e)), (fun e => g11 (set_back (by decide) e)), (fun e => g12 (set_back (by decide) e)), (fun e => g13 (set_back (by decide) e)), (fun e => g14 (set_back (by decide) e)), (fun e => g15 (set_back (by decide) e)), (fun _ => rfl), (fun _ => ⟨getD_set_true c16, rfl⟩), (fun _ => ⟨getD_set_true c16, rfl⟩), (fun e => ⟨getD_set_true (g19 (set_back (by decide) e)).1, (g19 (set_back (by decide) e)).2⟩), (fun e => g20 (set_back (by decide) e)), (fun e => g22 (set_back (by decide) e)), ?_⟩
      rw [getD_set_ne false (show 18 ≠ 16 by decide), getD_set_ne false (show 18 ≠ 20 by decide), getD_set_ne false (show 18 ≠ 21 by decide)]
      exact ph
    | 19, hr =>
      have hn : lst.getD 19 false = false := ready_no hr
      have f17 : lst.getD 17 false = true := ready_needs hr (by kernel_rfl)
      obtain ⟨c16, rfl⟩ := g17 f17
      obtain rfl := g16 c16
      clear hr
      refine wpOp_step rfl (fun K hK => ?_)
      go_simp
      refine hK _ _ ?_
      refine ⟨x0, x1, x2, x3, x4, x5, x6, x7, x8, x9, x10, x11, x12, x13, x14, x15, _, _, x18, _, x20, x22, u, vA, vn, vc, xb, (by simpa using hsz), rfl, (fun e => g0 (set_back (by decide) e)), (fun e => g1 (set_back (by decide) e)), (fun e => g2 (set_back (by decide) e)), (fun e => g3 (set_back (by decide) e)), (fun e => g4 (set_back (by decide) e)), (fun e => g5 (set_back (by decide) e)), (fun e => g6 (set_back (by decide) e)), (fun e => g7 (set_back (by decide) e)), (fun e => g8 (set_back (by decide) e)), (fun e => g9 (set_back (by decide) e)), (fun e => g10 (set_back (by decide) e)), (fun e => g11 (set_back (by decide) e)), (fun e => g12 (set_back (by decide) e)), (fun e => g13 (set_back (by decide) e)), (fun e => g14 (set_back (by decide) e)), (fun e => g15 (set_back (by decide) e)), (fun _ => rfl), (fun _ => ⟨getD_set_true c16, rfl⟩), (fun e => ⟨getD_set_true (g18 (set_back (by decide) e)).1, (g18 (set_back (by decide) e)).2⟩), (fun _ => ⟨getD_set_true c16, rfl⟩), (fun e => g20 (set_back (by decide) e)), (fun e => g22 (set_back (by decide) e)), ?_⟩
      rw [getD_set_ne false (show 19 ≠ 16 by decide), getD_set_ne false (show 19 ≠ 20 by decide), getD_set_ne false (show 19 ≠ 21 by decide)]
      exact ph
    | 20, hr =>
      have hn : lst.getD 20 false = false := ready_no hr
      rw [hn] at ph
      have h21 : lst.getD 21 false = false := by
        cases hb : lst.getD 21 false with
        | false => rfl
        | true => cases (ph.1 hb).2
      rw [h21] at ph
      clear hr
      refine wpOp_step rfl (fun K hK => ?_)
      go_simp
      refine hK _ _ ?_
      refine ⟨x0, x1, x2, x3, x4, x5, x6, x7, x8, x9, x10, x11, x12, x13, x14, x15, x16, x17, x18, x19, _, x22, u, vA, vn, vc, W.heap.size, (by simpa using hsz), rfl, (fun e => g0 (set_back (by decide) e)), (fun e => g1 (set_back (by decide) e)), (fun e => g2 (set_back (by decide) e)), (fun e => g3 (set_back (by decide) e)), (fun e => g4 (set_back (by decide) e)), (fun e => g5 (set_back (by decide) e)), (fun e => g6 (set_back (by decide) e)), (fun e => g7 (set_back (by decide) e)), (fun e => g8 (set_back (by decide) e)), (fun e => g9 (set_back (by decide) e)), (fun e => g10 (set_back (by decide) e)), (fun e => g11 (set_back (by decide) e)), (fun e => g12 (set_back (by decide) e)), (fun e => g13 (set_back (by decide) e)), (fun e => g14 (set_back (by decide) e)), (fun e => g15 (set_back (by decide) e)), (fun e => g16 (set_back (by decide) e)), (fun e => ⟨getD_set_true (g17 (set_back (by decide) e)).1, (g17 (set_back (by decide) e)).2⟩), (fun e => ⟨getD_set_true (g18 (set_back (by decide) e)).1, (g18 (set_back (by decide) e)).2⟩), (fun e => ⟨getD_set_true (g19 (set_back (by decide) e)).1, (g19 (set_back (by decide) e)).2⟩), (fun _ => rfl), (fun e => g22 (set_back (by decide) e)), ?_⟩
      rw [getD_set_is (by omega), getD_set_ne false (show 20 ≠ 16 by decide), getD_set_ne false (show 20 ≠ 21 by decide), h21]
      exact ⟨(fun e => by cases e), RunPh.alloc (z := [.int .i64 0, .int .i64 0, .int .i64 0, .int .i64 0, .slice none 0 0, .int .i64 0, .bool false, .int .i64 0, .bool false]) ph.2⟩
    | 21, hr =>
      have hn : lst.getD 21 false = false := ready_no hr
      have f20 : lst.getD 20 false = true := ready_needs hr (by kernel_rfl)
      obtain rfl := g20 f20
      have f18 : lst.getD 18 false = true := ready_needs hr (by kernel_rfl)
      obtain ⟨c16, rfl⟩ := g18 f18
      obtain rfl := g16 c16
      rw [hn, f20, c16] at ph
      have RZ : RowAt 95 xb [.int .i64 0, .int .i64 0, .int .i64 0, .int .i64 0, .slice none 0 0, .int .i64 0, .bool false, .int .i64 0, .bool false] W := (ph.2.2.2 rfl).1
      obtain ⟨p0, p1, p2, p3, p4, p5, p6, p7, p8⟩ := row9 RZ
      have y0 := RZ.free 0
      have y1 := RZ.free 1
      have y2 := RZ.free 2
      have y3 := RZ.free 3
      have y4 := RZ.free 4
      have y5 := RZ.free 5
      have y6 := RZ.free 6
      have y7 := RZ.free 7
      have y8 := RZ.free 8
      have pz := put9 RZ rfl (.int .i64 k) (.int .i64 pl) (.int .i64 fu) (.int .i64 n) (.slice vA vn vc) (.int .i64 v) (.bool pr) (.int .i64 mt) (.bool po)
      have hJ2 := RunPh.store ph.2 HFA.out pz.2.2 pz.2.1
      clear hr RZ pz
      refine wpOp_step rfl (fun K hK => ?_)
      go_simp
      refine hK _ _ ?_
      refine ⟨x0, x1, x2, x3, x4, x5, x6, x7, x8, x9, x10, x11, x12, x13, x14, x15, _, x17, _, x19, _, x22, u, vA, vn, vc, xb, (by simpa using hsz), rfl, (fun e => g0 (set_back (by decide) e)), (fun e => g1 (set_back (by decide) e)), (fun e => g2 (set_back (by decide) e)), (fun e => g3 (set_back (by decide) e)), (fun e => g4 (set_back (by decide) e)), (fun e => g5 (set_back (by decide) e)), (fun e => g6 (set_back (by decide) e)), (fun e => g7 (set_back (by decide) e)), (fun e => g8 (set_back (by decide) e)), (fun e => g9 (set_back (by decide) e)), (fun e => g10 (set_back (by decide) e)), (fun e => g11 (set_back (by decide) e)), (fun e => g12 (set_back (by decide) e)), (fun e => g13 (set_back (by decide) e)), (fun e => g14 (set_back (by decide) e)), (fun e => g15 (set_back (by decide) e)), (fun _ => rfl), (fun e => ⟨getD_set_true (g17 (set_back (by decide) e)).1, (g17 (set_back (by decide) e)).2⟩), (fun _ => ⟨getD_set_true c16, rfl⟩), (fun e => ⟨getD_set_true (g19 (set_back (by decide) e)).1, (g19 (set_back (by decide) e)).2⟩), (fun _ => rfl), (fun e => g22 (set_back (by decide) e)), ?_⟩
      rw [getD_set_is (by omega), getD_set_ne false (show 21 ≠ 16 by decide), getD_set_ne false (show 21 ≠ 20 by decide), f20, c16]
      exact ⟨(fun _ => ⟨rfl, rfl⟩), hJ2⟩
    | 22, hr =>
      have hn : lst.getD 22 false = false := ready_no hr
      have f19 : lst.getD 19 false = true := ready_needs hr (by kernel_rfl)
      obtain ⟨c16, rfl⟩ := g19 f19
      obtain rfl := g16 c16
      clear hr
      refine wpOp_step rfl (fun K hK => ?_)
      go_simp
      refine hK _ _ ?_
      refine ⟨x0, x1, x2, x3, x4, x5, x6, x7, x8, x9, x10, x11, x12, x13, x14, x15, _, x17, x18, _, x20, _, u, vA, vn, vc, xb, (by simpa using hsz), rfl, (fun e => g0 (set_back (by decide) e)), (fun e => g1 (set_back (by decide) e)), (fun e => g2 (set_back (by decide) e)), (fun e => g3 (set_back (by decide) e)), (fun e => g4 (set_back (by decide) e)), (fun e => g5 (set_back (by decide) e)), (fun e => g6 (set_back (by decide) e)), (fun e => g7 (set_back (by decide) e)), (fun e => g8 (set_back (by decide) e)), (fun e => g9 (set_back (by decide) e)), (fun e => g10 (set_back (by decide) e)), (fun e => g11 (set_back (by decide) e)), (fun e => g12 (set_back (by decide) e)), (fun e => g13 (set_back (by decide) e)), (fun e => g14 (set_back (by decide) e)), (fun e => g15 (set_back (by decide) e)), (fun _ => rfl), (fun e => ⟨getD_set_true (g17 (set_back (by decide) e)).1, (g17 (set_back (by decide) e)).2⟩), (fun e => ⟨getD_set_true (g18 (set_back (by decide) e)).1, (g18 (set_back (by decide) e)).2⟩), (fun _ => ⟨getD_set_true c16, rfl⟩), (fun e => g20 (set_back (by decide) e)), (fun _ => rfl), ?_⟩
      rw [getD_set_ne false (show 22 ≠ 16 by decide), getD_set_ne false (show 22 ≠ 20 by decide), getD_set_ne false (show 22 ≠ 21 by decide)]
      exact ph
    | i + 23, hr => exact absurd (mem_ready.1 hr).2 (by simp)
  rotate_left
  rintro lst a' W ⟨x0, x1, x2, x3, x4, x5, x6, x7, x8, x9, x10, x11, x12, x13, x14, x15, x16, x17, x18, x19, x20, x22, u, vA, vn, vc, xb, hsz, rfl, g0, g1, g2, g3, g4, g5, g6, g7, g8, g9, g10, g11, g12, g13, g14, g15, g16, g17, g18, g19, g20, g22, ph⟩ hr
  have T := all_come (md := .any) (n := 23) (by kernel_rfl) hsz (by kernel_rfl) hr
  clear hr
  obtain rfl := g0 (T 0 (by decide))
  obtain rfl := g1 (T 1 (by decide))
  obtain rfl := g2 (T 2 (by decide))
  obtain rfl := g3 (T 3 (by decide))
  obtain rfl := g4 (T 4 (by decide))
  obtain rfl := g5 (T 5 (by decide))
  obtain rfl := g6 (T 6 (by decide))
  obtain rfl := g7 (T 7 (by decide))
  obtain rfl := g8 (T 8 (by decide))
  obtain rfl := g9 (T 9 (by decide))
  obtain rfl := g10 (T 10 (by decide))
  obtain rfl := g11 (T 11 (by decide))
  obtain rfl := g12 (T 12 (by decide))
  obtain rfl := g13 (T 13 (by decide))
  obtain rfl := g14 (T 14 (by decide))
  obtain rfl := g15 (T 15 (by decide))
  obtain rfl := g16 (T 16 (by decide))
  obtain ⟨-, rfl⟩ := g17 (T 17 (by decide))
  obtain ⟨-, rfl⟩ := g18 (T 18 (by decide))
  obtain ⟨-, rfl⟩ := g19 (T 19 (by decide))
  obtain rfl := g20 (T 20 (by decide))
  obtain rfl := g22 (T 22 (by decide))
  rw [T 16 (by decide)] at ph
  rw [T 20 (by decide)] at ph
  rw [T 21 (by decide)] at ph
  exact hQ' _ _ ⟨u, vA, vn, vc, xb, rfl, ph.2⟩
  rintro _ W ⟨u, vA, vn, vc, xb, rfl, hJ⟩
  obtain ⟨hT, hI, hD⟩ := hJ.2.1 rfl
  obtain ⟨hRX, hxb, hnx⟩ := hJ.2.2 rfl
  obtain ⟨nu, na⟩ := hnx rfl
  clear hJ hnx
  have hTU := OwnFr.turned HS.out.own.fr (by rw [HL.out]; omega) HK.out HEV.out hT
  have S2 := HS.out.fr0 hTU.1 hTU.2.1 hTU.2.2
  have nsx : sb ≠ xb := fun e => by have := HS.out.lt; omega
  obtain ⟨_, a1, _, _, _, za⟩ := S2.cells
  have z1 := za 1
  have S3 := S2.put 1 (.int .i64 fu) ⟨s.frames.set L F, fu, s.out, s.done, s.value⟩ rfl rfl rfl
  have C3 : Chg (StB sb (.slice (some ⟨g, o, none⟩) (L + 1) cap) ov vss) w (W.setCell ⟨sb, 1, none⟩ (.int .i64 fu)) := (hTU.2.1.mono (fun b h => .inr (.inl h))).put (a := ⟨sb, 1, none⟩) (.inl rfl) _
  obtain ⟨w3, hw3⟩ : ∃ w3, W.setCell ⟨sb, 1, none⟩ (.int .i64 fu) = w3 := ⟨_, rfl⟩
  have kc : Chg (fun b => b = sb) W w3 := hw3 ▸ Chg.put (S := fun b => b = sb) (Chg.refl _ W) (a := ⟨sb, 1, none⟩) rfl _
  rw [hw3] at S3 C3
  have RX := Lib.hid (hRX.chg kc (fun e => nsx e.symm))
  have HI := Lib.hid (show InnAt w3 w.heap.size (.slice vA vn vc) (innI args) from CRow.chg hI kc (fun b e e2 => by have := (CRow.in_ hI b e).1; have := HS.out.lt; omega))
  obtain ⟨x2, e2⟩ : ∃ c, W.cell? ⟨xb, 2, none⟩ = some c ∧ c = .int .i64 fu := ⟨_, hRX.cell (k := 2) (by simp), rfl⟩
  obtain ⟨e2, rfl⟩ := e2
  obtain ⟨r0, r1, r2, r3, r4, r5, r6, r7, r8⟩ := row9 RX.out
  have HN3 := Lib.hid hTU.2.2
  have SS3 := Lib.hid S3
  have CC3 := Lib.hid C3
  have XB := Lib.hid (And.intro hxb nsx)
  clear hT hI hD hRX nu na hTU S2 za S3 C3 kc hxb nsx H
  rcases HKK.out with ⟨hk, hol⟩ | ⟨hk, m, Lc, hm, hml, hlc, hl100, hal⟩ | ⟨hk, hst⟩ | hk
  · simp only at hk
    subst hk
    cases pr with
    | false =>
      have HR := Lib.hid (show RunE (runX p s L F ⟨0, pl, fu, n, args, v, false, mt, po⟩) base sb (.slice (some ⟨g, o, none⟩) (L + 1) cap) ov vss w (.returned (.tuple #[])) w3 from ⟨_, _, _, rfl, SS3.out, CC3.out, StB.new HN3.out (fun _ e => .inl e)⟩)
      go_wp2_with fail
      (try simp only [Exit.inBlock, Exit.then])
      refine bodyPost_ret (results_none rfl _ _ _) rfl ?_
      exact HR.out
    | true =>
      obtain ⟨Ao, oc, eov, _, _⟩ := SS3.out.own.out.shape
      simp only at eov
      subst eov
      have b4 : Below w3.heap.size w3 (w3.alloc (.cells #[.int .i64 v] 3)).drew := below_drw (below_alloc (Below.refl _ _) _)
      have rN : RowAt 3 w3.heap.size (intsV [v]) (w3.alloc (.cells #[.int .i64 v] 3)).drew := RowAt.new 3 (intsV [v]) w3
      have S4 := SS3.out.below b4
      have hsrc : Src Tryz.prog 1 28 (.slice (some ⟨w3.heap.size, 0, none⟩) 1 1) 1 (intsV [v]) (w3.alloc (.cells #[.int .i64 v] 3)).drew := ints_src (xs := [v]) Tryz.underlying28 (intsL (xs := [v]) rN (by simp)) (fun e => by cases e)
      obtain ⟨ii, hi, hz0, hsz, hbb⟩ := info_parts info_int
      obtain ⟨v', w5, hrun, hG⟩ := run_append_crow (P := Tryz.prog) (w3.alloc (.cells #[.int .i64 v] 3)).drew 28 3 28 28 ii (.int .i64 0) 1 8 Tryz.underlying28 hi hz0 hsz hbb rfl base Ao s.out.length oc (intsV s.out) S4.own.out (by have := b4.size; have := CC3.out.size; have := HB.out.1; omega)
        (.slice (some ⟨w3.heap.size, 0, none⟩) 1 1) 1 (intsV [v]) hsrc (by omega) (by unfold maxLen; omega)
      obtain ⟨ao', cap', rfl, _, _⟩ := hG.row.shape
      have hch := hG.chg
      have hrow := hG.row
      rw [show intsV s.out ++ intsV [v] = intsV (s.out ++ [v]) by simp [intsV]] at hrow
      have S5 := S4.trace (out := s.out ++ [v]) (by rw [List.length_append]; exact hrow) hch hG.at_
      have c5 : Chg (StB sb (.slice (some ⟨g, o, none⟩) (L + 1) cap) (.slice Ao s.out.length oc) vss) w (w5.setCell ⟨sb, 2, none⟩ (.slice ao' (s.out.length + 1) cap')) := (((CC3.out.after b4).trans hch (fun _ _ e => .inr (.inr e))).put (a := ⟨sb, 2, none⟩) (.inl rfl) _)
      have HR := Lib.hid (show RunE (runX p s L F ⟨0, pl, fu, n, args, v, true, mt, po⟩) base sb (.slice (some ⟨g, o, none⟩) (L + 1) cap) (.slice Ao s.out.length oc) vss w (.returned (.tuple #[])) (w5.setCell ⟨sb, 2, none⟩ (.slice ao' (s.out.length + 1) cap')) from ⟨_, _, _, rfl, S5, c5, StB.new HN3.out (fun b e => (hG.at_ b e).imp id (fun h => Nat.le_trans (Nat.le_trans CC3.out.size b4.size) h))⟩)
      have d2 := SS3.out.cells.2.2.1
      have d24 := S4.cells.2.2.1
      have r54 := cell_below b4 r5
      have k5 := S4.row.chg hch S4.no
      obtain ⟨y2, d25⟩ : ∃ c, w5.cell? ⟨sb, 2, none⟩ = some c := ⟨_, k5.cell (k := 2) (by simp [sttC])⟩
      have z25 := k5.free 2
      clear b4 rN S4 hsrc hi hz0 hsz hbb hG hch hrow S5 c5 k5
      go_upto_region 8 with fail
      go_region_law (first | (refine step_append_run rfl _ _ _ _ rfl _ _ rfl rfl hrun ?_))
      all_goals
        (try simp only [Exit.then])
        go_wp2_with fail
        (try simp only [Exit.inBlock, Exit.then])
        refine bodyPost_ret (results_none rfl _ _ _) rfl ?_
        exact HR.out
  · have hk : k = 1 := hk
    subst hk
    have hm : n = m := hm
    subst hm
    have hal : args.length ≤ Lc := hal
    obtain ⟨vA', vc', eva, _, _⟩ := CRow.shape HI.out
    have evn : vn = args.length := by injection eva
    subst evn
    clear eva
    have hra : ReadsI w3 vA args := CRow.ints (show CRow w3 w.heap.size 3 1 (.slice vA args.length vc) args.length (intsV args) from HI.out)
    have hW3 : Below W0.heap.size W0 w3 := Chg.below HW.out.1 CC3.out (fun b hb => by
      rcases hb with e | ⟨x, hx, e⟩ | e
      · rw [e]; exact HB.out.2.2
      · have := (OwnG.lo HS.out.own.fr x hx b e).1; have := HB.out.2.1; omega
      · have := (HS.out.own.out.in_ b e).1; have := HB.out.2.1; omega)
    have bd : Below w3.heap.size w3 w3.drew := below_drw (Below.refl _ _)
    have HBG := Lib.hid (begin_any P p Ap vA cp vc m Lc args w3.drew (cell_below (below_trans hW3 bd) HW.out.2.1) (HW.out.2.2.below (below_trans hW3 bd)) hml hlc hl100 (hra.below bd) hal)
    obtain ⟨ii, hi, hz0, hsz, hbb⟩ := info_parts info_frame
    have hlf : (s.frames.set L F).length = L + 1 := by rw [List.length_set]; exact HL.out
    have eb : beginF p m args = ⟨m, 0, beginL args Lc, []⟩ := by
      unfold beginF beginL localsAt
      rw [Int.toNat_natCast, List.getElem?_eq_getElem hml]
      simp only [hlc, Int.toNat_natCast]
    have HAPP := Lib.hid (show ∀ (w4 : World) (gB : Nat), RowAt 3 gB (intsV (beginL args Lc)) w4 → w3.heap.size ≤ gB → Below w3.heap.size w3 w4 →
        ∃ ao' cap' w6, (Builtin.append_ #[55, 55] 55 #[.slice (some ⟨g, o, none⟩) (L + 1) cap, .slice (some ⟨w4.heap.size, 0, none⟩) 1 1]).run Tryz.prog (w4.alloc (.cells #[.int .i64 m, .int .i64 0, .slice (some ⟨gB, 0, none⟩) Lc Lc, .slice none 0 0] 54)) = .ok (.slice ao' (L + 2) cap') w6 ∧
          (w4.cell? ⟨sb, 0, none⟩ = some (.slice (some ⟨g, o, none⟩) (L + 1) cap) ∧ (w4.alloc (.cells #[.int .i64 m, .int .i64 0, .slice (some ⟨gB, 0, none⟩) Lc Lc, .slice none 0 0] 54)).cell? ⟨sb, 0, none⟩ = some (.slice (some ⟨g, o, none⟩) (L + 1) cap)) ∧ w6.cell? ⟨sb, 0, none⟩ = some (.slice (some ⟨g, o, none⟩) (L + 1) cap) ∧ w6.frozen? ⟨sb, 0, none⟩ = false ∧
          RunE (runX p s L F ⟨1, pl, fu, m, args, v, pr, mt, po⟩) base sb (.slice (some ⟨g, o, none⟩) (L + 1) cap) ov vss w (.returned (.tuple #[])) (w6.setCell ⟨sb, 0, none⟩ (.slice ao' (L + 2) cap')) from fun w4 gB hrg hgl hB4 => by
      have b5 := below_alloc (Below.refl w4.heap.size w4) (.cells #[.int .i64 m, .int .i64 0, .slice (some ⟨gB, 0, none⟩) Lc Lc, .slice none 0 0] 54)
      have b35 := below_trans hB4 b5
      have S5 := SS3.out.below b35
      have rF : RowAt 54 w4.heap.size (frC ⟨m, 0, beginL args Lc, []⟩ (.slice (some ⟨gB, 0, none⟩) Lc Lc) (.slice none 0 0)) (w4.alloc (.cells #[.int .i64 m, .int .i64 0, .slice (some ⟨gB, 0, none⟩) Lc Lc, .slice none 0 0] 54)) := RowAt.new _ _ w4
      have hrow := S5.own.fr.row
      simp only [hlf] at hrow
      have hbz : base ≤ w3.heap.size := by have := CC3.out.size; have := HB.out.1; omega
      obtain ⟨v', w6, hrun, hG⟩ := run_append_crow (P := Tryz.prog) (w4.alloc (.cells #[.int .i64 m, .int .i64 0, .slice (some ⟨gB, 0, none⟩) Lc Lc, .slice none 0 0] 54)) 55 54 55 55 ii _ 4 64 Tryz.underlying55 hi hz0 hsz hbb rfl base (some ⟨g, o, none⟩) (L + 1) cap _ hrow (by have := b35.size; omega)
        (.slice (some ⟨w4.heap.size, 0, none⟩) 1 1) 1 _ (frame_src rF) (by have := HLL.out; omega) (by unfold maxLen; have := HLL.out; omega)
      obtain ⟨ao', cap', rfl, _, _⟩ := hG.row.shape
      have hgB := blk_lt hrg
      have hold := fun u hu b e => (OwnG.lo SS3.out.own.fr u hu b e).2
      have hpush := OwnFr.push (f := ⟨m, 0, beginL args Lc, []⟩) (N := w3.heap.size) S5.own.fr hlf hG (innI_new (base := base) (hrg.below b5) (by omega) (beginL_len hal) (by omega)) (innI_nil _ _) hold (fun x e => by have := ob_new e; omega) (fun x e => by cases e) (fun x e e2 => by cases e2)
      have hch : Chg (FrB (.slice (some ⟨g, o, none⟩) (L + 1) cap) (vss.set L [v1, u])) _ w6 := hG.chg.mono (fun b e => FrB.outer e)
      have hnew : ∀ b, FrB (.slice ao' (L + 1 + 1) cap') (vss.set L [v1, u] ++ [[.slice (some ⟨gB, 0, none⟩) Lc Lc, .slice none 0 0]]) b → FrB (.slice (some ⟨g, o, none⟩) (L + 1) cap) (vss.set L [v1, u]) b ∨ w3.heap.size ≤ b := fun b hb => by
        obtain ⟨x, hx, e⟩ := hb
        rcases List.mem_cons.1 hx with rfl | hx
        · rcases hG.at_ b e with e2 | e2
          · exact .inl (FrB.outer e2)
          · exact .inr (Nat.le_trans b35.size e2)
        · rw [List.flatten_append] at hx
          rcases List.mem_append.1 hx with hx | hx
          · exact .inl ⟨x, List.mem_cons_of_mem _ hx, e⟩
          · simp at hx
            rcases hx with rfl | rfl
            · have := ob_new e; exact .inr (by omega)
            · cases e
      have S6 := SS3.out.fr (fs := s.frames.set L F ++ [⟨m, 0, beginL args Lc, []⟩]) hpush ((Chg.of_below b35).trans hch (fun _ _ e => e)) hnew
      have kr := (SS3.out.row.below b35).chg hch SS3.out.ns
      have c0 := SS3.out.cells.1
      refine ⟨ao', cap', w6, hrun, ⟨cell_below hB4 c0, cell_below b35 c0⟩, kr.cell (k := 0) (by simp [sttC]), kr.free 0, .slice ao' (L + 1 + 1) cap', ov, vss.set L [v1, u] ++ [[.slice (some ⟨gB, 0, none⟩) Lc Lc, .slice none 0 0]], rfl, ?_, ?_, StB.new (fun b hb => by
        rcases hnew b hb with e2 | e2
        · exact HN3.out b e2
        · exact .inr (Nat.le_trans CC3.out.size e2)) (fun _ e => Or.inl e)⟩
      · have e : runX p s L F ⟨1, pl, fu, m, args, v, pr, mt, po⟩ = ⟨s.frames.set L F ++ [⟨m, 0, beginL args Lc, []⟩], fu, s.out, s.done, s.value⟩ := by unfold runX; rw [if_neg (by simp), if_pos rfl, eb]
        rw [e]; exact S6
      · refine Chg.put (S := StB sb (.slice (some ⟨g, o, none⟩) (L + 1) cap) ov vss) ?_ (a := ⟨sb, 0, none⟩) (.inl rfl) _
        exact CC3.out.trans ((Chg.of_below (S := FrB (.slice (some ⟨g, o, none⟩) (L + 1) cap) (vss.set L [v1, u])) b35).trans hch (fun _ _ e => e)) (fun b hb e => by
          rcases HN3.out b e with e2 | e2
          · exact .inr (.inl e2)
          · omega))
    have c0 := SS3.out.cells.1
    clear hi hz0 hsz hbb hra hW3 hlf eb hml hlc hl100 hal bd
    go_upto_region 9 with fail
    go_region_law (first | (refine step_append_run rfl _ _ _ _ rfl _ _ rfl rfl hrun ?_) | (rw [if_pos (by rfl)]; go_simp; go_at_call 130; (with_reducible refine HBG.out.mono ?_); rintro e w4 ⟨gB, rfl, hrg, hgl, hB4⟩; obtain ⟨ao', cap', w6, hrun, ⟨c04, c05⟩, c06, z06, hR⟩ := HAPP.out w4 gB hrg hgl (below_trans (below_drw (Below.refl _ _)) hB4); have HR := Lib.hid hR; clear hR hrg hgl hB4; go_simp))
    all_goals
      (try simp only [Exit.then])
      go_wp2_with fail
      (try simp only [Exit.inBlock, Exit.then])
      refine bodyPost_ret (results_none rfl _ _ _) rfl ?_
      exact HR.out
  · simp only at hk hst
    subst hk
    obtain ⟨d0, _, _, _, d4, zd⟩ := SS3.out.cells
    simp only at d0 d4
    obtain ⟨ii, hi, _⟩ := info_parts info_frame
    have hlf : (s.frames.set L F).length = L + 1 := by rw [List.length_set]; exact HL.out
    have hcap : L + 1 ≤ cap := by
      obtain ⟨_, _, e, hle, _⟩ := SS3.out.own.fr.row.shape
      injection e with _ _ e3
      simp only [hlf] at hle
      omega
    have RI := run_init (P := Tryz.prog) 55 54 Tryz.underlying55 ii hi g o (L + 1) cap L (by omega)
    have z0 := zd 0
    clear hi zd
    have hob3 : ob (.slice (some ⟨g, o, none⟩) (L + 1) cap) = some g := by
      obtain ⟨_, _, eg, _, _, hob, _⟩ := OwnFr.at_ SS3.out.own.fr (k := L) (by simp only; omega)
      cases eg; exact hob
    have ht := OwnG.take SS3.out.own.fr L (by simp only; omega)
    have S4 := SS3.out.fr (fs := (s.frames.set L F).take L) ht (Chg.refl _ _) (fun b hb => .inl (by
      obtain ⟨x, hx, e⟩ := hb
      rcases List.mem_cons.1 hx with rfl | hx
      · refine FrB.outer ?_
        obtain ⟨c, rfl⟩ : ∃ c, cap = c + 1 := ⟨cap - 1, by omega⟩
        exact e
      · obtain ⟨l, hl, hxl⟩ := List.mem_flatten.1 hx
        exact ⟨x, List.mem_cons_of_mem _ (List.mem_flatten.2 ⟨l, List.mem_of_mem_take hl, hxl⟩), e⟩))
    have c4 := CC3.out.put (a := ⟨sb, 0, none⟩) (.inl rfl) (.slice (some ⟨g, o, none⟩) L cap)
    obtain ⟨w4, hw4⟩ : ∃ w4, w3.setCell ⟨sb, 0, none⟩ (.slice (some ⟨g, o, none⟩) L cap) = w4 := ⟨_, rfl⟩
    have kc : Chg (fun b => b = sb) w3 w4 := hw4 ▸ Chg.put (S := fun b => b = sb) (Chg.refl _ w3) (a := ⟨sb, 0, none⟩) rfl _
    rw [hw4] at S4 c4
    have RX4 := RX.out.chg kc (fun e => XB.out.2 e.symm)
    obtain ⟨t0, _, _, _, _, t5, _, _, _⟩ := row9 RX4
    by_cases hL0 : L = 0
    · have g0 : decide (0 < L) = false := by simpa using hL0
      have g1 : decide ((0 : Int) < (L : Int)) = false := by simp; omega
      have HO := Lib.hid (outcome_any 2)
      obtain ⟨_, _, _, _, a4, za⟩ := S4.cells
      have z4 := za 4
      have S5 := S4.put 4 (.int .i64 v) ⟨(s.frames.set L F).take L, fu, s.out, s.done, v⟩ rfl rfl rfl
      obtain ⟨b0, _, _, _, _, zb⟩ := S5.cells
      have z50 := zb 0
      have S6 := S5.none
      obtain ⟨_, _, _, e3, _, ze⟩ := S6.cells
      have z63 := ze 3
      have S7 := S6.put 3 (.int .i64 (outcomeN 2)) ⟨[], fu, s.out, outcomeN 2, v⟩ rfl rfl rfl
      have c7 := ((c4.put (a := ⟨sb, 4, none⟩) (.inl rfl) (.int .i64 v)).put (a := ⟨sb, 0, none⟩) (.inl rfl) (.slice none 0 0)).put (a := ⟨sb, 3, none⟩) (.inl rfl) (.int .i64 (outcomeN 2))
      have kc5 : Chg (fun b => b = sb) w4 (w4.setCell ⟨sb, 4, none⟩ (.int .i64 v)) := Chg.put (S := fun b => b = sb) (Chg.refl _ w4) (a := ⟨sb, 4, none⟩) rfl _
      have RX5 := RX4.chg kc5 (fun e => XB.out.2 e.symm)
      obtain ⟨t50, _⟩ := row9 RX5
      have HR := Lib.hid (show RunE (runX p s L F ⟨2, pl, fu, n, args, v, pr, mt, po⟩) base sb (.slice (some ⟨g, o, none⟩) (L + 1) cap) ov vss w (.returned (.tuple #[])) _ from ⟨_, _, _, rfl, by
        have e : runX p s L F ⟨2, pl, fu, n, args, v, pr, mt, po⟩ = ⟨[], fu, s.out, outcomeN 2, v⟩ := by unfold runX; rw [if_neg (by simp), if_neg (by simp), if_pos rfl, if_pos hL0]; rfl
        rw [e]; exact S7, c7, StB.new (fun b e => (FrB.nil e).elim) (fun _ e => .inl e)⟩)
      clear S4 S5 S6 S7 c4 c7 kc kc5 za zb ze RX4 RX5 ht hlf hob3 hcap hL0
      go_wp2_with (first | (go_at_call 132; (with_reducible refine (HO.out _).mono ?_); rintro e wn ⟨rfl, rfl⟩) | fail)
      go_end0
      exact HR.out
    · obtain ⟨M, hM⟩ : ∃ M, L = M + 1 := ⟨L - 1, by omega⟩
      have g0 : decide (0 < L) = true := by simp; omega
      have g1 : decide ((0 : Int) < (L : Int)) = true := by simp; omega
      have i1 : IntKind.i64.wrap ((L : Int) - 1) = M := by rw [IntKind.wrap_i64]; have := HLL.out; omega
      have i2 : (M : Int) < (L : Int) := by omega
      have i3 : M < L := by omega
      have i4 : (0 : Int) ≤ (M : Int) := by omega
      have i5 : L ≤ 9223372036854775807 := by omega
      have hlt2 : ((s.frames.set L F).take L).length = L := by rw [List.length_take, hlf]; omega
      obtain ⟨w1', w2', hk2, ev2, hF2⟩ := OwnFr.fat S4.own.fr (k := M) (by simp only; omega)
      have ef : ((s.frames.set L F).take L)[M]'(by omega) = s.frames.getD (L - 1) default := by
        rw [List.getElem_take, List.getElem_set_ne (by omega), List.getD_eq_getElem?_getD, List.getElem?_eq_getElem (by have := HL.out; omega)]
        simp [hM]
      simp only [ef] at hF2
      have bd : Below w4.heap.size w4 w4.drew := below_drw (Below.refl _ _)
      have hF3 := hF2.below bd
      have HG := Lib.hid (give_at hF3 (show base ≤ w4.heap.size by have := c4.size; have := HB.out.1; omega) hst v)
      obtain ⟨a0, _⟩ := S4.cells
      have S4H := Lib.hid (S4.below bd)
      have EV2 := Lib.hid ev2
      have HK2 := Lib.hid hk2
      have C4 := Lib.hid (c4.after bd)
      have HT2 := Lib.hid hlt2
      have FB := Lib.hid (show ∀ b, FrB (.slice (some ⟨g, o, none⟩) L cap) ((vss.set L [v1, u]).take L) b → StB sb (.slice (some ⟨g, o, none⟩) (L + 1) cap) ov vss b ∨ w.heap.size ≤ b from fun b hb => by
        obtain ⟨x, hx, e⟩ := hb
        have : FrB (.slice (some ⟨g, o, none⟩) (L + 1) cap) (vss.set L [v1, u]) b := by
          rcases List.mem_cons.1 hx with rfl | hx
          · refine FrB.outer ?_
            obtain ⟨c, rfl⟩ : ∃ c, cap = c + 1 := ⟨cap - 1, by omega⟩
            exact e
          · obtain ⟨l, hl, hxl⟩ := List.mem_flatten.1 hx
            exact ⟨x, List.mem_cons_of_mem _ (List.mem_flatten.2 ⟨l, List.mem_of_mem_take hl, hxl⟩), e⟩
        exact (HN3.out b this).imp (fun h => .inr (.inl h)) id)
      have HM := Lib.hid hM
      clear S4 c4 kc RX4 ht hlf hob3 hcap ev2 hF2 hF3 bd ef hst hL0 hlt2 hM
      go_upto_region 12 with fail
      go_still_tail 9, (by kernel_rfl)
      go_wp2_with fail
      (with_reducible refine HG.out.mono ?_)
      rintro e w5 ⟨u5, rfl, h5⟩
      have hT5 := OwnFr.turned S4H.out.own.fr (k := M) (by simp only; rw [HT2.out]; omega) HK2.out EV2.out h5
      have S5 := S4H.out.fr0 hT5.1 hT5.2.1 hT5.2.2
      have HR := Lib.hid (show RunE (runX p s L F ⟨2, pl, fu, n, args, v, pr, mt, po⟩) base sb (.slice (some ⟨g, o, none⟩) (L + 1) cap) ov vss w (.returned (.tuple #[])) w5 from ⟨_, _, _, rfl, by
        have e : runX p s L F ⟨2, pl, fu, n, args, v, pr, mt, po⟩ = ⟨((s.frames.set L F).take L).set M ⟨(s.frames.getD (L - 1) default).fn, (s.frames.getD (L - 1) default).pc, (s.frames.getD (L - 1) default).locals, (s.frames.getD (L - 1) default).stack ++ [v]⟩, fu, s.out, s.done, s.value⟩ := by unfold runX; rw [if_neg (by simp), if_neg (by simp), if_pos rfl, if_neg (by have := HM.out; omega), show L - 1 = M by have := HM.out; omega]
        rw [e]; exact S5, C4.out.trans hT5.2.1 (fun b hb e => (FB.out b e).resolve_right (by omega)), fun b hb => by
          rcases hb with e | e | e
          · exact .inl (.inl e)
          · rcases hT5.2.2 b e with e2 | e2
            · exact FB.out b e2
            · exact .inr (Nat.le_trans C4.out.size e2)
          · exact .inl (.inr (.inr e))⟩)
      clear h5 hT5 S5
      go_wp2_with fail
      (try simp only [Exit.inBlock, Exit.then])
      refine bodyPost_ret (results_none rfl _ _ _) rfl ?_
      exact HR.out
  · simp only at hk
    have k0 : (k == 0) = false := beq_eq_false_iff_ne.2 (by omega)
    have k1 : (k == 1) = false := beq_eq_false_iff_ne.2 (by omega)
    have k2 : (k == 2) = false := beq_eq_false_iff_ne.2 (by omega)
    have HO := Lib.hid (outcome_any k)
    obtain ⟨d0, _, _, d3, _, zd⟩ := SS3.out.cells
    have z0 := zd 0
    have S4 := SS3.out.none
    obtain ⟨_, _, _, d34, _, zd4⟩ := S4.cells
    have z3 := zd4 3
    have S5 := S4.put 3 (.int .i64 (outcomeN k)) ⟨[], fu, s.out, outcomeN k, s.value⟩ rfl rfl rfl
    have c5 := (CC3.out.put (a := ⟨sb, 0, none⟩) (.inl rfl) (.slice none 0 0)).put (a := ⟨sb, 3, none⟩) (.inl rfl) (.int .i64 (outcomeN k))
    have HR := Lib.hid (show RunE (runX p s L F ⟨k, pl, fu, n, args, v, pr, mt, po⟩) base sb (.slice (some ⟨g, o, none⟩) (L + 1) cap) ov vss w (.returned (.tuple #[])) _ from ⟨_, _, _, rfl, by
      have e : runX p s L F ⟨k, pl, fu, n, args, v, pr, mt, po⟩ = ⟨[], fu, s.out, outcomeN k, s.value⟩ := by unfold runX; rw [if_neg (by simp only; omega), if_neg (by simp only; omega), if_neg (by simp only; omega)]
      rw [e]; exact S5, c5, StB.new (fun b e => (FrB.nil e).elim) (fun _ e => .inl e)⟩)
    clear S4 S5 c5 zd zd4
    go_wp2_with (first | (go_at_call 132; (with_reducible refine (HO.out _).mono ?_); rintro e wn ⟨rfl, rfl⟩) | fail)
    go_end0
    exact HR.out

end Go.Proofs.YtjghibdlmmjobaaGreatDoor

/- 'eval.Eval', and 'eval.Go' of what may not be. Conditions: the program, the args lie in memory; errors.errorType is laid. A state that may be is not longer than the reach. Plain laws; no program in sight. 'step.Step', 'eval.Go'. Conditions: the program, the state lie in memory; errors.errorType is laid. -/
import Derived.Test.YtjghibdlmmjobaaGreatDoorGZ23
import Derived.Test.YtjghibdlmmjobaaGreatDoorGZ16
import Derived.Test.YtjghibdlmmjobaaGreatDoorGZ13
import Derived.Test.YtjghibdlmmjobaaGreatDoorGZ21
import Derived.Test.YtjghibdlmmjobaaGreatDoorGZ12
namespace Go.Proofs.YtjghibdlmmjobaaGreatDoor
open Go.RowKit

/-- A call that answers a result of its own, and an int. -/
def EvalE (r : Rst) (code : Int) (w : World) (e : Ending) (w' : World) : Prop :=
  ∃ ov, e = .returned (.tuple #[.agg (resC r ov).toArray, .int .i64 code]) ∧ CRow w' w.heap.size 3 1 ov r.out.length (intsV r.out) ∧ Below w.heap.size w w'
/-- Four cells, written one behind the other. -/
theorem put4 {t b : Nat} {cs : List Value} {w : World} (h : RowAt t b cs w) (hl : cs.length = 4) (c0 c1 c2 c3 : Value) :
    ((w.setCell ⟨b, 0, none⟩ c0).cell? ⟨b, 0, none⟩ = some c0 ∧ ((w.setCell ⟨b, 0, none⟩ c0).setCell ⟨b, 1, none⟩ c1).cell? ⟨b, 1, none⟩ = some c1 ∧ (((w.setCell ⟨b, 0, none⟩ c0).setCell ⟨b, 1, none⟩ c1).setCell ⟨b, 2, none⟩ c2).cell? ⟨b, 2, none⟩ = some c2 ∧ ((((w.setCell ⟨b, 0, none⟩ c0).setCell ⟨b, 1, none⟩ c1).setCell ⟨b, 2, none⟩ c2).setCell ⟨b, 3, none⟩ c3).cell? ⟨b, 3, none⟩ = some c3) ∧
      Chg (fun x => x = b) w ((((w.setCell ⟨b, 0, none⟩ c0).setCell ⟨b, 1, none⟩ c1).setCell ⟨b, 2, none⟩ c2).setCell ⟨b, 3, none⟩ c3) := by
  match cs, hl with
  | [d0, d1, d2, d3], _ =>
    have s0 := h.put 0 c0
    have s1 := s0.put 1 c1
    have s2 := s1.put 2 c2
    have s3 := s2.put 3 c3
    exact ⟨⟨s0.cell (k := 0) (by simp), s1.cell (k := 1) (by simp), s2.cell (k := 2) (by simp), s3.cell (k := 3) (by simp)⟩, ((((Chg.refl (fun x => x = b) w).put (a := ⟨b, 0, none⟩) rfl _).put (a := ⟨b, 1, none⟩) rfl _).put (a := ⟨b, 2, none⟩) rfl _).put (a := ⟨b, 3, none⟩) rfl _⟩
theorem evalN {p : List Fn} {args : List Int} {fuel : Int} (h : startB p args fuel = false) : evalR p args fuel = zeroR ∧ evalC p args fuel = 800 ∧ startC p args fuel = 600 := by
  unfold evalR evalC startC; rw [h]; exact ⟨rfl, rfl, rfl⟩
theorem evalY {p : List Fn} {args : List Int} {fuel : Int} (h : startB p args fuel = true) : evalR p args fuel = resOf (endS p (startS p args fuel)) ∧ evalC p args fuel = 0 ∧ startC p args fuel = 0 := by
  unfold evalR evalC startC; rw [h]; exact ⟨rfl, rfl, rfl⟩
theorem start_state {p : List Fn} {args : List Int} {fuel : Int} (h : startB p args fuel = true) : stateB p (startS p args fuel) = true := by
  have hs : startS p args fuel = ⟨[⟨0, 0, beginL args (localsAt p 0).toNat, []⟩], fuel, [], 0, 0⟩ := by unfold startS; rw [if_pos h]
  unfold startB at h
  simp only [Bool.and_eq_true, decide_eq_true_eq] at h
  obtain ⟨⟨⟨⟨hv, ha⟩, hn⟩, h0⟩, h1⟩ := h
  have hp := verifyOf_packs hv
  have hp1 : 0 < p.length := (packs_len hp).1
  have hfm := fnMay_of (packs_fn hp (k := 0) hp1)
  have hg := heights_good hfm.2.2.2.2 (verifyOf_fn hv hp1)
  have ea : argsAt0 p = p[0].args := by unfold argsAt0; rw [List.getElem?_eq_getElem hp1]
  have el : localsAt p 0 = p[0].locals := by unfold localsAt; rw [show (0 : Int).toNat = 0 from rfl, List.getElem?_eq_getElem hp1]
  have h2 := hfm.2.2.1
  have h3 := hfm.1
  have hle : args.length ≤ (localsAt p 0).toNat := by rw [el]; omega
  rw [hs]
  refine state_mk (l := []) hv h0 h1 (by simp; omega) rfl (by decide) trivial (frameB_mk (k := 0) ?_ (by decide) ?_ (by simp) ?_ rfl)
  · have := heightAt_yes (pc := 0) hv hp1 (by decide)
    show heightAt p (0 : Nat) 0 = 0
    rw [this]
    show ((heightsF p p[0]).1[0]?).getD (-1) = 0
    rw [hg.zero]; rfl
  · simp only
    rw [beginL_len hle, el]; omega
  · simp only [beginL]
    rw [List.all_append, hn]
    simp [List.all_replicate, isNum]
end Go.Proofs.YtjghibdlmmjobaaGreatDoor

namespace Go.Proofs.YtjghibdlmmjobaaGreatDoor

theorem heightAt_max {p : List Fn} (hv : verifyOf p = 0) (fn pc : Int) : heightAt p fn pc ≤ 12 := by
  by_cases h : 0 ≤ heightAt p fn pc
  · obtain ⟨a, b, ha⟩ := At.of hv (f := ⟨fn, pc, [], []⟩) h
    obtain ⟨x, hF, _⟩ := ha.finds hv
    have hb : heightAt p fn pc - takesOf x.kind (argsOf p x) + putsOf x.kind ≤ 8 := hF.behind
    have h1 := argsOf_in (verifyOf_packs hv) x
    have h2 := takes_in x.kind (argsOf p x) h1.1 h1.2
    have h3 := puts_in x.kind
    omega
  · omega
theorem localsAt_max {p : List Fn} (hv : verifyOf p = 0) (fn : Int) : localsAt p fn ≤ 8 := by
  unfold localsAt
  split
  · rename_i g hg
    obtain ⟨hk, rfl⟩ := List.getElem?_eq_some_iff.1 hg
    exact (fnMay_of (packs_fn (verifyOf_packs hv) hk)).2.2.2.1
  · omega
theorem frame_fit {p : List Fn} (hv : verifyOf p = 0) {f : Frm} {less : Int} (h0 : 0 ≤ less) (h : frameB p f less = true) : f.locals.length ≤ 8 ∧ f.stack.length ≤ 12 := by
  obtain ⟨_, h1, h2, _⟩ := frameB_of h
  have := heightAt_max hv f.fn f.pc
  have := localsAt_max hv f.fn
  omega
theorem under_fit {p : List Fn} (hv : verifyOf p = 0) : ∀ (l : List Frm) (fn : Int), Under p l fn → ∀ f ∈ l, f.locals.length ≤ 8 ∧ f.stack.length ≤ 12
  | [], _, _, f, hf => by cases hf
  | [g], _, h, f, hf => by
    rw [List.mem_singleton] at hf; subst hf
    exact frame_fit hv (by decide) h.1
  | g :: g2 :: l, fn, h, f, hf => by
    rcases List.mem_cons.1 hf with rfl | hf
    · have := h.1
      unfold lessB at this
      rw [Bool.and_eq_true] at this
      exact frame_fit hv (by decide) this.1
    · exact under_fit hv (g2 :: l) fn h.2 f hf
theorem state_fit {p : List Fn} {s : Stt} (h : stateB p s = true) : s.frames.length ≤ 12 ∧ s.out.length ≤ 100000 ∧ ∀ f ∈ s.frames, f.locals.length ≤ 8 ∧ f.stack.length ≤ 12 := by
  by_cases hd : s.done = 0
  · obtain ⟨hv, h0, h1, h2, _, _, l, f, ef, hl, hu, hf⟩ := state_of h hd
    rw [ef]
    refine ⟨by simp; omega, by omega, fun g hg => ?_⟩
    rcases List.mem_append.1 hg with hg | hg
    · exact under_fit hv l _ hu g hg
    · rw [List.mem_singleton] at hg; subst hg; exact frame_fit hv (by decide) hf
  · unfold stateB overB at h
    rw [if_neg hd] at h
    simp only [Bool.and_eq_true, decide_eq_true_eq] at h
    have hz := List.eq_nil_of_length_eq_zero h.2.2.1
    rw [hz]
    exact ⟨by simp, by omega, fun f hf => by cases hf⟩
theorem fit_state {p : List Fn} {s : Stt} (h : stateB p s = true) : FitS s := by
  obtain ⟨h1, h2, h3⟩ := state_fit h
  exact ⟨by omega, by omega, fun f hf => by have := h3 f hf; omega⟩
end Go.Proofs.YtjghibdlmmjobaaGreatDoor

namespace Go.Proofs.YtjghibdlmmjobaaGreatDoor
open Go.RowKit

/-- Five cells, written one behind the other. -/
theorem put5s {t b : Nat} {cs : List Value} {w : World} (h : RowAt t b cs w) (hl : cs.length = 5) (c0 c1 c2 c3 c4 : Value) :
    ((w.setCell ⟨b, 0, none⟩ c0).cell? ⟨b, 0, none⟩ = some c0 ∧ ((w.setCell ⟨b, 0, none⟩ c0).setCell ⟨b, 1, none⟩ c1).cell? ⟨b, 1, none⟩ = some c1 ∧ (((w.setCell ⟨b, 0, none⟩ c0).setCell ⟨b, 1, none⟩ c1).setCell ⟨b, 2, none⟩ c2).cell? ⟨b, 2, none⟩ = some c2 ∧ ((((w.setCell ⟨b, 0, none⟩ c0).setCell ⟨b, 1, none⟩ c1).setCell ⟨b, 2, none⟩ c2).setCell ⟨b, 3, none⟩ c3).cell? ⟨b, 3, none⟩ = some c3 ∧ (((((w.setCell ⟨b, 0, none⟩ c0).setCell ⟨b, 1, none⟩ c1).setCell ⟨b, 2, none⟩ c2).setCell ⟨b, 3, none⟩ c3).setCell ⟨b, 4, none⟩ c4).cell? ⟨b, 4, none⟩ = some c4) ∧
      Chg (fun x => x = b) w (((((w.setCell ⟨b, 0, none⟩ c0).setCell ⟨b, 1, none⟩ c1).setCell ⟨b, 2, none⟩ c2).setCell ⟨b, 3, none⟩ c3).setCell ⟨b, 4, none⟩ c4) := by
  match cs, hl with
  | [d0, d1, d2, d3, d4], _ =>
    have s0 := h.put 0 c0
    have s1 := s0.put 1 c1
    have s2 := s1.put 2 c2
    have s3 := s2.put 3 c3
    have s4 := s3.put 4 c4
    exact ⟨⟨s0.cell (k := 0) (by simp), s1.cell (k := 1) (by simp), s2.cell (k := 2) (by simp), s3.cell (k := 3) (by simp), s4.cell (k := 4) (by simp)⟩, (((((Chg.refl (fun x => x = b) w).put (a := ⟨b, 0, none⟩) rfl _).put (a := ⟨b, 1, none⟩) rfl _).put (a := ⟨b, 2, none⟩) rfl _).put (a := ⟨b, 3, none⟩) rfl _).put (a := ⟨b, 4, none⟩) rfl _⟩
theorem StAt.alloc {w w' : World} {base : Nat} {s : Stt} {fv ov : Value} {vss : List (List Value)} (h : OwnS w base s fv ov vss) (e : w.alloc (.cells (sttC s fv ov).toArray 57) = w') : StAt w' base w.heap.size s fv ov vss := by
  have b4 : Below w.heap.size w w' := e ▸ below_alloc (Below.refl _ _) _
  exact ⟨e ▸ RowAt.new _ _ w, h.below b4, fun ⟨x, hx, e⟩ => Nat.lt_irrefl _ (OwnG.lo h.fr x hx _ e).2, fun e => Nat.lt_irrefl _ (h.out.in_ _ e).2⟩
theorem OwnS.chg {S : Nat → Prop} {w w1 : World} {base : Nat} {s : Stt} {fv ov : Value} {vss : List (List Value)} (h : OwnS w base s fv ov vss) (hk : Chg S w w1) (hs : ∀ b, S b → b < base) : OwnS w1 base s fv ov vss :=
  ⟨OwnG.chg h.fr hk (fun u hu b hb hS => by have := (OwnG.lo h.fr u hu b hb).1; have := hs b hS; omega), h.out.chg hk (fun b hb hS => by have := (h.out.in_ b hb).1; have := hs b hS; omega), h.sep⟩
theorem stepY {p : List Fn} {s : Stt} (h : stateB p s = true) : stepS p s = stepN p s ∧ stepC p s = 0 := by unfold stepS stepC; rw [if_pos h, if_pos h]; exact ⟨rfl, rfl⟩
theorem stepNo {p : List Fn} {s : Stt} (h : stateB p s = false) : stepS p s = zeroS ∧ stepC p s = 700 := by unfold stepS stepC; rw [h]; exact ⟨rfl, rfl⟩
theorem goY {p : List Fn} {s : Stt} (h : stateB p s = true) : goR p s = resOf (endS p s) ∧ goC p s = 0 := by unfold goR goC; rw [if_pos h, if_pos h]; exact ⟨rfl, rfl⟩
theorem goNo {p : List Fn} {s : Stt} (h : stateB p s = false) : goR p s = zeroR ∧ goC p s = 800 := by unfold goR goC; rw [h]; exact ⟨rfl, rfl⟩
theorem own_zero (w : World) (base : Nat) : OwnS w base zeroS (.slice none 0 0) (.slice none 0 0) [] := ⟨OwnG.nil _ _ _, CRow.nil _ _ _ _, fun u hu b hb => by
  have e1 : u = .slice none 0 0 := by simpa using hu
  subst e1; cases hb⟩
set_option maxRecDepth 100000 in
set_option maxHeartbeats 8000000 in
theorem step_any (p : List Fn) (Ap A Ao : Option Addr) (cp c co : Nat) (s : Stt) (w : World) (hl : Laid w) (hr : ReadsF w Ap p) (hs : ReadsS w s A Ao) (hc : s.frames.length ≤ c) :
    Calls Tryz.prog 31 #[.agg #[.slice Ap p.length cp], sttV s (.slice A s.frames.length c) (.slice Ao s.out.length co)] w (StateE (stepS p s) (stepC p s) w) := by
  unfold sttV
  obtain ⟨w1, hw1⟩ : ∃ w1, w.alloc (.cells #[.slice Ap p.length cp] 24) = w1 := ⟨_, rfl⟩
  obtain ⟨w2, hw2⟩ : ∃ w2, w1.alloc (.cells #[.slice A s.frames.length c, .int .i64 s.fuel, .slice Ao s.out.length co, .int .i64 s.done, .int .i64 s.value] 57) = w2 := ⟨_, rfl⟩
  obtain ⟨w3, hw3⟩ : ∃ w3, w2.alloc (.cells #[.slice none 0 0, .int .i64 0, .slice none 0 0, .int .i64 0, .int .i64 0] 57) = w3 := ⟨_, rfl⟩
  have b1 : Below w.heap.size w w1 := hw1 ▸ below_alloc (Below.refl _ _) _
  have b2 : Below w1.heap.size w1 w2 := hw2 ▸ below_alloc (Below.refl _ _) _
  have b3 : Below w2.heap.size w2 w3 := hw3 ▸ below_alloc (Below.refl _ _) _
  have y1 : w1.heap.size = w.heap.size + 1 := by rw [← hw1]; simp
  have y2 : w2.heap.size = w.heap.size + 2 := by rw [← hw2]; simp [y1]
  have y3 : w3.heap.size = w.heap.size + 3 := by rw [← hw3]; simp [y2]
  have r1 : RowAt 24 w.heap.size [.slice Ap p.length cp] w3 := ((hw1 ▸ RowAt.new _ _ w : RowAt 24 w.heap.size [.slice Ap p.length cp] w1).below b2).below b3
  have r2 : RowAt 57 w1.heap.size [.slice A s.frames.length c, .int .i64 s.fuel, .slice Ao s.out.length co, .int .i64 s.done, .int .i64 s.value] w3 := (hw2 ▸ RowAt.new _ _ w1 : RowAt 57 w1.heap.size _ w2).below b3
  have r3 : RowAt 57 w2.heap.size [.slice none 0 0, .int .i64 0, .slice none 0 0, .int .i64 0, .int .i64 0] w3 := hw3 ▸ RowAt.new _ _ w2
  have b03 := below_trans (below_trans b1 b2) b3
  have k1 := row_cell r1
  have s0 := r2.cell (k := 0) (by simp)
  have s1 := r2.cell (k := 1) (by simp)
  have s2 := r2.cell (k := 2) (by simp)
  have s3 := r2.cell (k := 3) (by simp)
  have s4 := r2.cell (k := 4) (by simp)
  simp only [List.getElem_cons_zero, List.getElem_cons_succ] at s0 s1 s2 s3 s4
  have HS := Lib.hid (state_any p Ap A Ao cp c co s w3 (hl.below b03) (hr.below b03) (hs.fr.below b03) hc (hs.out.below b03))
  unfold sttV at HS
  have R1 := Lib.hid r1
  have R2 := Lib.hid r2
  have R3 := Lib.hid r3
  have B3 := Lib.hid b03
  have Y := Lib.hid (And.intro y1 (And.intro y2 y3))
  have HR := Lib.hid (hr.below b03)
  have HSS := Lib.hid (hs.below b03)
  clear hl hr hs b1 b2 b3 y1 y2 y3 b03 r1 r2 r3
  go_enter Tryz.func31, Tryz.ntmps31
  go_wp2_with fail
  (with_reducible refine HS.out.mono ?_)
  rintro e w4 ⟨rfl, hB⟩
  have r3 := R3.out.below hB
  have n0 := r3.free 0
  have n1 := r3.free 1
  have n2 := r3.free 2
  have n3 := r3.free 3
  have n4 := r3.free 4
  have HB := Lib.hid hB
  cases hb : stateB p s with
  | false =>
    obtain ⟨q1, q2⟩ := stepNo hb
    obtain ⟨c0, c1, c2, c3, c4⟩ : w4.cell? ⟨w2.heap.size, 0, none⟩ = some (.slice none 0 0) ∧ w4.cell? ⟨w2.heap.size, 1, none⟩ = some (.int .i64 0) ∧ w4.cell? ⟨w2.heap.size, 2, none⟩ = some (.slice none 0 0) ∧ w4.cell? ⟨w2.heap.size, 3, none⟩ = some (.int .i64 0) ∧ w4.cell? ⟨w2.heap.size, 4, none⟩ = some (.int .i64 0) := ⟨r3.cell (k := 0) (by simp), r3.cell (k := 1) (by simp), r3.cell (k := 2) (by simp), r3.cell (k := 3) (by simp), r3.cell (k := 4) (by simp)⟩
    have pz := put5s r3 rfl (.slice none 0 0) (.int .i64 0) (.slice none 0 0) (.int .i64 0) (.int .i64 0)
    have EE := Lib.hid pz.1
    have FIN := Lib.hid (show StateE (stepS p s) (stepC p s) w (.returned (.tuple #[.agg #[.slice none 0 0, .int .i64 0, .slice none 0 0, .int .i64 0, .int .i64 0], .int .i64 700])) _ from by
      rw [q1, q2]
      exact ⟨.slice none 0 0, .slice none 0 0, [], rfl, own_zero _ _, Chg.below (below_trans B3.out hB) pz.2 (fun b e => by have := Y.out; omega)⟩)
    clear pz hB r3 hw1 hw2 hw3 k1 s0 s1 s2 s3 s4 q1 q2 hb
    go_wp2_with fail
    exact bodyPost_ret (v := .tuple #[.agg #[.slice none 0 0, .int .i64 0, .slice none 0 0, .int .i64 0, .int .i64 0], .int .i64 700]) (by simp [results, Tryz.results31, go_sem, EE.out.1, EE.out.2.1, EE.out.2.2.1, EE.out.2.2.2.1, EE.out.2.2.2.2]) rfl FIN.out
  | true =>
    have hfit := fit_state hb
    obtain ⟨q1, q2⟩ := stepY hb
    have QQ := Lib.hid (And.intro q1 q2)
    have HBB := Lib.hid hb
    have HCP := Lib.hid (scopy_any (co := co) (c := c) (s := s) (R2.out.below hB) (HSS.out.below hB) hfit)
    clear hB r3 hw1 hw2 hw3 k1 s0 s1 s2 s3 s4 q1 q2 hb hfit n0 n1 n2 n3 n4
    go_wp2_with fail
    (with_reducible refine HCP.out.mono ?_)
    rintro e w5 ⟨fv, ov, vss, rfl, hO, hB5⟩
    obtain ⟨oo, oc, eo, _, _⟩ := hO.out.shape
    obtain ⟨ff, fc, ef, _, _⟩ := hO.fr.row.shape
    subst eo ef
    unfold sttV
    obtain ⟨w6, hw6⟩ : ∃ w6, w5.alloc (.cells #[.slice ff s.frames.length fc, .int .i64 s.fuel, .slice oo s.out.length oc, .int .i64 s.done, .int .i64 s.value] 57) = w6 := ⟨_, rfl⟩
    have hSt := StAt.alloc hO hw6
    have b56 : Below w5.heap.size w5 w6 := hw6 ▸ below_alloc (Below.refl _ _) _
    have B46 := Lib.hid (below_trans hB5 b56)
    have ST := Lib.hid hSt
    have S5 := Lib.hid hB5.size
    have r6 : RowAt 57 w5.heap.size [.slice ff s.frames.length fc, .int .i64 s.fuel, .slice oo s.out.length oc, .int .i64 s.done, .int .i64 s.value] w6 := hSt.row
    have k0 := r6.cell (k := 0) (by simp)
    have k1 := r6.cell (k := 1) (by simp)
    have k2 := r6.cell (k := 2) (by simp)
    have k3 := r6.cell (k := 3) (by simp)
    have k4 := r6.cell (k := 4) (by simp)
    simp only [List.getElem_cons_zero, List.getElem_cons_succ] at k0 k1 k2 k3 k4
    have R3' := Lib.hid (R3.out.below (below_trans HB.out B46.out))
    clear hO hB5 hSt b56 r6 HCP
    by_cases hd : s.done = 0
    · have d0 : (s.done == 0) = true := by simpa using hd
      have HRun := Lib.hid (lrunA (W0 := w4) (P := ⟨w.heap.size, 0, none⟩) (cp := cp) ST.out B46.out.size (Nat.le_refl _) S5.out B46.out (row_cell (R1.out.below HB.out)) (HR.out.below HB.out) HBB.out hd)
      have HN := Lib.hid (show stepS p s = onceS p s by rw [QQ.out.1]; unfold stepN; rw [if_pos hd])
      clear hd k0 k1 k2 k4
      go_wp2_with fail
      (with_reducible refine HRun.out.mono ?_)
      rintro e w7 ⟨fv2, ov2, vss2, rfl, hS2, hC2, hN2⟩
      obtain ⟨o2, oc2, eo, _, _⟩ := hS2.own.out.shape
      obtain ⟨f2, fc2, ef, _, _⟩ := hS2.own.fr.row.shape
      subst eo ef
      obtain ⟨s2, hs2⟩ : ∃ s2, onceS p s = s2 := ⟨_, rfl⟩
      rw [hs2] at HN hS2 hN2
      have rs : RowAt 57 w5.heap.size [.slice f2 s2.frames.length fc2, .int .i64 s2.fuel, .slice o2 s2.out.length oc2, .int .i64 s2.done, .int .i64 s2.value] w7 := hS2.row
      have j0 := rs.cell (k := 0) (by simp)
      have j1 := rs.cell (k := 1) (by simp)
      have j2 := rs.cell (k := 2) (by simp)
      have j3 := rs.cell (k := 3) (by simp)
      have j4 := rs.cell (k := 4) (by simp)
      simp only [List.getElem_cons_zero, List.getElem_cons_succ] at j0 j1 j2 j3 j4
      have lo : ∀ b, StB w5.heap.size (.slice ff s.frames.length fc) (.slice oo s.out.length oc) vss b → w4.heap.size ≤ b := fun b hb => by
        rcases ST.out.own_lo hb with e | e
        · rw [e]; exact S5.out
        · exact e
      have r3 := R3'.out.chg hC2 (fun e => by have := lo _ e; have := HB.out.size; have := Y.out; omega)
      have n0 := r3.free 0
      have n1 := r3.free 1
      have n2 := r3.free 2
      have n3 := r3.free 3
      have n4 := r3.free 4
      obtain ⟨c0, c1, c2, c3, c4⟩ : w7.cell? ⟨w2.heap.size, 0, none⟩ = some (.slice none 0 0) ∧ w7.cell? ⟨w2.heap.size, 1, none⟩ = some (.int .i64 0) ∧ w7.cell? ⟨w2.heap.size, 2, none⟩ = some (.slice none 0 0) ∧ w7.cell? ⟨w2.heap.size, 3, none⟩ = some (.int .i64 0) ∧ w7.cell? ⟨w2.heap.size, 4, none⟩ = some (.int .i64 0) := ⟨r3.cell (k := 0) (by simp), r3.cell (k := 1) (by simp), r3.cell (k := 2) (by simp), r3.cell (k := 3) (by simp), r3.cell (k := 4) (by simp)⟩
      have pz := put5s r3 rfl (.slice f2 s2.frames.length fc2) (.int .i64 s2.fuel) (.slice o2 s2.out.length oc2) (.int .i64 s2.done) (.int .i64 s2.value)
      have EE := Lib.hid pz.1
      have hb7 : Below w.heap.size w w7 := Chg.below (below_trans B3.out (below_trans HB.out B46.out)) hC2 (fun b hb => by have := lo b hb; have := HB.out.size; have := Y.out; omega)
      have FIN := Lib.hid (show StateE (stepS p s) (stepC p s) w (.returned (.tuple #[.agg #[.slice f2 s2.frames.length fc2, .int .i64 s2.fuel, .slice o2 s2.out.length oc2, .int .i64 s2.done, .int .i64 s2.value], .int .i64 0])) _ from by
        rw [QQ.out.2, HN.out]
        exact ⟨.slice f2 s2.frames.length fc2, .slice o2 s2.out.length oc2, vss2, rfl, (hS2.own.chg pz.2 (fun b e => by have := HB.out.size; have := Y.out; omega)).mono (by have := HB.out.size; have := Y.out; omega), Chg.below hb7 pz.2 (fun b e => by have := Y.out; omega)⟩)
      clear pz r3 hS2 hC2 hN2 hb7 lo rs HRun hs2 hw6
      go_wp2_with fail
      exact bodyPost_ret (v := .tuple #[.agg #[.slice f2 s2.frames.length fc2, .int .i64 s2.fuel, .slice o2 s2.out.length oc2, .int .i64 s2.done, .int .i64 s2.value], .int .i64 0]) (by simp [results, Tryz.results31, go_sem, EE.out.1, EE.out.2.1, EE.out.2.2.1, EE.out.2.2.2.1, EE.out.2.2.2.2]) rfl FIN.out
    · have d0 : (s.done == 0) = false := by simpa using hd
      have HN := Lib.hid (show stepS p s = s by rw [QQ.out.1]; unfold stepN; rw [if_neg hd])
      have r3 := R3'.out
      have n0 := r3.free 0
      have n1 := r3.free 1
      have n2 := r3.free 2
      have n3 := r3.free 3
      have n4 := r3.free 4
      obtain ⟨c0, c1, c2, c3, c4⟩ : w6.cell? ⟨w2.heap.size, 0, none⟩ = some (.slice none 0 0) ∧ w6.cell? ⟨w2.heap.size, 1, none⟩ = some (.int .i64 0) ∧ w6.cell? ⟨w2.heap.size, 2, none⟩ = some (.slice none 0 0) ∧ w6.cell? ⟨w2.heap.size, 3, none⟩ = some (.int .i64 0) ∧ w6.cell? ⟨w2.heap.size, 4, none⟩ = some (.int .i64 0) := ⟨r3.cell (k := 0) (by simp), r3.cell (k := 1) (by simp), r3.cell (k := 2) (by simp), r3.cell (k := 3) (by simp), r3.cell (k := 4) (by simp)⟩
      have pz := put5s r3 rfl (.slice ff s.frames.length fc) (.int .i64 s.fuel) (.slice oo s.out.length oc) (.int .i64 s.done) (.int .i64 s.value)
      have EE := Lib.hid pz.1
      have FIN := Lib.hid (show StateE (stepS p s) (stepC p s) w (.returned (.tuple #[.agg #[.slice ff s.frames.length fc, .int .i64 s.fuel, .slice oo s.out.length oc, .int .i64 s.done, .int .i64 s.value], .int .i64 0])) _ from by
        rw [QQ.out.2, HN.out]
        exact ⟨.slice ff s.frames.length fc, .slice oo s.out.length oc, vss, rfl, (ST.out.own.chg pz.2 (fun b e => by have := HB.out.size; have := Y.out; omega)).mono (by have := HB.out.size; have := Y.out; omega), Chg.below (below_trans B3.out (below_trans HB.out B46.out)) pz.2 (fun b e => by have := Y.out; omega)⟩)
      clear pz r3 hd
      go_wp2_with fail
      exact bodyPost_ret (v := .tuple #[.agg #[.slice ff s.frames.length fc, .int .i64 s.fuel, .slice oo s.out.length oc, .int .i64 s.done, .int .i64 s.value], .int .i64 0]) (by simp [results, Tryz.results31, go_sem, EE.out.1, EE.out.2.1, EE.out.2.2.1, EE.out.2.2.2.1, EE.out.2.2.2.2]) rfl FIN.out
end Go.Proofs.YtjghibdlmmjobaaGreatDoor

/- A state to its end, plainly: what it comes to, with more fuel, from a step ahead. No program in sight. 'step.Run' on a state at a place that may be and runs: it is a step. Conditions: the state is the call's own; the program lies in older memory. 'eval.end', 'eval.Eval': a state of the call's own is run to its end. Conditions: the program, the args lie in memory; errors.errorType is laid. -/
import Derived.Test.YtjghibdlmmjobaaGreatDoorGZ16
import Derived.Test.YtjghibdlmmjobaaGreatDoorGZ13
import Derived.Test.YtjghibdlmmjobaaGreatDoorGZ22
namespace Go.Proofs.YtjghibdlmmjobaaGreatDoor

def runN (p : List Fn) : Nat → Stt → Stt
  | 0, s => s
  | n + 1, s => runN p n (stepN p s)
/-- The state that it comes to in the end. -/
def endS (p : List Fn) (s : Stt) : Stt := runN p (s.fuel.toNat + 1) s
/-- What came of a run. -/
structure Rst where
  done : Int
  value : Int
  out : List Int
  fuel : Int
def resOf (s : Stt) : Rst := ⟨s.done, s.value, s.out, s.fuel⟩
def zeroR : Rst := ⟨0, 0, [], 0⟩
def evalR (p : List Fn) (args : List Int) (fuel : Int) : Rst := if startB p args fuel = true then resOf (endS p (startS p args fuel)) else zeroR
def evalC (p : List Fn) (args : List Int) (fuel : Int) : Int := if startB p args fuel = true then 0 else 800
def goR (p : List Fn) (s : Stt) : Rst := if stateB p s = true then resOf (endS p s) else zeroR
def goC (p : List Fn) (s : Stt) : Int := if stateB p s = true then 0 else 800
theorem runN_done {p : List Fn} {s : Stt} (h : s.done ≠ 0) : ∀ n, runN p n s = s
  | 0 => rfl
  | n + 1 => by rw [runN, stepN, if_neg h]; exact runN_done h n
theorem endS_done {p : List Fn} {s : Stt} (h : s.done ≠ 0) : endS p s = s := runN_done h _
theorem onceS_zero {p : List Fn} {s : Stt} (h : s.fuel = 0) : onceS p s = ⟨[], 0, s.out, 4, 0⟩ := by unfold onceS; rw [if_pos h]
theorem oneI_over {p : List Fn} {f : Frm} {x : Ins} {n : Nat} {d : Int} (h : (oneI p f x n).2 = .over d) : d = 2 ∨ d = 3 := by
  unfold oneI at h
  by_cases c0 : x.kind = 0
  · rw [if_pos c0] at h; cases h
  rw [if_neg c0] at h
  by_cases c1 : x.kind = 1
  · rw [if_pos c1] at h; cases h
  rw [if_neg c1] at h
  by_cases c2 : x.kind = 2
  · rw [if_pos c2] at h; cases h
  rw [if_neg c2] at h
  by_cases c10 : x.kind = 10
  · rw [if_pos c10] at h; cases h
  rw [if_neg c10] at h
  by_cases c11 : x.kind = 11
  · rw [if_pos c11] at h; cases h
  rw [if_neg c11] at h
  by_cases c12 : x.kind = 12
  · rw [if_pos c12] at h; cases h
  rw [if_neg c12] at h
  by_cases c13 : x.kind = 13
  · rw [if_pos c13] at h; cases h
  rw [if_neg c13] at h
  by_cases c14 : x.kind = 14
  · rw [if_pos c14] at h
    by_cases hd : 12 ≤ n
    · rw [if_pos hd] at h; injection h with h; exact .inr h.symm
    · rw [if_neg hd] at h; cases h
  rw [if_neg c14] at h
  by_cases c15 : x.kind = 15
  · rw [if_pos c15] at h; cases h
  rw [if_neg c15] at h
  by_cases c16 : x.kind = 16
  · rw [if_pos c16] at h; cases h
  rw [if_neg c16] at h
  simp only at h
  split at h
  · injection h with h; exact .inl h.symm
  · cases h
/-- What a step leaves: less fuel, an end that is not for want of it, a longer trace. -/
theorem onceS_left {p : List Fn} {s : Stt} (h : s.fuel ≠ 0) : (onceS p s).fuel = s.fuel - 1 ∧ (onceS p s).done ≠ 4 ∧ ∃ o, (onceS p s).out = s.out ++ o := by
  unfold onceS
  rw [if_neg h]
  simp only
  split
  · exact ⟨rfl, by simp, [], by simp⟩
  · exact ⟨rfl, by simp, _, rfl⟩
  · exact ⟨rfl, by simp, [], by simp⟩
  · split
    · exact ⟨rfl, by simp, [], by simp⟩
    · exact ⟨rfl, by simp, [], by simp⟩
  · rename_i d hd
    refine ⟨rfl, ?_, [], by simp⟩
    rcases oneI_over hd with e | e <;> simp [e]
theorem endS_step {p : List Fn} {s : Stt} (h0 : 0 ≤ s.fuel) (hd : s.done = 0) : endS p s = endS p (onceS p s) := by
  unfold endS
  rw [runN, stepN, if_pos hd]
  by_cases hf : s.fuel = 0
  · have : (onceS p s).done ≠ 0 := by rw [onceS_zero hf]; simp
    rw [runN_done this, runN_done this]
  · rw [(onceS_left hf).1, show (s.fuel - 1).toNat + 1 = s.fuel.toNat by omega]
theorem endS_stepN {p : List Fn} {s : Stt} (h0 : 0 ≤ s.fuel) : endS p s = endS p (stepN p s) := by
  unfold stepN
  split
  · exact endS_step h0 (by assumption)
  · rfl
theorem endS_out {p : List Fn} : ∀ (n : Nat) (s : Stt), 0 ≤ s.fuel → s.fuel.toNat = n → ∃ o, (endS p s).out = s.out ++ o := by
  intro n
  induction n with
  | zero =>
    intro s h0 hn
    by_cases hd : s.done = 0
    · rw [endS_step h0 hd, onceS_zero (by omega), endS_done (by simp)]; exact ⟨[], by simp⟩
    · rw [endS_done hd]; exact ⟨[], by simp⟩
  | succ n ih =>
    intro s h0 hn
    by_cases hd : s.done = 0
    · obtain ⟨e1, _, o, e2⟩ := onceS_left (p := p) (s := s) (by omega)
      obtain ⟨o2, e3⟩ := ih (onceS p s) (by omega) (by omega)
      rw [endS_step h0 hd, e3, e2]; exact ⟨o ++ o2, by simp⟩
    · rw [endS_done hd]; exact ⟨[], by simp⟩
def moreS (m : Int) (s : Stt) : Stt := ⟨s.frames, s.fuel + m, s.out, s.done, s.value⟩
theorem onceS_more {p : List Fn} {s : Stt} {m : Int} (h0 : 0 ≤ s.fuel) (h : s.fuel ≠ 0) (hm : 0 ≤ m) : onceS p (moreS m s) = moreS m (onceS p s) := by
  have e : s.fuel + m - 1 = s.fuel - 1 + m := by omega
  unfold onceS moreS topF
  simp only
  rw [if_neg (show ¬ s.fuel + m = 0 by omega), if_neg h, e]
  split
  · rfl
  · rfl
  · rfl
  · split <;> rfl
  · rfl
/-- With more fuel: what did not run out is the same; what did had a beginning of the trace. -/
theorem endS_more {p : List Fn} {m : Int} (hm : 0 ≤ m) : ∀ (n : Nat) (s : Stt), 0 ≤ s.fuel → s.fuel.toNat = n → s.done = 0 →
    ((endS p s).done ≠ 4 → endS p (moreS m s) = moreS m (endS p s)) ∧ ((endS p s).done = 4 → (endS p s).fuel = 0 ∧ ∃ o, (endS p (moreS m s)).out = (endS p s).out ++ o) := by
  intro n
  induction n with
  | zero =>
    intro s h0 hn hd
    have hs : endS p s = ⟨[], 0, s.out, 4, 0⟩ := by rw [endS_step h0 hd, onceS_zero (by omega), endS_done (by simp)]
    rw [hs]
    exact ⟨fun h => absurd rfl h, fun _ => ⟨rfl, endS_out _ (moreS m s) (show 0 ≤ s.fuel + m by omega) rfl⟩⟩
  | succ n ih =>
    intro s h0 hn hd
    obtain ⟨e1, e4, _⟩ := onceS_left (p := p) (s := s) (by omega)
    have hs := endS_step (p := p) h0 hd
    have hs2 : endS p (moreS m s) = endS p (moreS m (onceS p s)) := by
      rw [endS_step (s := moreS m s) (show 0 ≤ s.fuel + m by omega) hd, onceS_more h0 (by omega) hm]
    rw [hs, hs2]
    by_cases hd2 : (onceS p s).done = 0
    · exact ih (onceS p s) (by omega) (by omega) hd2
    · have h2 : (moreS m (onceS p s)).done ≠ 0 := hd2
      rw [endS_done hd2, endS_done h2]
      exact ⟨fun _ => rfl, fun h => absurd h e4⟩
theorem end_state {p : List Fn} : ∀ (n : Nat) (s : Stt), s.fuel.toNat = n → stateB p s = true → stateB p (endS p s) = true ∧ (endS p s).done ≠ 0 := by
  intro n
  induction n with
  | zero =>
    intro s hn h
    by_cases hd : s.done = 0
    · obtain ⟨_, h0, _⟩ := state_of h hd
      have := once_state h hd
      rw [endS_step h0 hd]
      have hz := onceS_zero (p := p) (s := s) (by omega)
      rw [endS_done (by rw [hz]; simp)]
      exact ⟨this, by rw [hz]; simp⟩
    · rw [endS_done hd]; exact ⟨h, hd⟩
  | succ n ih =>
    intro s hn h
    by_cases hd : s.done = 0
    · obtain ⟨_, h0, _⟩ := state_of h hd
      rw [endS_step h0 hd]
      exact ih _ (by rw [(onceS_left (by omega)).1]; omega) (once_state h hd)
    · rw [endS_done hd]; exact ⟨h, hd⟩
end Go.Proofs.YtjghibdlmmjobaaGreatDoor

namespace Go.Proofs.YtjghibdlmmjobaaGreatDoor
open Go.RowKit

theorem stack_le {p : List Fn} {f : Frm} {less : Int} (hv : verifyOf p = 0) (h : frameB p f less = true) (h0 : 0 ≤ less) : f.stack.length ≤ 1000 := by
  obtain ⟨f1, _, f3, _, _⟩ := frameB_of h
  obtain ⟨fn, pc, ha⟩ := At.of hv f1
  obtain ⟨x, hx, hfn, hpc, ex⟩ := At.finds hv ha
  obtain ⟨_, _, h⟩ := heightAt_in hv hfn hpc
  have e : heightAt p f.fn f.pc = heightAt p fn pc := by rw [ha.efn, ha.epc]
  rcases h with h | h <;> omega
theorem set_last {l : List Frm} {f F : Frm} : (l ++ [f]).set l.length F = l ++ [F] := by
  rw [List.set_append_right _ _ (Nat.le_refl _)]; simp
theorem begin_ok {p : List Fn} {fn : Int} {args : List Int} (hv : verifyOf p = 0) (h : frameB p (beginF p fn args) 0 = true) : ∃ m Lc : Nat, fn = m ∧ ∃ h : m < p.length, p[m].locals = Lc ∧ Lc ≤ 100 ∧ args.length ≤ Lc := by
  obtain ⟨f1, f2, _⟩ := frameB_of h
  obtain ⟨m, pc, ha⟩ := At.of hv f1
  have hm := ha.hfn
  have e : fn = m := ha.efn
  subst e
  have hfm := fnMay_of (packs_fn (verifyOf_packs hv) hm)
  obtain ⟨Lc, hL⟩ := Int.eq_ofNat_of_zero_le (show 0 ≤ p[m].locals by have := hfm.1; have := hfm.2.2.1; omega)
  have hl : localsAt p m = Lc := by unfold localsAt; rw [Int.toNat_natCast, List.getElem?_eq_getElem hm]; exact hL
  refine ⟨m, Lc, rfl, hm, hL, by have := hfm.2.2.2.1; omega, ?_⟩
  unfold beginF at f2
  simp only [List.length_append, hl, Int.toNat_natCast] at f2
  omega
theorem runX_once {p : List Fn} {l : List Frm} {f : Frm} {fuel : Int} {out : List Int} (hv : verifyOf p = 0) (hf : frameB p f 0 = true) (hu : Under p l f.fn) (ho : out.length ≤ 1000000) :
    runX p ⟨l ++ [f], fuel, out, 0, 0⟩ l.length (oneF p f fuel (l.length + 1)) (oneX p f fuel (l.length + 1)) = onceS p ⟨l ++ [f], fuel, out, 0, 0⟩ ∧ RunOk p ⟨l ++ [f], fuel, out, 0, 0⟩ l.length (oneX p f fuel (l.length + 1)) := by
  have hres := one_ok hv hf (l.length + 1)
  have htop : topF ⟨l ++ [f], fuel, out, 0, 0⟩ = f := by unfold topF; simp
  by_cases hz : fuel = 0
  · subst hz
    have e2 : oneX p f 0 (l.length + 1) = ⟨5, 0, 0, 0, [], 0, false, 0, false⟩ := if_pos rfl
    rw [e2, onceS_zero rfl]
    exact ⟨rfl, .inr (.inr (.inr (by decide)))⟩
  have e1 : oneF p f fuel (l.length + 1) = (oneI p f (insAt p f) (l.length + 1)).1 := if_neg hz
  have e2 : oneX p f fuel (l.length + 1) = excOf (oneI p f (insAt p f) (l.length + 1)).2 (fuel - 1) := if_neg hz
  have hlen : (l ++ [f]).length = l.length + 1 := by simp
  have e3 : onceS p ⟨l ++ [f], fuel, out, 0, 0⟩ = (match (oneI p f (insAt p f) (l.length + 1)).2 with
      | .next => ⟨l ++ [(oneI p f (insAt p f) (l.length + 1)).1], fuel - 1, out, 0, 0⟩
      | .print v => ⟨l ++ [(oneI p f (insAt p f) (l.length + 1)).1], fuel - 1, out ++ [v], 0, 0⟩
      | .call fn args => ⟨l ++ [(oneI p f (insAt p f) (l.length + 1)).1, beginF p fn args], fuel - 1, out, 0, 0⟩
      | .ret v => if (l ++ [f]).length ≤ 1 then ⟨[], fuel - 1, out, 1, v⟩ else
        ⟨l.dropLast ++ [⟨(l.getLastD default).fn, (l.getLastD default).pc, (l.getLastD default).locals, (l.getLastD default).stack ++ [v]⟩], fuel - 1, out, 0, 0⟩
      | .over d => ⟨[], fuel - 1, out, d, 0⟩) := by
    unfold onceS
    rw [htop]
    simp only
    rw [if_neg hz, hlen, List.dropLast_concat]
    cases (oneI p f (insAt p f) (l.length + 1)).2 <;> rfl
  rw [e1, e2, e3]
  clear e1 e2 e3
  unfold ResOk at hres
  generalize oneI p f (insAt p f) (l.length + 1) = R at hres ⊢
  obtain ⟨F, r⟩ := R
  cases r with
  | next =>
    refine ⟨?_, .inl ⟨rfl, ho⟩⟩
    show (⟨(l ++ [f]).set l.length F, fuel - 1, out, 0, 0⟩ : Stt) = _
    rw [set_last]
  | print v =>
    refine ⟨?_, .inl ⟨rfl, ho⟩⟩
    show (⟨(l ++ [f]).set l.length F, fuel - 1, out ++ [v], 0, 0⟩ : Stt) = _
    rw [set_last]
  | call fn args =>
    obtain ⟨m, Lc, h1, h2, h3, h4, h5⟩ := begin_ok hv hres.2
    refine ⟨?_, .inr (.inl ⟨rfl, m, Lc, h1, h2, h3, h4, h5⟩)⟩
    show (⟨(l ++ [f]).set l.length F ++ [beginF p fn args], fuel - 1, out, 0, 0⟩ : Stt) = _
    rw [set_last]; simp
  | ret v =>
    rcases (show l = [] ∨ ∃ l' g, l = l' ++ [g] by
      rcases List.eq_nil_or_concat l with h | ⟨l', g, h⟩
      · exact .inl h
      · exact .inr ⟨l', g, by rw [h, List.concat_eq_append]⟩) with rfl | ⟨l', g, rfl⟩
    · refine ⟨rfl, .inr (.inr (.inl ⟨rfl, ?_⟩))⟩
      show f.stack.length ≤ 1000
      exact stack_le hv hf (by decide)
    · have hg := (under_snoc p l' g f.fn).1 hu
      have hl1 : (l' ++ [g]).length = l'.length + 1 := by simp
      have eg : ((l' ++ [g]) ++ [f]).getD ((l' ++ [g]).length - 1) default = g := by
        rw [List.getD_eq_getElem?_getD, hl1, Nat.add_sub_cancel, List.append_assoc]; simp
      refine ⟨?_, .inr (.inr (.inl ⟨rfl, ?_⟩))⟩
      · show runX p ⟨(l' ++ [g]) ++ [f], fuel, out, 0, 0⟩ (l' ++ [g]).length F ⟨2, 0, fuel - 1, 0, [], v, false, 0, false⟩ = _
        unfold runX
        rw [if_neg (by simp), if_neg (by simp), if_pos rfl, if_neg (by simp), eg]
        simp only
        rw [if_neg (by simp), set_last, List.take_left' rfl, hl1, Nat.add_sub_cancel, set_last]
        simp
      · show (((l' ++ [g]) ++ [f]).getD ((l' ++ [g]).length - 1) default).stack.length ≤ 1000
        rw [eg]
        exact stack_le hv hg.2.1 (by decide)
  | over d =>
    rcases hres with rfl | rfl
    · exact ⟨rfl, .inr (.inr (.inr (show (3 : Int) ≤ 3 by decide)))⟩
    · exact ⟨rfl, .inr (.inr (.inr (show (3 : Int) ≤ 4 by decide)))⟩
theorem lrunA {w W0 : World} {base sb cp : Nat} {P : Addr} {p : List Fn} {Ap : Option Addr} {s : Stt} {fv ov : Value} {vss : List (List Value)} (hS : StAt w base sb s fv ov vss) (hb : base ≤ w.heap.size) (hbs : W0.heap.size ≤ base) (hsb : W0.heap.size ≤ sb) (hW : Below W0.heap.size W0 w) (hP : W0.cell? P = some (.slice Ap p.length cp)) (hr : ReadsF W0 Ap p)
    (hs : stateB p s = true) (hd : s.done = 0) : Calls Tryz.prog 81 #[.pointer (some P), .pointer (some ⟨sb, 0, none⟩)] w (RunE (onceS p s) base sb fv ov vss w) := by
  obtain ⟨hv, h0, h1, ho, hon, hval, l, f, hfs, hl, hu, hf⟩ := state_of hs hd
  obtain ⟨frames, fuel, out, done, value⟩ := s
  simp only at hfs hd hval h0 h1 ho
  subst hfs hd hval
  have hlen : (l ++ [f]).length = l.length + 1 := by simp
  have hget : (l ++ [f])[l.length]'(by simp) = f := by simp
  obtain ⟨ao, cap, e1, _, _⟩ := hS.own.fr.row.shape
  simp only [hlen] at e1
  subst e1
  obtain ⟨g, o, e2, _⟩ := OwnFr.at_ hS.own.fr (k := l.length) (by simp)
  subst e2
  obtain ⟨hE, hK⟩ := runX_once (l := l) (fuel := fuel) (out := out) hv hf hu (by omega)
  rw [← hE]
  obtain ⟨X, hX⟩ : ∃ X, oneX p f fuel (l.length + 1) = X := ⟨_, rfl⟩
  rw [hX] at hK ⊢
  obtain ⟨k, pl, fu, n, args, v, pr, mt, po⟩ := X
  exact lrun_any hS hb hbs hsb hW hP hr hv hlen hget hf h0 h1 hl rfl hK hX
end Go.Proofs.YtjghibdlmmjobaaGreatDoor

namespace Go.Proofs.YtjghibdlmmjobaaGreatDoor
open Go.RowKit

def resC (r : Rst) (ov : Value) : List Value := [.int .i64 r.done, .int .i64 r.value, ov, .int .i64 r.fuel]
/-- A call that answers a result, its trace of the call's own. -/
def EndE (r : Rst) (base : Nat) (w : World) (e : Ending) (w' : World) : Prop :=
  ∃ ov, e = .returned (.agg (resC r ov).toArray) ∧ CRow w' base 3 1 ov r.out.length (intsV r.out) ∧ Below w.heap.size w w'
/-- How many steps are to come, at most. -/
def endM (s : Stt) : Nat := if s.done = 0 then s.fuel.toNat + 1 else 0
theorem StAt.own_lo {w : World} {base sb : Nat} {s : Stt} {fv ov : Value} {vss : List (List Value)} (h : StAt w base sb s fv ov vss) {b : Nat} (hb : StB sb fv ov vss b) : b = sb ∨ base ≤ b := by
  rcases hb with e | ⟨x, hx, e⟩ | e
  · exact .inl e
  · exact .inr (OwnG.lo h.own.fr x hx b e).1
  · exact .inr (h.own.out.in_ b e).1
end Go.Proofs.YtjghibdlmmjobaaGreatDoor

/- The document's 'Instr' on a frame at a place, whatever the instruction; 'over'. Conditions: the frame is the call's own and may be; the program lies in older memory. -/
import Derived.Test.YtpfgklkdldkajaaGreatDoorRIns
namespace Go.Proofs.YtpfgklkdldkajaaGreatDoor
open Go.RowKit

theorem rins_any {w W0 : World} {base g off cp : Nat} {p : List Fn} {Ap : Option Addr} {f : Frm} {v1 v2 : Value} (h : FAt w base g off f v1 v2) (hb : base ≤ w.heap.size) (hbs : W0.heap.size ≤ base) (hW : Below W0.heap.size W0 w) (hr : ReadsF W0 Ap p)
    (hv : verifyOf p = 0) (hf : frameB p f 0 = true) (d : Nat) :
    Calls Tryz.prog 97 #[.agg #[.slice Ap p.length cp], .pointer (some ⟨g, off, none⟩), .int .i64 d] w (RInsE (oneI p f (insAt p f) d).1 (didOf (oneI p f (insAt p f) d).2) base g off v1 v2 w) := by
  obtain ⟨f1, f2, f3, f4, f5⟩ := frameB_of hf
  obtain ⟨fn, pc, ha⟩ := At.of hv f1
  obtain ⟨x, hx, hfn, hpc, ex⟩ := At.finds hv ha
  rw [hx.ins]
  have hp := verifyOf_packs hv
  have hm := (fnMay_of (packs_fn hp hfn)).2.2.2.2
  have hcl : p[fn].code.length ≤ 1000 := by have := (codeMay_len hm).2; omega
  obtain ⟨k0, k16, hab⟩ := may_of hx.may
  have hrg := hx.ranged hfn
  have hst : f.stack.length ≤ 1000 := by
    obtain ⟨_, e, h⟩ := heightAt_in hv hfn hpc
    rw [ha.efn, ha.epc] at f3
    rcases h with h | h <;> omega
  have ht := hx.takes
  have hlo : (f.locals.length : Int) = p[fn].locals := by
    rw [f2, ha.efn]; unfold localsAt; rw [Int.toNat_natCast, List.getElem?_eq_getElem hfn]
  have E := ha.efn
  have F := ha.epc
  obtain ⟨k, a⟩ := x
  simp only at k0 k16 hab hrg ht ex
  have exs := ex.symm
  have hL : ∀ n : Int, takesOf k (argsOf p ⟨k, a⟩) = n → n ≤ f.stack.length := fun n e => by rw [e] at ht; omega
  by_cases c0 : k = 0
  · subst c0
    have e : (oneI p f ⟨0, a⟩ d) = (⟨f.fn, (pc : Int) + 1, f.locals, f.stack ++ [a]⟩, .next) := by unfold oneI; simp [F]
    rw [e]
    exact rins0 h hb hW hr E F hfn hpc exs d hcl hst
  by_cases c1 : k = 1 ∨ k = 2
  · have ha0 : 0 ≤ a := (hab (by simp; omega)).1
    obtain ⟨j, rfl⟩ := Int.eq_ofNat_of_zero_le ha0
    have hj : j < f.locals.length := by
      unfold rangedB at hrg
      rw [if_pos (by simpa using c1)] at hrg
      simp only [decide_eq_true_eq] at hrg
      omega
    rcases c1 with c1 | c1
    · subst c1
      have e : (oneI p f ⟨1, j⟩ d) = (⟨f.fn, (pc : Int) + 1, f.locals, f.stack ++ [f.locals[j]]⟩, .next) := by
        unfold oneI
        rw [if_neg (by simp), if_pos rfl]
        simp only [Int.toNat_natCast, List.getD_eq_getElem?_getD, List.getElem?_eq_getElem hj, Option.getD_some, F]
      rw [e]
      exact rins1 h hb hW hr E F hfn hpc exs d hcl hst hj
    · subst c1
      have := hL 1 (by simp [takesOf])
      have e : (oneI p f ⟨2, j⟩ d) = (⟨f.fn, (pc : Int) + 1, f.locals.set j (lastN f.stack), f.stack.dropLast⟩, .next) := by unfold oneI; simp [F]
      rw [e]
      exact rins2 h hb hW hr E F hfn hpc exs d hcl hj (by omega)
  by_cases c10 : k = 10
  · subst c10
    have := hL 1 (by simp [takesOf])
    have e : (oneI p f ⟨10, a⟩ d) = (⟨f.fn, (pc : Int) + 1, f.locals, f.stack ++ [lastN f.stack]⟩, .next) := by unfold oneI; simp [F]
    rw [e]
    exact rins10 h hb hW hr E F hfn hpc exs d hcl hst (by omega)
  by_cases c11 : k = 11
  · subst c11
    have := hL 1 (by simp [takesOf])
    have e : (oneI p f ⟨11, a⟩ d) = (⟨f.fn, (pc : Int) + 1, f.locals, f.stack.dropLast⟩, .next) := by unfold oneI; simp [F]
    rw [e]
    exact rins11 h hb hW hr E F hfn hpc exs d hcl (by omega)
  by_cases c12 : k = 12
  · subst c12
    have e : (oneI p f ⟨12, a⟩ d) = (⟨f.fn, a, f.locals, f.stack⟩, .next) := by unfold oneI; simp
    rw [e]
    exact rins12 h hb hW hr E F hfn hpc exs d hcl
  by_cases c13 : k = 13
  · subst c13
    have := hL 1 (by simp [takesOf])
    by_cases hl : lastN f.stack = 0
    · have e : (oneI p f ⟨13, a⟩ d) = (⟨f.fn, a, f.locals, f.stack.dropLast⟩, .next) := by unfold oneI; simp [hl]
      rw [e]
      exact rins13y h hb hW hr E F hfn hpc exs d hcl (by omega) hl
    · have e : (oneI p f ⟨13, a⟩ d) = (⟨f.fn, (pc : Int) + 1, f.locals, f.stack.dropLast⟩, .next) := by unfold oneI; simp [hl, F]
      rw [e]
      exact rins13n h hb hW hr E F hfn hpc exs d hcl (by omega) hl
  by_cases c14 : k = 14
  · subst c14
    by_cases hd : 12 ≤ d
    · have e : (oneI p f ⟨14, a⟩ d) = (⟨f.fn, (pc : Int) + 1, f.locals, f.stack⟩, .over 3) := by unfold oneI; simp [hd, F]
      rw [e]
      exact rins14d h hb hW hr E F hfn hpc exs d hcl (by omega)
    · have ha0 : 0 ≤ a := (hab (by simp)).1
      obtain ⟨m, rfl⟩ := Int.eq_ofNat_of_zero_le ha0
      have hml : m < p.length := by
        unfold rangedB at hrg
        rw [if_neg (by simp), if_neg (by simp), if_pos rfl] at hrg
        simp only [decide_eq_true_eq] at hrg
        omega
      have ea : argsOf p ⟨14, m⟩ = p[m].args := by
        unfold argsOf; rw [if_pos rfl]; simp only; rw [Int.toNat_natCast, List.getElem?_eq_getElem hml]
      have hax := argsOf_in hp ⟨14, m⟩
      obtain ⟨M, hM⟩ := Int.eq_ofNat_of_zero_le hax.1
      have := hL M (by simp [takesOf, hM])
      have e : (oneI p f ⟨14, m⟩ d) = (⟨f.fn, (pc : Int) + 1, f.locals, f.stack.take (f.stack.length - M)⟩, .call m (f.stack.drop (f.stack.length - M))) := by unfold oneI; simp [hd, F, hM]
      rw [e]
      exact rins14 h hb hW hr E F hfn hpc exs d hcl (by omega) hml (by rw [← ea, hM]) (by omega) hst hbs
  by_cases c15 : k = 15
  · subst c15
    have := hL 1 (by simp [takesOf])
    have e : (oneI p f ⟨15, a⟩ d) = (⟨f.fn, (pc : Int) + 1, f.locals, f.stack.dropLast⟩, .print (lastN f.stack)) := by unfold oneI; simp [F]
    rw [e]
    exact rins15 h hb hW hr E F hfn hpc exs d hcl (by omega)
  by_cases c16 : k = 16
  · subst c16
    have := hL 1 (by simp [takesOf])
    have e : (oneI p f ⟨16, a⟩ d) = (⟨f.fn, (pc : Int) + 1, f.locals, f.stack.dropLast⟩, .ret (lastN f.stack)) := by unfold oneI; simp [F]
    rw [e]
    exact rins16 h hb hW hr E F hfn hpc exs d hcl (by omega)
  have := hL 2 (by unfold takesOf; rw [if_neg (by omega), if_neg (by omega), if_neg (by omega)])
  obtain ⟨y, t, hdv⟩ : ∃ y t, doN k (lastN f.stack.dropLast) (lastN f.stack) = (y, t) := ⟨_, _, rfl⟩
  have e : oneI p f ⟨k, a⟩ d = if t = true then (⟨f.fn, (pc : Int) + 1, f.locals, f.stack.dropLast.dropLast⟩, .over 2) else (⟨f.fn, (pc : Int) + 1, f.locals, f.stack.dropLast.dropLast ++ [y]⟩, .next) := by
    unfold oneI
    simp only [hdv, F]
    rw [if_neg c0, if_neg (fun e => c1 (.inl e)), if_neg (fun e => c1 (.inr e)), if_neg c10, if_neg c11, if_neg c12, if_neg c13, if_neg c14, if_neg c15, if_neg c16]
  rw [e]
  cases t with
  | true => exact rinsDt h hb hW hr E F hfn hpc exs d hcl hst (by omega) (by omega) (by omega) f5 hdv
  | false => exact rinsDn h hb hW hr E F hfn hpc exs d hcl hst (by omega) (by omega) (by omega) f5 hdv
end Go.Proofs.YtpfgklkdldkajaaGreatDoor

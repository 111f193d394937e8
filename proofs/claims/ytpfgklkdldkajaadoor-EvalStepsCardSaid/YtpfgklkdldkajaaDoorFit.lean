/- A state that may be is not longer than the reach. Plain laws; no program in sight. -/
import Derived.Test.YtpfgklkdldkajaaDoorGE12
import Derived.Test.YtpfgklkdldkajaaDoorGE14
namespace Go.Proofs.YtpfgklkdldkajaaDoor

theorem heightAt_max {p : List Fn} (hv : verifyOf p = 0) (fn pc : Int) : heightAt p fn pc ≤ 12 := by
  by_cases h : 0 ≤ heightAt p fn pc
  · obtain ⟨a, b, ha⟩ := At.of hv (f := ⟨fn, pc, [], []⟩) h
    obtain ⟨x, hF, _⟩ := ha.finds hv
    have hb : heightAt p fn pc - takesOf x.kind (argsOf p x) + putsOf x.kind ≤ 8 := hF.behind
    have h1 := argsOf_in (verifyOf_packs hv) x
    have h2 := takes_in x.kind (argsOf p x) h1.1 h1.2
    have h3 := puts_in x.kind
    omega
  · omega
theorem localsAt_max {p : List Fn} (hv : verifyOf p = 0) (fn : Int) : localsAt p fn ≤ 8 := by
  unfold localsAt
  split
  · rename_i g hg
    obtain ⟨hk, rfl⟩ := List.getElem?_eq_some_iff.1 hg
    exact (fnMay_of (packs_fn (verifyOf_packs hv) hk)).2.2.2.1
  · omega
theorem frame_fit {p : List Fn} (hv : verifyOf p = 0) {f : Frm} {less : Int} (h0 : 0 ≤ less) (h : frameB p f less = true) : f.locals.length ≤ 8 ∧ f.stack.length ≤ 12 := by
  obtain ⟨_, h1, h2, _⟩ := frameB_of h
  have := heightAt_max hv f.fn f.pc
  have := localsAt_max hv f.fn
  omega
theorem under_fit {p : List Fn} (hv : verifyOf p = 0) : ∀ (l : List Frm) (fn : Int), Under p l fn → ∀ f ∈ l, f.locals.length ≤ 8 ∧ f.stack.length ≤ 12
  | [], _, _, f, hf => by cases hf
  | [g], _, h, f, hf => by
    rw [List.mem_singleton] at hf; subst hf
    exact frame_fit hv (by decide) h.1
  | g :: g2 :: l, fn, h, f, hf => by
    rcases List.mem_cons.1 hf with rfl | hf
    · have := h.1
      unfold lessB at this
      rw [Bool.and_eq_true] at this
      exact frame_fit hv (by decide) this.1
    · exact under_fit hv (g2 :: l) fn h.2 f hf
theorem state_fit {p : List Fn} {s : Stt} (h : stateB p s = true) : s.frames.length ≤ 12 ∧ s.out.length ≤ 100000 ∧ ∀ f ∈ s.frames, f.locals.length ≤ 8 ∧ f.stack.length ≤ 12 := by
  by_cases hd : s.done = 0
  · obtain ⟨hv, h0, h1, h2, _, _, l, f, ef, hl, hu, hf⟩ := state_of h hd
    rw [ef]
    refine ⟨by simp; omega, by omega, fun g hg => ?_⟩
    rcases List.mem_append.1 hg with hg | hg
    · exact under_fit hv l _ hu g hg
    · rw [List.mem_singleton] at hg; subst hg; exact frame_fit hv (by decide) hf
  · unfold stateB overB at h
    rw [if_neg hd] at h
    simp only [Bool.and_eq_true, decide_eq_true_eq] at h
    have hz := List.eq_nil_of_length_eq_zero h.2.2.1
    rw [hz]
    exact ⟨by simp, by omega, fun f hf => by cases hf⟩
theorem fit_state {p : List Fn} {s : Stt} (h : stateB p s = true) : FitS s := by
  obtain ⟨h1, h2, h3⟩ := state_fit h
  exact ⟨by omega, by omega, fun f hf => by have := h3 f hf; omega⟩
end Go.Proofs.YtpfgklkdldkajaaDoor

/- Code that is never come to turns nothing of what a program comes to. Plain laws; no program in sight. -/
import Derived.Test.YtpfgklkdldkajaaGreatDoorGZ24
import Derived.Test.YtpfgklkdldkajaaGreatDoorGZ29
namespace Go.Proofs.YtpfgklkdldkajaaGreatDoor

/-- The same program, but for code behind a function's own. -/
structure Ext (p q : List Fn) : Prop where
  len : q.length = p.length
  fn : ∀ i (h : i < p.length) (h' : i < q.length), q[i].args = p[i].args ∧ q[i].locals = p[i].locals ∧ ∃ t, q[i].code = p[i].code ++ t
theorem Ext.refl (p : List Fn) : Ext p p := ⟨rfl, fun i _ _ => ⟨rfl, rfl, [], by simp⟩⟩
def growF (f : Fn) : Fn := ⟨f.args, f.locals, f.code ++ [⟨16, 0⟩]⟩
theorem growF_long (f : Fn) : growF f = longF f := rfl
theorem Ext.grow {p q : List Fn} (h : Ext p q) {k : Nat} (hk : k < q.length) : Ext p (q.set k (growF q[k])) :=
  ⟨by rw [List.length_set]; exact h.len, fun i hi hi' => by
    have hq : i < q.length := by simpa using hi'
    obtain ⟨a, b, t, e⟩ := h.fn i hi hq
    by_cases hik : i = k
    · subst hik
      rw [List.getElem_set_self]
      exact ⟨a, b, t ++ [⟨16, 0⟩], by show q[i].code ++ [⟨16, 0⟩] = _; rw [e, List.append_assoc]⟩
    · rw [List.getElem_set_ne (fun e => hik e.symm)]
      exact ⟨a, b, t, e⟩⟩
theorem Ext.argsOf {p q : List Fn} (h : Ext p q) (x : Ins) : argsOf q x = argsOf p x := by
  unfold Go.Proofs.YtpfgklkdldkajaaGreatDoor.argsOf
  split
  · by_cases hk : x.a.toNat < p.length
    · have hk' : x.a.toNat < q.length := by rw [h.len]; exact hk
      rw [List.getElem?_eq_getElem hk, List.getElem?_eq_getElem hk']
      exact (h.fn _ hk hk').1
    · rw [List.getElem?_eq_none (show q.length ≤ _ by rw [h.len]; omega), List.getElem?_eq_none (show p.length ≤ _ by omega)]
  · rfl
theorem Ext.localsAt {p q : List Fn} (h : Ext p q) (fn : Int) : localsAt q fn = localsAt p fn := by
  unfold Go.Proofs.YtpfgklkdldkajaaGreatDoor.localsAt
  by_cases hk : fn.toNat < p.length
  · have hk' : fn.toNat < q.length := by rw [h.len]; exact hk
    rw [List.getElem?_eq_getElem hk, List.getElem?_eq_getElem hk']
    exact (h.fn _ hk hk').2.1
  · rw [List.getElem?_eq_none (show q.length ≤ _ by rw [h.len]; omega), List.getElem?_eq_none (show p.length ≤ _ by omega)]
theorem Ext.args0 {p q : List Fn} (h : Ext p q) : argsAt0 q = argsAt0 p := by
  unfold argsAt0
  by_cases hk : 0 < p.length
  · have hk' : 0 < q.length := by rw [h.len]; exact hk
    rw [List.getElem?_eq_getElem hk, List.getElem?_eq_getElem hk']
    exact (h.fn _ hk hk').1
  · rw [List.getElem?_eq_none (show q.length ≤ _ by rw [h.len]; omega), List.getElem?_eq_none (show p.length ≤ _ by omega)]
theorem Ext.ins {p q : List Fn} (h : Ext p q) (hv : verifyOf p = 0) {f : Frm} (hf : frameB p f 0 = true) : insAt q f = insAt p f := by
  obtain ⟨fn, pc, ha⟩ := At.of hv (frameB_of hf).1
  have hfq : fn < q.length := by rw [h.len]; exact ha.hfn
  obtain ⟨_, _, t, e⟩ := h.fn fn ha.hfn hfq
  unfold insAt codeAt
  rw [ha.efn, ha.epc, Int.toNat_natCast, Int.toNat_natCast, List.getElem?_eq_getElem ha.hfn, List.getElem?_eq_getElem hfq]
  simp only
  rw [e, List.getElem?_append_left ha.hpc]
theorem Ext.one {p q : List Fn} (h : Ext p q) (f : Frm) (x : Ins) (n : Nat) : oneI q f x n = oneI p f x n := by
  unfold oneI
  rw [h.argsOf]
theorem Ext.once {p q : List Fn} (h : Ext p q) {s : Stt} (hs : stateB p s = true) (hd : s.done = 0) : onceS q s = onceS p s := by
  obtain ⟨hv, _, _, _, _, _, l, f, ef, _, _, hf⟩ := state_of hs hd
  have ht : topF s = f := by unfold topF; rw [ef, List.getLastD_concat]
  have hb : ∀ fn args, beginF q fn args = beginF p fn args := fun fn args => by unfold beginF; rw [h.localsAt]
  unfold onceS
  rw [ht, h.ins hv hf, h.one]
  simp only [hb]
theorem Ext.runN {p q : List Fn} (h : Ext p q) : ∀ (n : Nat) (s : Stt), stateB p s = true → runN q n s = runN p n s
  | 0, _, _ => rfl
  | n + 1, s, hs => by
    unfold Go.Proofs.YtpfgklkdldkajaaGreatDoor.runN
    by_cases hd : s.done = 0
    · have e1 : stepN q s = onceS p s := by unfold stepN; rw [if_pos hd, h.once hs hd]
      have e2 : stepN p s = onceS p s := by unfold stepN; rw [if_pos hd]
      rw [e1, e2]
      exact h.runN n _ (once_state hs hd)
    · have e1 : stepN q s = s := by unfold stepN; rw [if_neg hd]
      have e2 : stepN p s = s := by unfold stepN; rw [if_neg hd]
      rw [e1, e2]
      exact h.runN n _ hs
/-- The plain law. -/
theorem unreached_law {p q : List Fn} (h : Ext p q) (hp : verifyOf p = 0) (hq : verifyOf q = 0) (args : List Int) (m : Int) : evalR q args m = evalR p args m ∧ evalC q args m = evalC p args m := by
  have hb : startB q args m = startB p args m := by unfold startB; rw [hp, hq, h.args0]
  have hs : startS q args m = startS p args m := by unfold startS; rw [hb, h.localsAt]
  cases hc : startB p args m with
  | false =>
    rw [hc] at hb
    rw [(evalN hb).1, (evalN hb).2.1, (evalN hc).1, (evalN hc).2.1]
    exact ⟨rfl, rfl⟩
  | true =>
    rw [hc] at hb
    rw [(evalY hb).1, (evalY hb).2.1, (evalY hc).1, (evalY hc).2.1, hs]
    unfold endS
    rw [h.runN _ _ (start_state hc)]
    exact ⟨rfl, rfl⟩
theorem same_grow {q : List Fn} {k : Nat} (hk : k < q.length) : SameArgs q (q.set k (growF q[k])) := fun j hj => ⟨by simpa using hj, by
  by_cases h : j = k
  · subst h; rw [List.getElem_set_self]; rfl
  · rw [List.getElem_set_ne (fun e => h e.symm)]⟩
theorem packs_grow {q : List Fn} (hp : packs q = true) {k : Nat} (hk : k < q.length) (h64 : q[k].code.length < 64) : packs (q.set k (growF q[k])) = true := by
  unfold packs at *
  simp only [Bool.and_eq_true, decide_eq_true_eq, List.all_eq_true] at hp ⊢
  rw [List.length_set]
  refine ⟨hp.1, fun g hg => ?_⟩
  rcases List.mem_or_eq_of_mem_set hg with h | h
  · exact hp.2 g h
  · subst h
    have hf := hp.2 _ (List.getElem_mem hk)
    unfold fnMay at *
    simp only [Bool.and_eq_true, decide_eq_true_eq] at hf
    obtain ⟨⟨⟨⟨⟨⟨a, b⟩, c⟩, d⟩, e⟩, g⟩, i⟩ := hf
    have e1 : insMay ⟨16, 0⟩ = true := by decide
    simp [growF, a, b, c, d, i, e1]; omega
/-- A return behind a last return or jump: verified as before. -/
theorem verify_grow {q : List Fn} (hv : verifyOf q = 0) {k : Nat} (hk : k < q.length) (h64 : q[k].code.length < 64) (hlast : ∀ h : q[k].code.length - 1 < q[k].code.length, q[k].code[q[k].code.length - 1].kind = 16 ∨ q[k].code[q[k].code.length - 1].kind = 12) :
    verifyOf (q.set k (growF q[k])) = 0 := by
  have hp := verifyOf_packs hv
  have hm := (fnMay_of (packs_fn hp hk)).2.2.2.2
  have hc := codeMay_len hm
  have h0 := verifyOf_fn hv hk
  obtain ⟨hl, hw, hpl⟩ := heights_len h0
  have hsa := same_grow hk
  unfold verifyOf
  rw [if_pos (packs_grow hp hk h64)]
  have key : (q.set k (growF q[k])).find? (fun f => (heightsF (q.set k (growF q[k])) f).2.2 != 0) = none := by
    rw [List.find?_eq_none]
    intro g hg
    rcases List.mem_or_eq_of_mem_set hg with h | h
    · obtain ⟨i, hi, rfl⟩ := List.mem_iff_getElem.1 h
      have hi0 := verifyOf_fn hv hi
      rw [heightsF_more (fnMay_of (packs_fn hp hi)).2.2.2.2 hsa (by rw [hi0]; simp), hi0]
      simp
    · subst h
      rw [growF_long] at *
      have hpl' := plain_long hm hpl hlast hsa.len h64
      have hw' : hwalkOf (q.set k (longF q[k])) (longF q[k]).code = .inr ((heightsF q q[k]).1 ++ [-1]) := by
        have hu := unset_start hc.1
        have hlen : (longF q[k]).code.length = q[k].code.length + 1 := by simp [longF]
        unfold hwalkOf at hw ⊢
        rw [hstart_long hc.1]
        refine hwalk_long hm hpl hlast hsa _ _ _ _ _ (by simp [hstart]) (fun t ht => ?_) (by simp; omega) (by simp; omega) hw
        simp at ht; subst ht; exact .zero
      rw [heightsF_walk hpl', hw']
      simp [walkR]
  rw [key]
end Go.Proofs.YtpfgklkdldkajaaGreatDoor

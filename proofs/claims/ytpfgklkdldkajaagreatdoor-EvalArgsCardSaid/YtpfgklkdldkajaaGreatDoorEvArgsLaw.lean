/- An argument that is never loaded turns nothing of what a program comes to. Plain laws; no program in sight. -/
import Derived.Test.YtpfgklkdldkajaaGreatDoorGZ24
namespace Go.Proofs.YtpfgklkdldkajaaGreatDoor

/-- Is a local of the first function loaded anywhere? -/
def readB (p : List Fn) (i : Nat) : Bool := match p[0]? with | some f => f.code.any fun x => decide (x = ⟨1, (i : Int)⟩) | none => false
/-- The same locals, but for those that are never loaded. -/
def LocR (p : List Fn) (l m : List Int) : Prop := l.length = m.length ∧ ∀ i, readB p i = true → l[i]? = m[i]?
structure FrmR (p : List Fn) (f g : Frm) : Prop where
  a : f.fn = 0
  b : g.fn = 0
  c : g.pc = f.pc
  d : g.stack = f.stack
  e : LocR p f.locals g.locals
def FrsR (p : List Fn) (fs gs : List Frm) : Prop := (fs = [] ∧ gs = []) ∨ ∃ f g r, fs = f :: r ∧ gs = g :: r ∧ FrmR p f g
structure SttR (p : List Fn) (s t : Stt) : Prop where
  fr : FrsR p s.frames t.frames
  fu : t.fuel = s.fuel
  ou : t.out = s.out
  dn : t.done = s.done
  va : t.value = s.value
/-- An instruction of two frames that differ in what is never loaded. -/
theorem one_rel {p : List Fn} {f g : Frm} (h : FrmR p f g) {x : Ins} (hx : x.kind = 1 → readB p x.a.toNat = true) (n : Nat) : FrmR p (oneI p f x n).1 (oneI p g x n).1 ∨ (oneI p f x n).1.fn = 0 ∧ (oneI p g x n).1.fn = 0 ∧ (oneI p g x n).1.pc = (oneI p f x n).1.pc ∧ (oneI p g x n).1.stack = (oneI p f x n).1.stack ∧ LocR p (oneI p f x n).1.locals (oneI p g x n).1.locals := by
  refine .inr ?_
  obtain ⟨h1, h2, h3, h4, h5⟩ := h
  have hl : x.kind = 1 → g.locals.getD x.a.toNat 0 = f.locals.getD x.a.toNat 0 := fun hk => by
    rw [List.getD_eq_getElem?_getD, List.getD_eq_getElem?_getD, h5.2 _ (hx hk)]
  have hset : ∀ v, LocR p (f.locals.set x.a.toNat v) (g.locals.set x.a.toNat v) := fun v => ⟨by simp [h5.1], fun i hi => by
    rw [List.getElem?_set, List.getElem?_set, h5.1, h5.2 i hi]⟩
  unfold oneI
  by_cases c0 : x.kind = 0
  · rw [if_pos c0, if_pos c0]; exact ⟨h1, h2, by simp [h3], by simp [h4], h5⟩
  rw [if_neg c0, if_neg c0]
  by_cases c1 : x.kind = 1
  · rw [if_pos c1, if_pos c1]; exact ⟨h1, h2, by simp [h3], by simp only [h4, hl c1], h5⟩
  rw [if_neg c1, if_neg c1]
  by_cases c2 : x.kind = 2
  · rw [if_pos c2, if_pos c2]; exact ⟨h1, h2, by simp [h3], by simp [h4], by simp only [h4]; exact hset _⟩
  rw [if_neg c2, if_neg c2]
  by_cases c10 : x.kind = 10
  · rw [if_pos c10, if_pos c10]; exact ⟨h1, h2, by simp [h3], by simp [h4], h5⟩
  rw [if_neg c10, if_neg c10]
  by_cases c11 : x.kind = 11
  · rw [if_pos c11, if_pos c11]; exact ⟨h1, h2, by simp [h3], by simp [h4], h5⟩
  rw [if_neg c11, if_neg c11]
  by_cases c12 : x.kind = 12
  · rw [if_pos c12, if_pos c12]; exact ⟨h1, h2, rfl, by simp [h4], h5⟩
  rw [if_neg c12, if_neg c12]
  by_cases c13 : x.kind = 13
  · rw [if_pos c13, if_pos c13]; exact ⟨h1, h2, by simp [h3, h4], by simp [h4], h5⟩
  rw [if_neg c13, if_neg c13]
  by_cases c14 : x.kind = 14
  · rw [if_pos c14, if_pos c14]
    by_cases hd : 12 ≤ n
    · rw [if_pos hd, if_pos hd]; exact ⟨h1, h2, by simp [h3], by simp [h4], h5⟩
    · rw [if_neg hd, if_neg hd]; exact ⟨h1, h2, by simp [h3], by simp [h4], h5⟩
  rw [if_neg c14, if_neg c14]
  by_cases c15 : x.kind = 15
  · rw [if_pos c15, if_pos c15]; exact ⟨h1, h2, by simp [h3], by simp [h4], h5⟩
  rw [if_neg c15, if_neg c15]
  by_cases c16 : x.kind = 16
  · rw [if_pos c16, if_pos c16]; exact ⟨h1, h2, by simp [h3], by simp [h4], h5⟩
  rw [if_neg c16, if_neg c16]
  simp only [h4]
  split
  · exact ⟨h1, h2, by simp [h3], rfl, h5⟩
  · exact ⟨h1, h2, by simp [h3], rfl, h5⟩
theorem one_relF {p : List Fn} {f g : Frm} (h : FrmR p f g) {x : Ins} (hx : x.kind = 1 → readB p x.a.toNat = true) (n : Nat) : FrmR p (oneI p f x n).1 (oneI p g x n).1 := by
  rcases one_rel h hx n with h | ⟨a, b, c, d, e⟩
  · exact h
  · exact ⟨a, b, c, d, e⟩
/-- What came of it is the same. -/
theorem one_res {p : List Fn} {f g : Frm} (h : FrmR p f g) {x : Ins} (n : Nat) : (oneI p g x n).2 = (oneI p f x n).2 := by
  obtain ⟨h1, h2, h3, h4, h5⟩ := h
  unfold oneI
  by_cases c0 : x.kind = 0
  · rw [if_pos c0, if_pos c0]
  rw [if_neg c0, if_neg c0]
  by_cases c1 : x.kind = 1
  · rw [if_pos c1, if_pos c1]
  rw [if_neg c1, if_neg c1]
  by_cases c2 : x.kind = 2
  · rw [if_pos c2, if_pos c2]
  rw [if_neg c2, if_neg c2]
  by_cases c10 : x.kind = 10
  · rw [if_pos c10, if_pos c10]
  rw [if_neg c10, if_neg c10]
  by_cases c11 : x.kind = 11
  · rw [if_pos c11, if_pos c11]
  rw [if_neg c11, if_neg c11]
  by_cases c12 : x.kind = 12
  · rw [if_pos c12, if_pos c12]
  rw [if_neg c12, if_neg c12]
  by_cases c13 : x.kind = 13
  · rw [if_pos c13, if_pos c13]
  rw [if_neg c13, if_neg c13]
  by_cases c14 : x.kind = 14
  · rw [if_pos c14, if_pos c14]
    by_cases hd : 12 ≤ n
    · rw [if_pos hd, if_pos hd]
    · rw [if_neg hd, if_neg hd, h4]
  rw [if_neg c14, if_neg c14]
  by_cases c15 : x.kind = 15
  · rw [if_pos c15, if_pos c15, h4]
  rw [if_neg c15, if_neg c15]
  by_cases c16 : x.kind = 16
  · rw [if_pos c16, if_pos c16, h4]
  rw [if_neg c16, if_neg c16]
  simp only [h4]
  split <;> rfl
theorem ins_read {p : List Fn} {f : Frm} (h0 : f.fn = 0) (ha : ∀ x, codeAt p f.fn f.pc = some x → x.kind = 1 → 0 ≤ x.a) : (insAt p f).kind = 1 → readB p (insAt p f).a.toNat = true := fun hk => by
  unfold insAt at hk ⊢
  cases hc : codeAt p f.fn f.pc with
  | none => rw [hc] at hk; simp at hk
  | some x =>
    rw [hc] at hk
    simp only [Option.getD_some] at hk ⊢
    have h1 := ha x hc hk
    unfold codeAt at hc
    rw [h0] at hc
    unfold readB
    simp only [Int.toNat_zero] at hc
    cases hp : p[0]? with
    | none => rw [hp] at hc; cases hc
    | some g =>
      rw [hp] at hc
      simp only at hc ⊢
      rw [List.any_eq_true]
      refine ⟨x, List.mem_of_getElem? hc, decide_eq_true ?_⟩
      cases x with
      | mk k a => simp only at hk h1 ⊢; rw [hk, Int.toNat_of_nonneg h1]
theorem ins_same {p : List Fn} {f g : Frm} (h : FrmR p f g) : insAt p g = insAt p f := by unfold insAt; rw [h.a, h.b, h.c]
/-- A step of two states that differ in what is never loaded. -/
theorem once_rel {p : List Fn} (hc : ∀ fn pc x, codeAt p fn pc = some x → x.kind = 1 → 0 ≤ x.a) {s t : Stt} (h : SttR p s t) (hne : s.frames ≠ []) : SttR p (onceS p s) (onceS p t) := by
  obtain ⟨hf, h1, h2, h3, h4⟩ := h
  obtain ⟨sf, su, so, sd, sv⟩ := s
  obtain ⟨tf, tu, tout, td, tv⟩ := t
  simp only at hf h1 h2 h3 h4 hne
  subst h1 h2 h3 h4
  unfold onceS
  simp only
  by_cases h0 : tu = 0
  · rw [if_pos h0, if_pos h0]
    exact ⟨.inl ⟨rfl, rfl⟩, rfl, rfl, rfl, rfl⟩
  rw [if_neg h0, if_neg h0]
  rcases hf with ⟨e1, e2⟩ | ⟨f, g, r, rfl, rfl, hr⟩
  · exact absurd e1 hne
  rcases List.eq_nil_or_concat r with rfl | ⟨l, q, rfl⟩
  · have t1 : topF ⟨[f], tu, tout, td, tv⟩ = f := rfl
    have t2 : topF ⟨[g], tu, tout, td, tv⟩ = g := rfl
    rw [t1, t2, ins_same hr]
    have hx := ins_read hr.a (fun x => hc f.fn f.pc x)
    have e2 := one_res hr (x := insAt p f) 1
    have e1 := one_relF hr hx 1
    simp only [List.length_cons, List.length_nil, Nat.zero_add]
    rw [e2]
    cases hR : (oneI p f (insAt p f) 1).2 with
    | next => exact ⟨.inr ⟨_, _, [], rfl, rfl, e1⟩, rfl, rfl, rfl, rfl⟩
    | print v => exact ⟨.inr ⟨_, _, [], rfl, rfl, e1⟩, rfl, rfl, rfl, rfl⟩
    | call fn args => exact ⟨.inr ⟨_, _, [_], rfl, rfl, e1⟩, rfl, rfl, rfl, rfl⟩
    | ret v => exact ⟨.inl ⟨rfl, rfl⟩, rfl, rfl, rfl, rfl⟩
    | over d => exact ⟨.inl ⟨rfl, rfl⟩, rfl, rfl, rfl, rfl⟩
  · simp only [List.concat_eq_append] at hne ⊢
    have ec : ∀ f : Frm, f :: (l ++ [q]) = (f :: l) ++ [q] := fun _ => rfl
    have t1 : topF ⟨f :: (l ++ [q]), tu, tout, td, tv⟩ = q := by show (f :: (l ++ [q])).getLastD default = q; rw [ec, List.getLastD_concat]
    have t2 : topF ⟨g :: (l ++ [q]), tu, tout, td, tv⟩ = q := by show (g :: (l ++ [q])).getLastD default = q; rw [ec, List.getLastD_concat]
    have dl : ∀ f : Frm, (f :: (l ++ [q])).dropLast = f :: l := fun f => by rw [ec, List.dropLast_concat]
    have ln : ∀ f : Frm, (f :: (l ++ [q])).length = l.length + 2 := fun f => by simp
    rw [t1, t2]
    simp only [dl, ln]
    cases hR : (oneI p q (insAt p q) (l.length + 2)).2 with
    | next => exact ⟨.inr ⟨f, g, l ++ [_], rfl, rfl, hr⟩, rfl, rfl, rfl, rfl⟩
    | print v => exact ⟨.inr ⟨f, g, l ++ [_], rfl, rfl, hr⟩, rfl, rfl, rfl, rfl⟩
    | call fn args => exact ⟨.inr ⟨f, g, l ++ [_, _], rfl, rfl, hr⟩, rfl, rfl, rfl, rfl⟩
    | over d => exact ⟨.inl ⟨rfl, rfl⟩, rfl, rfl, rfl, rfl⟩
    | ret v =>
      simp only
      rw [if_neg (by omega), if_neg (by omega)]
      rcases List.eq_nil_or_concat l with rfl | ⟨l2, q2, rfl⟩
      · exact ⟨.inr ⟨_, _, [], rfl, rfl, ⟨hr.a, hr.b, hr.c, by simp only [List.getLastD]; simp [hr.d], hr.e⟩⟩, rfl, rfl, rfl, rfl⟩
      · have ec2 : ∀ f : Frm, f :: (l2 ++ [q2]) = (f :: l2) ++ [q2] := fun _ => rfl
        have d2 : ∀ f : Frm, (f :: (l2 ++ [q2])).dropLast = f :: l2 := fun f => by rw [ec2, List.dropLast_concat]
        have g2 : ∀ f : Frm, (f :: (l2 ++ [q2])).getLastD default = q2 := fun f => by rw [ec2, List.getLastD_concat]
        simp only [List.concat_eq_append, d2, g2]
        exact ⟨.inr ⟨f, g, l2 ++ [_], rfl, rfl, hr⟩, rfl, rfl, rfl, rfl⟩
theorem stepN_rel {p : List Fn} (hc : ∀ fn pc x, codeAt p fn pc = some x → x.kind = 1 → 0 ≤ x.a) {s t : Stt} (h : SttR p s t) (hs : stateB p s = true) : SttR p (stepN p s) (stepN p t) ∧ stateB p (stepN p s) = true := by
  unfold stepN
  rw [h.dn]
  by_cases hd : s.done = 0
  · rw [if_pos hd, if_pos hd]
    refine ⟨once_rel hc h ?_, once_state hs hd⟩
    obtain ⟨_, _, _, _, _, _, l, f, ef, _⟩ := state_of hs hd
    rw [ef]; simp
  · rw [if_neg hd, if_neg hd]; exact ⟨h, hs⟩
theorem runN_rel {p : List Fn} (hc : ∀ fn pc x, codeAt p fn pc = some x → x.kind = 1 → 0 ≤ x.a) : ∀ (n : Nat) {s t : Stt}, SttR p s t → stateB p s = true → SttR p (runN p n s) (runN p n t)
  | 0, _, _, h, _ => h
  | n + 1, _, _, h, hs => by
    obtain ⟨h1, h2⟩ := stepN_rel hc h hs
    exact runN_rel hc n h1 h2
theorem loads_nonneg {p : List Fn} (hp : packs p = true) : ∀ fn pc x, codeAt p fn pc = some x → x.kind = 1 → 0 ≤ x.a := by
  intro fn pc x h hk
  unfold codeAt at h
  cases hg : p[fn.toNat]? with
  | none => rw [hg] at h; cases h
  | some g =>
    rw [hg] at h
    simp only at h
    obtain ⟨h1, rfl⟩ := List.getElem?_eq_some_iff.1 hg
    obtain ⟨h2, rfl⟩ := List.getElem?_eq_some_iff.1 h
    have hm := may_mem (fnMay_of (packs_fn hp h1)).2.2.2.2 h2
    unfold insMay at hm
    rw [hk] at hm
    simp at hm
    exact hm.1
/-- The plain law. -/
theorem args_law {p : List Fn} {xs ys : List Int} {m : Int} (hl : ys.length = xs.length) (hn : xs.all isNum = true → ys.all isNum = true) (hr : ∀ i (h : i < xs.length) (h' : i < ys.length), readB p i = true → ys[i] = xs[i]) :
    evalC p xs m = 800 ∨ (evalC p xs m = 0 ∧ evalC p ys m = 0 ∧ evalR p xs m = evalR p ys m) := by
  cases hb : startB p xs m with
  | false => exact .inl (evalN hb).2.1
  | true =>
    have hb2 : startB p ys m = true := by
      unfold startB at hb ⊢
      simp only [Bool.and_eq_true, decide_eq_true_eq] at hb ⊢
      obtain ⟨⟨⟨⟨a, b⟩, c⟩, d⟩, e⟩ := hb
      exact ⟨⟨⟨⟨a, by rw [hl]; exact b⟩, hn c⟩, d⟩, e⟩
    obtain ⟨e1, c1, _⟩ := evalY hb
    obtain ⟨e2, c2, _⟩ := evalY hb2
    refine .inr ⟨c1, c2, ?_⟩
    have hv : verifyOf p = 0 := by
      unfold startB at hb
      simp only [Bool.and_eq_true, decide_eq_true_eq] at hb
      exact hb.1.1.1.1
    have hR : SttR p (startS p xs m) (startS p ys m) := by
      unfold startS
      rw [if_pos hb, if_pos hb2]
      refine ⟨.inr ⟨_, _, [], rfl, rfl, ⟨rfl, rfl, rfl, rfl, ?_⟩⟩, rfl, rfl, rfl, rfl⟩
      unfold beginL
      refine ⟨by simp [hl], fun i hi => ?_⟩
      by_cases h : i < xs.length
      · have h' : i < ys.length := by omega
        rw [List.getElem?_append_left h, List.getElem?_append_left h', List.getElem?_eq_getElem h, List.getElem?_eq_getElem h', hr i h h' hi]
      · rw [List.getElem?_append_right (by omega), List.getElem?_append_right (by omega), hl]
    have hf : (startS p ys m).fuel = (startS p xs m).fuel := hR.fu
    have hE := runN_rel (loads_nonneg (verifyOf_packs hv)) ((startS p xs m).fuel.toNat + 1) hR (start_state hb)
    rw [e1, e2]
    unfold endS
    rw [hf]
    unfold resOf
    rw [hE.fu, hE.ou, hE.dn, hE.va]
end Go.Proofs.YtpfgklkdldkajaaGreatDoor

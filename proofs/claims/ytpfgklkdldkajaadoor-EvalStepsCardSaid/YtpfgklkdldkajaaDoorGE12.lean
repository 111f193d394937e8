/- A step of a state that may be leads to one that may be. No program in sight. '(*book).may', 'frame.After' answer what the plain definitions say. Conditions: the book, the frame lie in memory as they are said; the program is verified. 'frame.After' answers what the plain definition says. Conditions: the program, its heights lie in memory as they are said; the program is verified. -/
import Derived.Test.YtpfgklkdldkajaaDoorGE11
namespace Go.Proofs.YtpfgklkdldkajaaDoor

theorem not_last {p : List Fn} {f : Fn} (hm : codeMay f.code = true) (hpl : plainOf p f = none) {pc : Nat} (hr : Reach f.code pc) (hpc : pc < f.code.length) (h12 : f.code[pc].kind ≠ 12) (h16 : f.code[pc].kind ≠ 16) : pc + 1 < f.code.length := by
  by_cases hl : pc + 1 < f.code.length
  · exact hl
  · have hend := (plainOf_none hpl).2
    unfold endBad at hend
    have hlast : pc = f.code.length - 1 := by omega
    subst hlast
    have hR := (reachL_iff hm).2 hr
    unfold Has at hR
    rw [hR, List.getElem?_eq_getElem hpc] at hend
    simp [h12, h16] at hend
theorem nx_next {code : List Ins} {pc : Nat} (hpc : pc < code.length) (h12 : code[pc].kind ≠ 12) (h16 : code[pc].kind ≠ 16) (hl : pc + 1 < code.length) : pc + 1 ∈ nx code pc := by
  unfold nx nextOf
  rw [List.getElem?_eq_getElem hpc]
  refine List.mem_map.2 ⟨(pc : Int) + 1, ?_, by omega⟩
  simp only
  rw [if_pos ⟨h16, h12, hl⟩]
  simp
theorem nx_jump {code : List Ins} {pc : Nat} (hpc : pc < code.length) (hk : code[pc].kind = 12 ∨ code[pc].kind = 13) (ha : code[pc].a < code.length) : code[pc].a.toNat ∈ nx code pc := by
  unfold nx nextOf
  rw [List.getElem?_eq_getElem hpc]
  refine List.mem_map.2 ⟨code[pc].a, ?_, rfl⟩
  simp only
  split
  · by_cases he : [(pc : Int) + 1] ≠ [code[pc].a]
    · rw [if_pos ⟨hk, ha, he⟩]; simp
    · have := Classical.not_not.1 he
      injection this with e
      rw [← e]; simp
  · rw [if_pos ⟨hk, ha, by simp⟩]; simp
theorem frameB_mk {p : List Fn} {f : Frm} {less k : Int} (hh : heightAt p f.fn f.pc = k) (h0 : 0 ≤ k) (hl : (f.locals.length : Int) = localsAt p f.fn) (hs : (f.stack.length : Int) = k - less) (h1 : f.locals.all isNum = true) (h2 : f.stack.all isNum = true) : frameB p f less = true := by
  unfold frameB
  rw [hh, decide_eq_true h0, decide_eq_true hl, decide_eq_true hs, h1, h2]; rfl
theorem frameB_of {p : List Fn} {f : Frm} {less : Int} (h : frameB p f less = true) : 0 ≤ heightAt p f.fn f.pc ∧ (f.locals.length : Int) = localsAt p f.fn ∧ (f.stack.length : Int) = heightAt p f.fn f.pc - less ∧ f.locals.all isNum = true ∧ f.stack.all isNum = true := by
  unfold frameB at h
  simp only [Bool.and_eq_true, decide_eq_true_eq] at h
  exact ⟨h.1.1.1.1, h.1.1.1.2, h.1.1.2, h.1.2, h.2⟩
theorem all_sub {l m : List Int} (h : l.all isNum = true) (hs : ∀ x ∈ m, x ∈ l) : m.all isNum = true := List.all_eq_true.2 fun x hx => List.all_eq_true.1 h x (hs x hx)
theorem all_drop {l : List Int} (h : l.all isNum = true) : l.dropLast.all isNum = true := all_sub h fun _ hx => (List.dropLast_subset l) hx
theorem all_last {l : List Int} (h : l.all isNum = true) (hl : 0 < l.length) : isNum (lastN l) = true := by
  have hne : l ≠ [] := by intro e; rw [e] at hl; cases hl
  unfold lastN
  rw [List.getLastD_eq_getLast?, List.getLast?_eq_some_getLast hne]
  exact List.all_eq_true.1 h _ (List.getLast_mem hne)
theorem all_snoc {l : List Int} {x : Int} (h : l.all isNum = true) (hx : isNum x = true) : (l ++ [x]).all isNum = true := by rw [List.all_append, h]; simp [hx]
theorem all_set {l : List Int} {k : Nat} {x : Int} (h : l.all isNum = true) (hx : isNum x = true) : (l.set k x).all isNum = true := List.all_eq_true.2 fun y hy => by
  rcases List.mem_or_eq_of_mem_set hy with h1 | rfl
  · exact List.all_eq_true.1 h y h1
  · exact hx
theorem all_get {l : List Int} {k : Nat} (h : l.all isNum = true) : isNum (l.getD k 0) = true := by
  by_cases hk : k < l.length
  · rw [List.getD_eq_getElem?_getD, List.getElem?_eq_getElem hk]; exact List.all_eq_true.1 h _ (List.getElem_mem hk)
  · rw [List.getD_eq_getElem?_getD, List.getElem?_eq_none (by omega)]; rfl
/-- What an instruction may come to. -/
def ResOk (p : List Fn) (r : Frm × Res) : Prop := match r.2 with
  | .next => frameB p r.1 0 = true
  | .print v => frameB p r.1 0 = true ∧ isNum v = true
  | .call fn args => lessB p r.1 (beginF p fn args) = true ∧ frameB p (beginF p fn args) 0 = true
  | .ret v => isNum v = true
  | .over d => d = 2 ∨ d = 3
theorem doN_num (k a b : Int) : isNum (doN k a b).1 = true := by unfold doN; split; rfl; exact wrapN_num _
theorem one_fn {p : List Fn} {f : Frm} {x : Ins} {d : Nat} : (oneI p f x d).1.fn = f.fn := by
  unfold oneI
  by_cases c0 : x.kind = 0
  · rw [if_pos c0]
  rw [if_neg c0]
  by_cases c1 : x.kind = 1
  · rw [if_pos c1]
  rw [if_neg c1]
  by_cases c2 : x.kind = 2
  · rw [if_pos c2]
  rw [if_neg c2]
  by_cases c10 : x.kind = 10
  · rw [if_pos c10]
  rw [if_neg c10]
  by_cases c11 : x.kind = 11
  · rw [if_pos c11]
  rw [if_neg c11]
  by_cases c12 : x.kind = 12
  · rw [if_pos c12]
  rw [if_neg c12]
  by_cases c13 : x.kind = 13
  · rw [if_pos c13]
  rw [if_neg c13]
  by_cases c14 : x.kind = 14
  · rw [if_pos c14]
    split <;> rfl
  rw [if_neg c14]
  by_cases c15 : x.kind = 15
  · rw [if_pos c15]
  rw [if_neg c15]
  by_cases c16 : x.kind = 16
  · rw [if_pos c16]
  rw [if_neg c16]
  simp only
  split <;> rfl
/-- A frame in hand: its instruction, and what follows. -/
theorem one_ok {p : List Fn} (hv : verifyOf p = 0) {f : Frm} (hf : frameB p f 0 = true) (d : Nat) : ResOk p (oneI p f (insAt p f) d) := by
  obtain ⟨f1, f2, f3, f4, f5⟩ := frameB_of hf
  obtain ⟨fn, pc, ha⟩ := At.of hv f1
  obtain ⟨x, hx, hfn, hpc, ex⟩ := At.finds hv ha
  rw [hx.ins]
  have hp := verifyOf_packs hv
  have hfm := fnMay_of (packs_fn hp hfn)
  have hm := hfm.2.2.2.2
  have hpl := (heights_len (verifyOf_fn hv hfn)).2.2
  obtain ⟨k0, k16, hb⟩ := may_of hx.may
  have hrg := hx.ranged hfn
  have hbn := behind_nonneg hx.takes
  have h12 : x.kind ≠ 12 → x.kind ≠ 16 → heightAt p f.fn (f.pc + 1) = behindH p x (heightAt p f.fn f.pc) := fun n12 n16 => by
    have hl := not_last hm hpl ha.reach hpc (by rw [← ex]; exact n12) (by rw [← ex]; exact n16)
    have := hx.goes (pc + 1) ⟨hfn, nx_next hpc (by rw [← ex]; exact n12) (by rw [← ex]; exact n16) hl⟩
    rw [show f.pc + 1 = ((pc + 1 : Nat) : Int) by have := ha.epc; omega]
    exact this
  have hj : x.kind = 12 ∨ x.kind = 13 → heightAt p f.fn x.a = behindH p x (heightAt p f.fn f.pc) := fun hk => by
    have ha0 : 0 ≤ x.a := (hb (by omega)).1
    have hlt : x.a < p[fn].code.length := by
      unfold rangedB at hrg
      rw [if_neg (by omega), if_pos hk] at hrg
      simpa using hrg
    have h1 := nx_jump hpc (by rw [← ex]; exact hk) (by rw [← ex]; exact hlt)
    rw [← ex] at h1
    have := hx.goes x.a.toNat ⟨hfn, h1⟩
    rwa [Int.toNat_of_nonneg ha0] at this
  have ht := hx.takes
  have hl0 : ∀ n : Int, takesOf x.kind (argsOf p x) = n → n ≤ f.stack.length := fun n e => by rw [e] at ht; omega
  have hdl : f.stack.dropLast.length = f.stack.length - 1 := List.length_dropLast
  unfold oneI
  by_cases c0 : x.kind = 0
  · rw [if_pos c0]
    have e := h12 (by omega) (by omega)
    refine frameB_mk e hbn f2 ?_ f4 (all_snoc f5 ?_)
    · simp [behindH, takesOf, putsOf, c0]; omega
    · have := hx.may
      unfold insMay at this
      rw [if_neg (by omega), if_pos c0] at this
      exact this
  rw [if_neg c0]
  by_cases c1 : x.kind = 1
  · rw [if_pos c1]
    have e := h12 (by omega) (by omega)
    refine frameB_mk e hbn f2 ?_ f4 (all_snoc f5 (all_get f4))
    simp [behindH, takesOf, putsOf, c1]; omega
  rw [if_neg c1]
  by_cases c2 : x.kind = 2
  · rw [if_pos c2]
    have e := h12 (by omega) (by omega)
    have hl := hl0 1 (by simp [takesOf, c2])
    refine frameB_mk e hbn (by simpa using f2) ?_ (all_set f4 (all_last f5 (by omega))) (all_drop f5)
    simp [behindH, takesOf, putsOf, c2]; omega
  rw [if_neg c2]
  by_cases c10 : x.kind = 10
  · rw [if_pos c10]
    have e := h12 (by omega) (by omega)
    have hl := hl0 1 (by simp [takesOf, c10])
    refine frameB_mk e hbn f2 ?_ f4 (all_snoc f5 (all_last f5 (by omega)))
    simp [behindH, takesOf, putsOf, c10]; omega
  rw [if_neg c10]
  by_cases c11 : x.kind = 11
  · rw [if_pos c11]
    have e := h12 (by omega) (by omega)
    have hl := hl0 1 (by simp [takesOf, c11])
    refine frameB_mk e hbn f2 ?_ f4 (all_drop f5)
    simp [behindH, takesOf, putsOf, c11]; omega
  rw [if_neg c11]
  by_cases c12 : x.kind = 12
  · rw [if_pos c12]
    refine frameB_mk (hj (.inl c12)) hbn f2 ?_ f4 f5
    simp [behindH, takesOf, putsOf, c12]; omega
  rw [if_neg c12]
  by_cases c13 : x.kind = 13
  · rw [if_pos c13]
    have e := h12 (by omega) (by omega)
    have hl := hl0 1 (by simp [takesOf, c13])
    refine frameB_mk (k := behindH p x (heightAt p f.fn f.pc)) ?_ hbn f2 ?_ f4 (all_drop f5)
    · show heightAt p f.fn (if lastN f.stack = 0 then x.a else f.pc + 1) = _
      split
      · exact hj (.inr c13)
      · exact e
    · simp [behindH, takesOf, putsOf, c13]; omega
  rw [if_neg c13]
  by_cases c14 : x.kind = 14
  · rw [if_pos c14]
    split
    · exact .inr rfl
    have e := h12 (by omega) (by omega)
    have hax := argsOf_in hp x
    have hl := hl0 (argsOf p x) (by simp [takesOf, c14])
    have ha0 : 0 ≤ x.a := (hb (by omega)).1
    have hlt : x.a < p.length := by
      unfold rangedB at hrg
      rw [if_neg (by omega), if_neg (by omega), if_pos c14] at hrg
      simpa using hrg
    obtain ⟨m, hm2⟩ := Int.eq_ofNat_of_zero_le ha0
    have hml : m < p.length := by omega
    have hfm2 := fnMay_of (packs_fn hp hml)
    have ea : argsOf p x = p[m].args := by
      unfold argsOf; rw [if_pos c14, hm2, Int.toNat_natCast, List.getElem?_eq_getElem hml]
    have elo : localsAt p x.a = p[m].locals := by unfold localsAt; rw [hm2, Int.toNat_natCast, List.getElem?_eq_getElem hml]
    have hdrop : (f.stack.drop (f.stack.length - (argsOf p x).toNat)).length = (argsOf p x).toNat := by rw [List.length_drop]; omega
    constructor
    · show (frameB p _ 1 && behindB p f.fn (f.pc + 1) x.a) = true
      rw [Bool.and_eq_true]
      constructor
      · refine frameB_mk e hbn f2 ?_ f4 (all_sub f5 fun _ h => List.mem_of_mem_take h)
        simp [behindH, takesOf, putsOf, c14]; omega
      · unfold behindB
        rw [show f.pc + 1 - 1 = f.pc by omega, decide_eq_true f1, hx.code]
        have : x = ⟨14, x.a⟩ := by cases x; simp only at c14; rw [c14]
        simp [← this]
    · have hg2 := heights_good hfm2.2.2.2.2 (verifyOf_fn hv hml)
      refine frameB_mk (k := 0) ?_ (by decide) ?_ (by simp [beginF]) ?_ rfl
      · show heightAt p x.a 0 = 0
        rw [hm2, heightAt_yes hv hml (by decide)]
        show ((heightsF p p[m]).1[0]?).getD (-1) = 0
        rw [hg2.zero]; rfl
      · simp only [beginF, List.length_append, List.length_replicate, hdrop, elo]
        omega
      · simp only [beginF]
        rw [List.all_append, all_sub f5 (fun _ h => List.mem_of_mem_drop h)]
        simp [List.all_replicate, isNum]
  rw [if_neg c14]
  by_cases c15 : x.kind = 15
  · rw [if_pos c15]
    have e := h12 (by omega) (by omega)
    have hl := hl0 1 (by simp [takesOf, c15])
    refine ⟨frameB_mk e hbn f2 ?_ f4 (all_drop f5), all_last f5 (by omega)⟩
    simp [behindH, takesOf, putsOf, c15]; omega
  rw [if_neg c15]
  by_cases c16 : x.kind = 16
  · rw [if_pos c16]
    have hl := hl0 1 (by simp [takesOf, c16])
    exact all_last f5 (by omega)
  rw [if_neg c16]
  have e := h12 (by omega) (by omega)
  have hl := hl0 2 (by unfold takesOf; rw [if_neg (by omega), if_neg (by omega), if_neg (by omega)])
  simp only
  split
  · exact .inl rfl
  · refine frameB_mk e hbn f2 ?_ f4 (all_snoc (all_drop (all_drop f5)) (doN_num _ _ _))
    have hp1 : putsOf x.kind = 1 := by unfold putsOf; rw [if_neg (by omega), if_neg (by omega)]
    have ht2 : takesOf x.kind (argsOf p x) = 2 := by unfold takesOf; rw [if_neg (by omega), if_neg (by omega), if_neg (by omega)]
    simp [behindH, hp1, ht2]; omega
theorem one_depth {p : List Fn} {f : Frm} {x : Ins} {d : Nat} {fn : Int} {args : List Int} (h : (oneI p f x d).2 = .call fn args) : d < 12 := by
  rcases Nat.lt_or_ge d 12 with hd | hd
  · exact hd
  · exfalso
    revert h
    unfold oneI
    by_cases c0 : x.kind = 0
    · rw [if_pos c0]; exact fun h => by cases h
    rw [if_neg c0]
    by_cases c1 : x.kind = 1
    · rw [if_pos c1]; exact fun h => by cases h
    rw [if_neg c1]
    by_cases c2 : x.kind = 2
    · rw [if_pos c2]; exact fun h => by cases h
    rw [if_neg c2]
    by_cases c10 : x.kind = 10
    · rw [if_pos c10]; exact fun h => by cases h
    rw [if_neg c10]
    by_cases c11 : x.kind = 11
    · rw [if_pos c11]; exact fun h => by cases h
    rw [if_neg c11]
    by_cases c12 : x.kind = 12
    · rw [if_pos c12]; exact fun h => by cases h
    rw [if_neg c12]
    by_cases c13 : x.kind = 13
    · rw [if_pos c13]; exact fun h => by cases h
    rw [if_neg c13]
    by_cases c14 : x.kind = 14
    · rw [if_pos c14, if_pos hd]; exact fun h => by cases h
    rw [if_neg c14]
    by_cases c15 : x.kind = 15
    · rw [if_pos c15]; exact fun h => by cases h
    rw [if_neg c15]
    by_cases c16 : x.kind = 16
    · rw [if_pos c16]; exact fun h => by cases h
    rw [if_neg c16]
    simp only
    split <;> exact fun h => by cases h
/-- Frames beneath one of a function. -/
def Under (p : List Fn) : List Frm → Int → Prop
  | [], _ => True
  | [f], fn => frameB p f 1 = true ∧ behindB p f.fn f.pc fn = true
  | f :: g :: l, fn => lessB p f g = true ∧ Under p (g :: l) fn
theorem runs_snoc (p : List Fn) : ∀ (l : List Frm) (f : Frm), runsFrom p (l ++ [f]) = true ↔ Under p l f.fn ∧ frameB p f 0 = true
  | [], f => by simp [runsFrom, Under]
  | [g], f => by
    show (lessB p g f && runsFrom p [f]) = true ↔ _
    simp [runsFrom, Under, lessB, Bool.and_eq_true]
  | g :: k :: l, f => by
    show (lessB p g k && runsFrom p ((k :: l) ++ [f])) = true ↔ _
    rw [Bool.and_eq_true, runs_snoc p (k :: l) f, Under, and_assoc]
theorem under_snoc (p : List Fn) : ∀ (l : List Frm) (g : Frm) (fn : Int), Under p (l ++ [g]) fn ↔ Under p l g.fn ∧ frameB p g 1 = true ∧ behindB p g.fn g.pc fn = true
  | [], g, fn => by simp [Under]
  | [k], g, fn => by
    show (lessB p k g = true ∧ Under p [g] fn) ↔ _
    simp [Under, lessB, Bool.and_eq_true]
  | k :: m :: l, g, fn => by
    show (lessB p k m = true ∧ Under p ((m :: l) ++ [g]) fn) ↔ _
    rw [under_snoc p (m :: l) g fn, Under, and_assoc]
theorem state_of {p : List Fn} {s : Stt} (h : stateB p s = true) (hd : s.done = 0) : verifyOf p = 0 ∧ 0 ≤ s.fuel ∧ s.fuel ≤ 100000 ∧ (s.out.length : Int) ≤ 100000 - s.fuel ∧ s.out.all isNum = true ∧ s.value = 0 ∧ ∃ l f, s.frames = l ++ [f] ∧ l.length < 12 ∧ Under p l f.fn ∧ frameB p f 0 = true := by
  unfold stateB at h
  rw [if_pos hd] at h
  simp only [Bool.and_eq_true, decide_eq_true_eq] at h
  obtain ⟨⟨⟨⟨⟨h1, h2⟩, h3⟩, h4⟩, h5⟩, h6, h7⟩ := h
  unfold runsB at h7
  simp only [Bool.and_eq_true, decide_eq_true_eq] at h7
  obtain ⟨⟨h8, h9⟩, h10⟩ := h7
  have hne : s.frames ≠ [] := by intro e; rw [e] at h8; simp at h8
  refine ⟨h1, h2, h3, h4, h5, h6, s.frames.dropLast, s.frames.getLast hne, (List.dropLast_concat_getLast hne).symm, by rw [List.length_dropLast]; omega, ?_⟩
  rw [← List.dropLast_concat_getLast hne] at h10
  exact (runs_snoc p _ _).1 h10
theorem state_mk {p : List Fn} {l : List Frm} {f : Frm} {fuel : Int} {out : List Int} (h1 : verifyOf p = 0) (h2 : 0 ≤ fuel) (h3 : fuel ≤ 100000) (h4 : (out.length : Int) ≤ 100000 - fuel) (h5 : out.all isNum = true) (hl : l.length < 12) (hu : Under p l f.fn) (hf : frameB p f 0 = true) : stateB p ⟨l ++ [f], fuel, out, 0, 0⟩ = true := by
  unfold stateB runsB
  simp only
  rw [decide_eq_true h1, decide_eq_true h2, decide_eq_true h3, decide_eq_true h4, h5, (runs_snoc p l f).2 ⟨hu, hf⟩]
  simp; omega
theorem state_over {p : List Fn} {fuel done value : Int} {out : List Int} (h1 : verifyOf p = 0) (h2 : 0 ≤ fuel) (h3 : fuel ≤ 100000) (h4 : (out.length : Int) ≤ 100000 - fuel) (h5 : out.all isNum = true) (hd : 0 < done) (hd4 : done ≤ 4) (hv : if done = 1 then isNum value = true else value = 0) : stateB p ⟨[], fuel, out, done, value⟩ = true := by
  unfold stateB overB
  simp only
  rw [decide_eq_true h1, decide_eq_true h2, decide_eq_true h3, decide_eq_true h4, h5, if_neg (by omega), decide_eq_true hd, decide_eq_true hd4]
  by_cases h : done = 1
  · rw [if_pos h] at hv ⊢; simp [hv]
  · rw [if_neg h] at hv ⊢; simp [hv]
/-- What a step leaves. -/
theorem once_state {p : List Fn} {s : Stt} (h : stateB p s = true) (hd : s.done = 0) : stateB p (onceS p s) = true := by
  obtain ⟨h1, h2, h3, h4, h5, h6, l, f, ef, hl, hu, hf⟩ := state_of h hd
  unfold onceS
  by_cases h0 : s.fuel = 0
  · rw [if_pos h0]
    exact state_over h1 (by omega) (by omega) (by omega) h5 (by decide) (by decide) (by simp)
  rw [if_neg h0]
  have et : topF s = f := by unfold topF; rw [ef]; simp
  have ed : s.frames.dropLast = l := by rw [ef]; simp
  have el : s.frames.length = l.length + 1 := by rw [ef]; simp
  rw [et, ed]
  have hok := one_ok h1 hf s.frames.length
  have hfn : (oneI p f (insAt p f) s.frames.length).1.fn = f.fn := one_fn
  have hdp := fun fn args => one_depth (p := p) (f := f) (x := insAt p f) (d := s.frames.length) (fn := fn) (args := args)
  generalize oneI p f (insAt p f) s.frames.length = r at *
  obtain ⟨g, r⟩ := r
  simp only at hfn hok hdp ⊢
  cases r with
  | next => exact state_mk h1 (by omega) (by omega) (by omega) h5 hl (by rw [hfn]; exact hu) hok
  | print v => exact state_mk h1 (by omega) (by omega) (by simp; omega) (all_snoc h5 hok.2) hl (by rw [hfn]; exact hu) hok.1
  | call fn args =>
    have hlt := hdp fn args rfl
    simp only
    rw [show l ++ [g, beginF p fn args] = (l ++ [g]) ++ [beginF p fn args] by simp]
    have hle : lessB p g (beginF p fn args) = true := hok.1
    unfold lessB at hle
    rw [Bool.and_eq_true] at hle
    exact state_mk h1 (by omega) (by omega) (by omega) h5 (by simp; omega) ((under_snoc p l g _).2 ⟨by rw [hfn]; exact hu, hle⟩) hok.2
  | over d =>
    have hok : d = 2 ∨ d = 3 := hok
    exact state_over h1 (by omega) (by omega) (by omega) h5 (by omega) (by omega) (by rw [if_neg (by omega)])
  | ret v =>
    simp only
    split
    · exact state_over h1 (by omega) (by omega) (by omega) h5 (by decide) (by decide) (by rw [if_pos rfl]; exact hok)
    · rename_i hle
      have hne : l ≠ [] := by intro e; rw [e] at el; simp at el; omega
      rw [← List.dropLast_concat_getLast hne] at hu
      obtain ⟨u1, u2, u3⟩ := (under_snoc p _ _ _).1 hu
      have eg : l.getLastD default = l.getLast hne := by rw [List.getLastD_eq_getLast?, List.getLast?_eq_some_getLast hne]; rfl
      rw [eg]
      obtain ⟨f1, f2, f3, f4, f5⟩ := frameB_of u2
      refine state_mk h1 (by omega) (by omega) (by omega) h5 (by simp; omega) u1 (frameB_mk rfl f1 f2 ?_ f4 (all_snoc f5 hok))
      simp; omega
end Go.Proofs.YtpfgklkdldkajaaDoor

namespace Go.Proofs.YtpfgklkdldkajaaDoor
open Go.RowKit

theorem frame_parts {p : List Fn} {f : Frm} {less h : Int} {g : Fn} {n : Nat} (hn : f.fn = n) (hg : p[n]? = some g) (hh : heightAt p f.fn f.pc = h) (h0 : 0 ≤ h) :
    frameB p f less = (decide ((f.locals.length : Int) = g.locals) && decide ((f.stack.length : Int) = h - less) && f.locals.all isNum && f.stack.all isNum) := by
  unfold frameB localsAt
  rw [hh, hn, Int.toNat_natCast, hg, decide_eq_true h0]
  rfl
/-- A callee that draws nothing, behind draws. -/
theorem quiet_more {P : Program} {f : FuncId} {args : Array Value} {w : World} {k n : Nat} {v : Value} (h : Calls P f args (w.drewN (k + n)) fun e w' => e = .returned v ∧ w' = w.drewN (k + n)) : Calls P f args (w.drewN (k + n)) fun e w'' => e = .returned v ∧ ∃ m, w'' = w.drewN (k + m) :=
  h.mono fun _ _ ⟨he, hm⟩ => ⟨he, n, hm⟩
theorem beq_dec (a b : Int) : (a == b) = decide (a = b) := by by_cases h : a = b <;> simp [h]
theorem cons_num (a b : Bool) : (a && b) = true ↔ a = true ∧ b = true := by cases a <;> cases b <;> simp
set_option maxRecDepth 100000 in
set_option maxHeartbeats 4000000 in
theorem bmay_any (B P F : Addr) (p : List Fn) (Ap H : Option Addr) (cp ch : Nat) (f : Frm) (less : Int) (w : World) (h01 : 0 ≤ less ∧ less ≤ 1) (hv : verifyOf p = 0) (hb : BookAt w B P p Ap cp H ch) (hf : FrmAt w F f) :
    Calls Tryd.prog 109 #[.pointer (some B), .pointer (some F), .int .i64 less] w (RetD (.bool (frameB p f less)) w) := by
  obtain ⟨fn, pc, ls, ss⟩ := f
  obtain ⟨f0, f1, ⟨A1, c1, f2, r1⟩, A2, c2, f3, r2⟩ := hf
  obtain ⟨b0, b1, bP, rp, rh⟩ := hb
  simp only at f0 f1 f2 f3 r1 r2
  have HV := Lib.hid hv
  have hpn := rp.1
  clear hv
  by_cases n1 : fn < 0
  · have HE := Lib.hid (frameB_no (p := p) (f := ⟨fn, pc, ls, ss⟩) (less := less) (heightAt_no (by simp only; omega)))
    have d1 : decide (fn < 0) = true := by simpa using n1
    go_enter Tryd.func109, Tryd.ntmps109
    go_wp2_with fail
    go_quiet (fail)
    go_wp2_with fail
    go_ret
    exact retD_of (by rw [HE.out]; rfl) ⟨_, rfl⟩
  obtain ⟨n, rfl⟩ := Int.eq_ofNat_of_zero_le (Int.not_lt.1 n1)
  have d1 : decide ((n : Int) < 0) = false := by simp
  by_cases n2 : p.length ≤ n
  · have HE := Lib.hid (frameB_no (p := p) (f := ⟨n, pc, ls, ss⟩) (less := less) (heightAt_no (by simp only; omega)))
    have d2 : decide (p.length ≤ n) = true := by simpa using n2
    go_enter Tryd.func109, Tryd.ntmps109
    go_wp2_with fail
    go_quiet (fail)
    go_wp2_with fail
    go_ret
    exact retD_of (by rw [HE.out]; rfl) ⟨_, rfl⟩
  have hn : n < p.length := by omega
  have d2 : decide (p.length ≤ n) = false := by simpa using hn
  by_cases n3 : pc < 0
  · have HE := Lib.hid (frameB_no (p := p) (f := ⟨n, pc, ls, ss⟩) (less := less) (heightAt_neg n3))
    have d3 : decide (pc < 0) = true := by simpa using n3
    go_enter Tryd.func109, Tryd.ntmps109
    go_wp2_with fail
    go_quiet (fail)
    go_wp2_with fail
    go_ret
    exact retD_of (by rw [HE.out]; rfl) ⟨_, rfl⟩
  obtain ⟨m, rfl⟩ := Int.eq_ofNat_of_zero_le (Int.not_lt.1 n3)
  have d3 : decide ((m : Int) < 0) = false := by simp
  obtain ⟨ad, rfl, Ac, cc, hF⟩ := fnAt_of rp (Below.refl _ _) hn
  have k0 := hF.c0
  have k1 := hF.c1
  have k2 := hF.c2
  have hcl := (codeMay_len (fnMay_of (packs_fn (verifyOf_packs HV.out) hn)).2.2.2.2).2
  by_cases n4 : p[n].code.length ≤ m
  · have HE := Lib.hid (frameB_no (p := p) (f := ⟨n, m, ls, ss⟩) (less := less) (heightAt_far HV.out hn (by simp only; omega)))
    have d4 : decide (p[n].code.length ≤ m) = true := by simpa using n4
    go_enter Tryd.func109, Tryd.ntmps109
    go_wp2_with fail
    go_quiet (fail)
    go_wp2_with fail
    go_ret
    exact retD_of (by rw [HE.out]; rfl) ⟨_, rfl⟩
  have hm : m < p[n].code.length := by omega
  have d4 : decide (p[n].code.length ≤ m) = false := by simpa using hm
  obtain ⟨hmb, hh, hrange⟩ := heightAt_in HV.out hn hm
  have hbl : n < (bookOf p).length := by simpa [bookOf] using hn
  obtain ⟨ah, rfl, Hn, cn, g0, gr⟩ := rh.at_ hbl
  rw [bookOf_at hn hbl] at g0 gr
  obtain ⟨an, rfl, g1⟩ := gr.at_ hmb
  have hbn : (heightsF p p[n]).1.length ≤ 9223372036854775807 := gr.1
  obtain ⟨h, eh⟩ : ∃ h, (heightsF p p[n]).1[m] = h := ⟨_, rfl⟩
  rw [eh] at g1 hh hrange
  obtain ⟨L, eL⟩ : ∃ L, (heightsF p p[n]).1.length = L := ⟨_, rfl⟩
  rw [eL] at g0 hmb hbn
  have HF := Lib.hid hF
  have HH := Lib.hid hh
  clear eh eL gr hF rh rp hh n1 n2 n3 n4
  by_cases e1 : h = -1
  · have HE := Lib.hid (frameB_no (p := p) (f := ⟨n, m, ls, ss⟩) (less := less) (HH.out.trans e1))
    have t1 : (h != -1) = false := by simpa using e1
    clear e1 hrange
    go_enter Tryd.func109, Tryd.ntmps109
    go_wp2_with fail
    go_quiet (fail)
    go_wp2_with fail
    go_quiet (fail)
    go_wp2_with fail
    go_quiet (fail)
    go_wp2_with fail
    go_ret
    exact retD_of (by rw [HE.out]; rfl) (by simp only [drewN_two]; exact ⟨_, rfl⟩)
  · obtain ⟨h0, h12⟩ := hrange.resolve_left e1
    have HE := Lib.hid (frame_parts (p := p) (f := ⟨n, m, ls, ss⟩) (less := less) (g := p[n]) rfl (List.getElem?_eq_getElem hn) HH.out h0)
    simp only at HE
    have t1 : (h != -1) = true := by simpa using e1
    have q1 : IntKind.i64.wrap (h - less) = h - less := IntWalk.i64_in _ (by omega)
    have HLS := Lib.hid (wrapAll_any A1 c1 ls)
    have HSS := Lib.hid (wrapAll_any A2 c2 ss)
    have R1 := Lib.hid r1
    have R2 := Lib.hid r2
    obtain ⟨w1, rfl⟩ : ∃ x, x = w := ⟨_, rfl⟩
    clear e1 hrange r1 r2
    by_cases e2 : (ls.length : Int) = p[n].locals
    · have t2 : ((ls.length : Int) == p[n].locals) = true := by simpa using e2
      by_cases e3 : (ss.length : Int) = h - less
      · have t3 : ((ss.length : Int) == h - less) = true := by simpa using e3
        have E2 := Lib.hid e2
        have E3 := Lib.hid e3
        clear e2 e3
        obtain ⟨x1, ex1⟩ : ∃ x1, ls.all isNum = x1 := ⟨_, rfl⟩
        obtain ⟨x2, ex2⟩ : ∃ x2, ss.all isNum = x2 := ⟨_, rfl⟩
        rw [ex1] at HLS HE
        rw [ex2] at HSS HE
        clear ex1 ex2
        cases x1
        all_goals
          go_enter Tryd.func109, Tryd.ntmps109
          go_wp2_with fail
          go_quiet (fail)
          go_wp2_with fail
          go_quiet (fail)
          go_wp2_with fail
          go_quiet ((go_at_call 47; with_reducible (first | exact quiet_more (HLS.out _ (R1.out.below (below_drew (Below.refl _ _) _))) | exact quiet_more (HSS.out _ (R2.out.below (below_drew (Below.refl _ _) _))))))
          go_wp2_with fail
          go_ret
          exact retD_of (by rw [HE.out, decide_eq_true E2.out, decide_eq_true E3.out]; rfl) (by simp only [drewN_two]; exact ⟨_, rfl⟩)
      · have t3 : ((ss.length : Int) == h - less) = false := by simpa using e3
        have E3 := Lib.hid e3
        clear e2 e3
        go_enter Tryd.func109, Tryd.ntmps109
        go_wp2_with fail
        go_quiet (fail)
        go_wp2_with fail
        go_quiet (fail)
        go_wp2_with fail
        go_quiet (fail)
        go_wp2_with fail
        go_ret
        exact retD_of (by rw [HE.out, decide_eq_false E3.out]; simp) (by simp only [drewN_two]; exact ⟨_, rfl⟩)
    · have t2 : ((ls.length : Int) == p[n].locals) = false := by simpa using e2
      have E2 := Lib.hid e2
      clear e2
      go_enter Tryd.func109, Tryd.ntmps109
      go_wp2_with fail
      go_quiet (fail)
      go_wp2_with fail
      go_quiet (fail)
      go_wp2_with fail
      go_quiet (fail)
      go_wp2_with fail
      go_ret
      exact retD_of (by rw [HE.out, decide_eq_false E2.out]; rfl) (by simp only [drewN_two]; exact ⟨_, rfl⟩)
end Go.Proofs.YtpfgklkdldkajaaDoor

namespace Go.Proofs.YtpfgklkdldkajaaDoor
open Go.RowKit

theorem codeAt_in {p : List Fn} {n m : Nat} (hn : n < p.length) (hm : m < p[n].code.length) : codeAt p n m = some p[n].code[m] := by
  unfold codeAt
  rw [Int.toNat_natCast, List.getElem?_eq_getElem hn, Int.toNat_natCast]
  exact List.getElem?_eq_getElem hm
theorem behind_no {p : List Fn} {fn pc called : Int} (h : heightAt p fn (pc - 1) = -1) : behindB p fn pc called = false := by unfold behindB; rw [h]; rfl
theorem behind_yes {p : List Fn} {n m : Nat} {pc called h : Int} (hp : pc - 1 = m) (hn : n < p.length) (hm : m < p[n].code.length) (hh : heightAt p n m = h) (h0 : 0 ≤ h) : behindB p n pc called = eqIns p[n].code[m] ⟨14, called⟩ := by
  unfold behindB
  rw [hp, hh, decide_eq_true h0, codeAt_in hn hm, Bool.true_and]
  rw [Bool.eq_iff_iff, eqIns_iff]
  simp
set_option maxRecDepth 100000 in
set_option maxHeartbeats 4000000 in
theorem after_any (P : Addr) (p : List Fn) (Ap H : Option Addr) (cp ch : Nat) (n : Nat) (pc called : Int) (w : World) (hv : verifyOf p = 0) (hn : n < p.length) (hp : w.cell? P = some (.slice Ap p.length cp)) (rp : ReadsF w Ap p) (rh : ReadsII w H (bookOf p)) :
    Calls Tryd.prog 110 #[.pointer (some P), .slice H p.length ch, .int .i64 n, .int .i64 pc, .int .i64 called] w (RetD (.bool (behindB p n pc called)) w) := by
  have HV := Lib.hid hv
  have hpn := rp.1
  clear hv
  by_cases n1 : 0 < pc
  case neg =>
    have HE := Lib.hid (behind_no (called := called) (heightAt_neg (p := p) (fn := n) (pc := pc - 1) (by omega)))
    have d1 : decide (0 < pc) = false := by simpa using n1
    go_enter Tryd.func110, Tryd.ntmps110
    go_wp2_with fail
    go_ret
    exact retD_of (by rw [HE.out]; rfl) ⟨0, rfl⟩
  obtain ⟨m, hm0⟩ := Int.eq_ofNat_of_zero_le (show 0 ≤ pc - 1 by omega)
  obtain rfl : pc = m + 1 := by omega
  have d1 : decide ((0 : Int) < m + 1) = true := by simp
  obtain ⟨ad, rfl, Ac, cc, hF⟩ := fnAt_of rp (Below.refl _ _) hn
  have k0 := hF.c0
  have k1 := hF.c1
  have k2 := hF.c2
  have hcl := (codeMay_len (fnMay_of (packs_fn (verifyOf_packs HV.out) hn)).2.2.2.2).2
  by_cases n4 : m + 1 ≤ p[n].code.length
  case neg =>
    have HE := Lib.hid (behind_no (called := called) (heightAt_far (pc := (m : Int) + 1 - 1) HV.out hn (by omega)))
    have d4 : decide ((m : Int) + 1 ≤ p[n].code.length) = false := by simp; omega
    clear hm0
    go_enter Tryd.func110, Tryd.ntmps110
    go_wp2_with fail
    go_ret
    exact retD_of (by rw [HE.out]; rfl) ⟨0, rfl⟩
  have hm : m < p[n].code.length := by omega
  have d4 : decide ((m : Int) + 1 ≤ p[n].code.length) = true := by simp; omega
  obtain ⟨hmb, hh, hrange⟩ := heightAt_in HV.out hn hm
  have hbl : n < (bookOf p).length := by simpa [bookOf] using hn
  obtain ⟨ah, rfl, Hn, cn, g0, gr⟩ := rh.at_ hbl
  rw [bookOf_at hn hbl] at g0 gr
  obtain ⟨an, rfl, g1⟩ := gr.at_ hmb
  have hbn : (heightsF p p[n]).1.length ≤ 9223372036854775807 := gr.1
  obtain ⟨adc, eC, i0, i1⟩ := hF.r.at_ (Below.refl _ _) hm
  subst eC
  obtain ⟨h, eh⟩ : ∃ h, (heightsF p p[n]).1[m] = h := ⟨_, rfl⟩
  rw [eh] at g1 hh hrange
  obtain ⟨L, eL⟩ : ∃ L, (heightsF p p[n]).1.length = L := ⟨_, rfl⟩
  rw [eL] at g0 hmb hbn
  obtain ⟨C, eC⟩ : ∃ C, p[n].code.length = C := ⟨_, rfl⟩
  have hmC : m < C := by omega
  rw [eC] at k2 hcl d4
  have q1 : IntKind.i64.wrap ((m : Int) + 1 - 1) = m := by rw [show ((m : Int) + 1 - 1) = m by omega]; exact IntWalk.i64_in _ (by omega)
  have HM := Lib.hid hm0
  have HH := Lib.hid hh
  clear eh eL gr hF rh rp hh n1 n4 hm0
  by_cases e1 : h = -1
  · have HE := Lib.hid (behind_no (called := called) (pc := (m : Int) + 1) (p := p) (fn := n) (by rw [HM.out]; exact HH.out.trans e1))
    have t1 : (h != -1) = false := by simpa using e1
    clear e1 hrange
    clear eC
    go_enter Tryd.func110, Tryd.ntmps110
    go_wp2_with fail
    go_ret
    exact retD_of (by rw [HE.out]; rfl) ⟨0, rfl⟩
  · obtain ⟨h0, h12⟩ := hrange.resolve_left e1
    have HE := Lib.hid (behind_yes (called := called) HM.out hn hm HH.out h0)
    have t1 : (h != -1) = true := by simpa using e1
    have hq := fun (W : World) => eql_of (fun d => eqrIns d W p[n].code[m] ⟨14, called⟩)
    clear e1 hrange eC
    go_enter Tryd.func110, Tryd.ntmps110
    go_wp2_with fail
    go_ret
    exact retD_of (by rw [HE.out]; rfl) ⟨0, rfl⟩
end Go.Proofs.YtpfgklkdldkajaaDoor

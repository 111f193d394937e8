/- A step of a state that may be leads to one that may be. No program in sight. A frame more, on frames of the call's own. Plain lemmas. A frame at a place: its four cells, its two rows, each in a block by itself. Plain definitions and lemmas. -/
import Derived.Test.YtjghibdlmmjobaaGreatDoorGZ15
import Derived.Test.YtjghibdlmmjobaaGreatDoorGZ14
namespace Go.Proofs.YtjghibdlmmjobaaGreatDoor

theorem not_last {p : List Fn} {f : Fn} (hm : codeMay f.code = true) (hpl : plainOf p f = none) {pc : Nat} (hr : Reach f.code pc) (hpc : pc < f.code.length) (h12 : f.code[pc].kind ≠ 12) (h16 : f.code[pc].kind ≠ 16) : pc + 1 < f.code.length := by
  by_cases hl : pc + 1 < f.code.length
  · exact hl
  · have hend := (plainOf_none hpl).2
    unfold endBad at hend
    have hlast : pc = f.code.length - 1 := by omega
    subst hlast
    have hR := (reachL_iff hm).2 hr
    unfold Has at hR
    rw [hR, List.getElem?_eq_getElem hpc] at hend
    simp [h12, h16] at hend
theorem nx_next {code : List Ins} {pc : Nat} (hpc : pc < code.length) (h12 : code[pc].kind ≠ 12) (h16 : code[pc].kind ≠ 16) (hl : pc + 1 < code.length) : pc + 1 ∈ nx code pc := by
  unfold nx nextOf
  rw [List.getElem?_eq_getElem hpc]
  refine List.mem_map.2 ⟨(pc : Int) + 1, ?_, by omega⟩
  simp only
  rw [if_pos ⟨h16, h12, hl⟩]
  simp
theorem nx_jump {code : List Ins} {pc : Nat} (hpc : pc < code.length) (hk : code[pc].kind = 12 ∨ code[pc].kind = 13) (ha : code[pc].a < code.length) : code[pc].a.toNat ∈ nx code pc := by
  unfold nx nextOf
  rw [List.getElem?_eq_getElem hpc]
  refine List.mem_map.2 ⟨code[pc].a, ?_, rfl⟩
  simp only
  split
  · by_cases he : [(pc : Int) + 1] ≠ [code[pc].a]
    · rw [if_pos ⟨hk, ha, he⟩]; simp
    · have := Classical.not_not.1 he
      injection this with e
      rw [← e]; simp
  · rw [if_pos ⟨hk, ha, by simp⟩]; simp
theorem frameB_mk {p : List Fn} {f : Frm} {less k : Int} (hh : heightAt p f.fn f.pc = k) (h0 : 0 ≤ k) (hl : (f.locals.length : Int) = localsAt p f.fn) (hs : (f.stack.length : Int) = k - less) (h1 : f.locals.all isNum = true) (h2 : f.stack.all isNum = true) : frameB p f less = true := by
  unfold frameB
  rw [hh, decide_eq_true h0, decide_eq_true hl, decide_eq_true hs, h1, h2]; rfl
theorem frameB_of {p : List Fn} {f : Frm} {less : Int} (h : frameB p f less = true) : 0 ≤ heightAt p f.fn f.pc ∧ (f.locals.length : Int) = localsAt p f.fn ∧ (f.stack.length : Int) = heightAt p f.fn f.pc - less ∧ f.locals.all isNum = true ∧ f.stack.all isNum = true := by
  unfold frameB at h
  simp only [Bool.and_eq_true, decide_eq_true_eq] at h
  exact ⟨h.1.1.1.1, h.1.1.1.2, h.1.1.2, h.1.2, h.2⟩
theorem all_sub {l m : List Int} (h : l.all isNum = true) (hs : ∀ x ∈ m, x ∈ l) : m.all isNum = true := List.all_eq_true.2 fun x hx => List.all_eq_true.1 h x (hs x hx)
theorem all_drop {l : List Int} (h : l.all isNum = true) : l.dropLast.all isNum = true := all_sub h fun _ hx => (List.dropLast_subset l) hx
theorem all_last {l : List Int} (h : l.all isNum = true) (hl : 0 < l.length) : isNum (lastN l) = true := by
  have hne : l ≠ [] := by intro e; rw [e] at hl; cases hl
  unfold lastN
  rw [List.getLastD_eq_getLast?, List.getLast?_eq_some_getLast hne]
  exact List.all_eq_true.1 h _ (List.getLast_mem hne)
theorem all_snoc {l : List Int} {x : Int} (h : l.all isNum = true) (hx : isNum x = true) : (l ++ [x]).all isNum = true := by rw [List.all_append, h]; simp [hx]
theorem all_set {l : List Int} {k : Nat} {x : Int} (h : l.all isNum = true) (hx : isNum x = true) : (l.set k x).all isNum = true := List.all_eq_true.2 fun y hy => by
  rcases List.mem_or_eq_of_mem_set hy with h1 | rfl
  · exact List.all_eq_true.1 h y h1
  · exact hx
theorem all_get {l : List Int} {k : Nat} (h : l.all isNum = true) : isNum (l.getD k 0) = true := by
  by_cases hk : k < l.length
  · rw [List.getD_eq_getElem?_getD, List.getElem?_eq_getElem hk]; exact List.all_eq_true.1 h _ (List.getElem_mem hk)
  · rw [List.getD_eq_getElem?_getD, List.getElem?_eq_none (by omega)]; rfl
/-- What an instruction may come to. -/
def ResOk (p : List Fn) (r : Frm × Res) : Prop := match r.2 with
  | .next => frameB p r.1 0 = true
  | .print v => frameB p r.1 0 = true ∧ isNum v = true
  | .call fn args => lessB p r.1 (beginF p fn args) = true ∧ frameB p (beginF p fn args) 0 = true
  | .ret v => isNum v = true
  | .over d => d = 2 ∨ d = 3
theorem doN_num (k a b : Int) : isNum (doN k a b).1 = true := by unfold doN; split; rfl; exact wrapN_num _
theorem one_fn {p : List Fn} {f : Frm} {x : Ins} {d : Nat} : (oneI p f x d).1.fn = f.fn := by
  unfold oneI
  by_cases c0 : x.kind = 0
  · rw [if_pos c0]
  rw [if_neg c0]
  by_cases c1 : x.kind = 1
  · rw [if_pos c1]
  rw [if_neg c1]
  by_cases c2 : x.kind = 2
  · rw [if_pos c2]
  rw [if_neg c2]
  by_cases c10 : x.kind = 10
  · rw [if_pos c10]
  rw [if_neg c10]
  by_cases c11 : x.kind = 11
  · rw [if_pos c11]
  rw [if_neg c11]
  by_cases c12 : x.kind = 12
  · rw [if_pos c12]
  rw [if_neg c12]
  by_cases c13 : x.kind = 13
  · rw [if_pos c13]
  rw [if_neg c13]
  by_cases c14 : x.kind = 14
  · rw [if_pos c14]
    split <;> rfl
  rw [if_neg c14]
  by_cases c15 : x.kind = 15
  · rw [if_pos c15]
  rw [if_neg c15]
  by_cases c16 : x.kind = 16
  · rw [if_pos c16]
  rw [if_neg c16]
  simp only
  split <;> rfl
/-- A frame in hand: its instruction, and what follows. -/
theorem one_ok {p : List Fn} (hv : verifyOf p = 0) {f : Frm} (hf : frameB p f 0 = true) (d : Nat) : ResOk p (oneI p f (insAt p f) d) := by
  obtain ⟨f1, f2, f3, f4, f5⟩ := frameB_of hf
  obtain ⟨fn, pc, ha⟩ := At.of hv f1
  obtain ⟨x, hx, hfn, hpc, ex⟩ := At.finds hv ha
  rw [hx.ins]
  have hp := verifyOf_packs hv
  have hfm := fnMay_of (packs_fn hp hfn)
  have hm := hfm.2.2.2.2
  have hpl := (heights_len (verifyOf_fn hv hfn)).2.2
  obtain ⟨k0, k16, hb⟩ := may_of hx.may
  have hrg := hx.ranged hfn
  have hbn := behind_nonneg hx.takes
  have h12 : x.kind ≠ 12 → x.kind ≠ 16 → heightAt p f.fn (f.pc + 1) = behindH p x (heightAt p f.fn f.pc) := fun n12 n16 => by
    have hl := not_last hm hpl ha.reach hpc (by rw [← ex]; exact n12) (by rw [← ex]; exact n16)
    have := hx.goes (pc + 1) ⟨hfn, nx_next hpc (by rw [← ex]; exact n12) (by rw [← ex]; exact n16) hl⟩
    rw [show f.pc + 1 = ((pc + 1 : Nat) : Int) by have := ha.epc; omega]
    exact this
  have hj : x.kind = 12 ∨ x.kind = 13 → heightAt p f.fn x.a = behindH p x (heightAt p f.fn f.pc) := fun hk => by
    have ha0 : 0 ≤ x.a := (hb (by omega)).1
    have hlt : x.a < p[fn].code.length := by
      unfold rangedB at hrg
      rw [if_neg (by omega), if_pos hk] at hrg
      simpa using hrg
    have h1 := nx_jump hpc (by rw [← ex]; exact hk) (by rw [← ex]; exact hlt)
    rw [← ex] at h1
    have := hx.goes x.a.toNat ⟨hfn, h1⟩
    rwa [Int.toNat_of_nonneg ha0] at this
  have ht := hx.takes
  have hl0 : ∀ n : Int, takesOf x.kind (argsOf p x) = n → n ≤ f.stack.length := fun n e => by rw [e] at ht; omega
  have hdl : f.stack.dropLast.length = f.stack.length - 1 := List.length_dropLast
  unfold oneI
  by_cases c0 : x.kind = 0
  · rw [if_pos c0]
    have e := h12 (by omega) (by omega)
    refine frameB_mk e hbn f2 ?_ f4 (all_snoc f5 ?_)
    · simp [behindH, takesOf, putsOf, c0]; omega
    · have := hx.may
      unfold insMay at this
      rw [if_neg (by omega), if_pos c0] at this
      exact this
  rw [if_neg c0]
  by_cases c1 : x.kind = 1
  · rw [if_pos c1]
    have e := h12 (by omega) (by omega)
    refine frameB_mk e hbn f2 ?_ f4 (all_snoc f5 (all_get f4))
    simp [behindH, takesOf, putsOf, c1]; omega
  rw [if_neg c1]
  by_cases c2 : x.kind = 2
  · rw [if_pos c2]
    have e := h12 (by omega) (by omega)
    have hl := hl0 1 (by simp [takesOf, c2])
    refine frameB_mk e hbn (by simpa using f2) ?_ (all_set f4 (all_last f5 (by omega))) (all_drop f5)
    simp [behindH, takesOf, putsOf, c2]; omega
  rw [if_neg c2]
  by_cases c10 : x.kind = 10
  · rw [if_pos c10]
    have e := h12 (by omega) (by omega)
    have hl := hl0 1 (by simp [takesOf, c10])
    refine frameB_mk e hbn f2 ?_ f4 (all_snoc f5 (all_last f5 (by omega)))
    simp [behindH, takesOf, putsOf, c10]; omega
  rw [if_neg c10]
  by_cases c11 : x.kind = 11
  · rw [if_pos c11]
    have e := h12 (by omega) (by omega)
    have hl := hl0 1 (by simp [takesOf, c11])
    refine frameB_mk e hbn f2 ?_ f4 (all_drop f5)
    simp [behindH, takesOf, putsOf, c11]; omega
  rw [if_neg c11]
  by_cases c12 : x.kind = 12
  · rw [if_pos c12]
    refine frameB_mk (hj (.inl c12)) hbn f2 ?_ f4 f5
    simp [behindH, takesOf, putsOf, c12]; omega
  rw [if_neg c12]
  by_cases c13 : x.kind = 13
  · rw [if_pos c13]
    have e := h12 (by omega) (by omega)
    have hl := hl0 1 (by simp [takesOf, c13])
    refine frameB_mk (k := behindH p x (heightAt p f.fn f.pc)) ?_ hbn f2 ?_ f4 (all_drop f5)
    · show heightAt p f.fn (if lastN f.stack = 0 then x.a else f.pc + 1) = _
      split
      · exact hj (.inr c13)
      · exact e
    · simp [behindH, takesOf, putsOf, c13]; omega
  rw [if_neg c13]
  by_cases c14 : x.kind = 14
  · rw [if_pos c14]
    split
    · exact .inr rfl
    have e := h12 (by omega) (by omega)
    have hax := argsOf_in hp x
    have hl := hl0 (argsOf p x) (by simp [takesOf, c14])
    have ha0 : 0 ≤ x.a := (hb (by omega)).1
    have hlt : x.a < p.length := by
      unfold rangedB at hrg
      rw [if_neg (by omega), if_neg (by omega), if_pos c14] at hrg
      simpa using hrg
    obtain ⟨m, hm2⟩ := Int.eq_ofNat_of_zero_le ha0
    have hml : m < p.length := by omega
    have hfm2 := fnMay_of (packs_fn hp hml)
    have ea : argsOf p x = p[m].args := by
      unfold argsOf; rw [if_pos c14, hm2, Int.toNat_natCast, List.getElem?_eq_getElem hml]
    have elo : localsAt p x.a = p[m].locals := by unfold localsAt; rw [hm2, Int.toNat_natCast, List.getElem?_eq_getElem hml]
    have hdrop : (f.stack.drop (f.stack.length - (argsOf p x).toNat)).length = (argsOf p x).toNat := by rw [List.length_drop]; omega
    constructor
    · show (frameB p _ 1 && behindB p f.fn (f.pc + 1) x.a) = true
      rw [Bool.and_eq_true]
      constructor
      · refine frameB_mk e hbn f2 ?_ f4 (all_sub f5 fun _ h => List.mem_of_mem_take h)
        simp [behindH, takesOf, putsOf, c14]; omega
      · unfold behindB
        rw [show f.pc + 1 - 1 = f.pc by omega, decide_eq_true f1, hx.code]
        have : x = ⟨14, x.a⟩ := by cases x; simp only at c14; rw [c14]
        simp [← this]
    · have hg2 := heights_good hfm2.2.2.2.2 (verifyOf_fn hv hml)
      refine frameB_mk (k := 0) ?_ (by decide) ?_ (by simp [beginF]) ?_ rfl
      · show heightAt p x.a 0 = 0
        rw [hm2, heightAt_yes hv hml (by decide)]
        show ((heightsF p p[m]).1[0]?).getD (-1) = 0
        rw [hg2.zero]; rfl
      · simp only [beginF, List.length_append, List.length_replicate, hdrop, elo]
        omega
      · simp only [beginF]
        rw [List.all_append, all_sub f5 (fun _ h => List.mem_of_mem_drop h)]
        simp [List.all_replicate, isNum]
  rw [if_neg c14]
  by_cases c15 : x.kind = 15
  · rw [if_pos c15]
    have e := h12 (by omega) (by omega)
    have hl := hl0 1 (by simp [takesOf, c15])
    refine ⟨frameB_mk e hbn f2 ?_ f4 (all_drop f5), all_last f5 (by omega)⟩
    simp [behindH, takesOf, putsOf, c15]; omega
  rw [if_neg c15]
  by_cases c16 : x.kind = 16
  · rw [if_pos c16]
    have hl := hl0 1 (by simp [takesOf, c16])
    exact all_last f5 (by omega)
  rw [if_neg c16]
  have e := h12 (by omega) (by omega)
  have hl := hl0 2 (by unfold takesOf; rw [if_neg (by omega), if_neg (by omega), if_neg (by omega)])
  simp only
  split
  · exact .inl rfl
  · refine frameB_mk e hbn f2 ?_ f4 (all_snoc (all_drop (all_drop f5)) (doN_num _ _ _))
    have hp1 : putsOf x.kind = 1 := by unfold putsOf; rw [if_neg (by omega), if_neg (by omega)]
    have ht2 : takesOf x.kind (argsOf p x) = 2 := by unfold takesOf; rw [if_neg (by omega), if_neg (by omega), if_neg (by omega)]
    simp [behindH, hp1, ht2]; omega
theorem one_depth {p : List Fn} {f : Frm} {x : Ins} {d : Nat} {fn : Int} {args : List Int} (h : (oneI p f x d).2 = .call fn args) : d < 12 := by
  rcases Nat.lt_or_ge d 12 with hd | hd
  · exact hd
  · exfalso
    revert h
    unfold oneI
    by_cases c0 : x.kind = 0
    · rw [if_pos c0]; exact fun h => by cases h
    rw [if_neg c0]
    by_cases c1 : x.kind = 1
    · rw [if_pos c1]; exact fun h => by cases h
    rw [if_neg c1]
    by_cases c2 : x.kind = 2
    · rw [if_pos c2]; exact fun h => by cases h
    rw [if_neg c2]
    by_cases c10 : x.kind = 10
    · rw [if_pos c10]; exact fun h => by cases h
    rw [if_neg c10]
    by_cases c11 : x.kind = 11
    · rw [if_pos c11]; exact fun h => by cases h
    rw [if_neg c11]
    by_cases c12 : x.kind = 12
    · rw [if_pos c12]; exact fun h => by cases h
    rw [if_neg c12]
    by_cases c13 : x.kind = 13
    · rw [if_pos c13]; exact fun h => by cases h
    rw [if_neg c13]
    by_cases c14 : x.kind = 14
    · rw [if_pos c14, if_pos hd]; exact fun h => by cases h
    rw [if_neg c14]
    by_cases c15 : x.kind = 15
    · rw [if_pos c15]; exact fun h => by cases h
    rw [if_neg c15]
    by_cases c16 : x.kind = 16
    · rw [if_pos c16]; exact fun h => by cases h
    rw [if_neg c16]
    simp only
    split <;> exact fun h => by cases h
/-- Frames beneath one of a function. -/
def Under (p : List Fn) : List Frm → Int → Prop
  | [], _ => True
  | [f], fn => frameB p f 1 = true ∧ behindB p f.fn f.pc fn = true
  | f :: g :: l, fn => lessB p f g = true ∧ Under p (g :: l) fn
theorem runs_snoc (p : List Fn) : ∀ (l : List Frm) (f : Frm), runsFrom p (l ++ [f]) = true ↔ Under p l f.fn ∧ frameB p f 0 = true
  | [], f => by simp [runsFrom, Under]
  | [g], f => by
    show (lessB p g f && runsFrom p [f]) = true ↔ _
    simp [runsFrom, Under, lessB, Bool.and_eq_true]
  | g :: k :: l, f => by
    show (lessB p g k && runsFrom p ((k :: l) ++ [f])) = true ↔ _
    rw [Bool.and_eq_true, runs_snoc p (k :: l) f, Under, and_assoc]
theorem under_snoc (p : List Fn) : ∀ (l : List Frm) (g : Frm) (fn : Int), Under p (l ++ [g]) fn ↔ Under p l g.fn ∧ frameB p g 1 = true ∧ behindB p g.fn g.pc fn = true
  | [], g, fn => by simp [Under]
  | [k], g, fn => by
    show (lessB p k g = true ∧ Under p [g] fn) ↔ _
    simp [Under, lessB, Bool.and_eq_true]
  | k :: m :: l, g, fn => by
    show (lessB p k m = true ∧ Under p ((m :: l) ++ [g]) fn) ↔ _
    rw [under_snoc p (m :: l) g fn, Under, and_assoc]
theorem state_of {p : List Fn} {s : Stt} (h : stateB p s = true) (hd : s.done = 0) : verifyOf p = 0 ∧ 0 ≤ s.fuel ∧ s.fuel ≤ 100000 ∧ (s.out.length : Int) ≤ 100000 - s.fuel ∧ s.out.all isNum = true ∧ s.value = 0 ∧ ∃ l f, s.frames = l ++ [f] ∧ l.length < 12 ∧ Under p l f.fn ∧ frameB p f 0 = true := by
  unfold stateB at h
  rw [if_pos hd] at h
  simp only [Bool.and_eq_true, decide_eq_true_eq] at h
  obtain ⟨⟨⟨⟨⟨h1, h2⟩, h3⟩, h4⟩, h5⟩, h6, h7⟩ := h
  unfold runsB at h7
  simp only [Bool.and_eq_true, decide_eq_true_eq] at h7
  obtain ⟨⟨h8, h9⟩, h10⟩ := h7
  have hne : s.frames ≠ [] := by intro e; rw [e] at h8; simp at h8
  refine ⟨h1, h2, h3, h4, h5, h6, s.frames.dropLast, s.frames.getLast hne, (List.dropLast_concat_getLast hne).symm, by rw [List.length_dropLast]; omega, ?_⟩
  rw [← List.dropLast_concat_getLast hne] at h10
  exact (runs_snoc p _ _).1 h10
theorem state_mk {p : List Fn} {l : List Frm} {f : Frm} {fuel : Int} {out : List Int} (h1 : verifyOf p = 0) (h2 : 0 ≤ fuel) (h3 : fuel ≤ 100000) (h4 : (out.length : Int) ≤ 100000 - fuel) (h5 : out.all isNum = true) (hl : l.length < 12) (hu : Under p l f.fn) (hf : frameB p f 0 = true) : stateB p ⟨l ++ [f], fuel, out, 0, 0⟩ = true := by
  unfold stateB runsB
  simp only
  rw [decide_eq_true h1, decide_eq_true h2, decide_eq_true h3, decide_eq_true h4, h5, (runs_snoc p l f).2 ⟨hu, hf⟩]
  simp; omega
theorem state_over {p : List Fn} {fuel done value : Int} {out : List Int} (h1 : verifyOf p = 0) (h2 : 0 ≤ fuel) (h3 : fuel ≤ 100000) (h4 : (out.length : Int) ≤ 100000 - fuel) (h5 : out.all isNum = true) (hd : 0 < done) (hd4 : done ≤ 4) (hv : if done = 1 then isNum value = true else value = 0) : stateB p ⟨[], fuel, out, done, value⟩ = true := by
  unfold stateB overB
  simp only
  rw [decide_eq_true h1, decide_eq_true h2, decide_eq_true h3, decide_eq_true h4, h5, if_neg (by omega), decide_eq_true hd, decide_eq_true hd4]
  by_cases h : done = 1
  · rw [if_pos h] at hv ⊢; simp [hv]
  · rw [if_neg h] at hv ⊢; simp [hv]
/-- What a step leaves. -/
theorem once_state {p : List Fn} {s : Stt} (h : stateB p s = true) (hd : s.done = 0) : stateB p (onceS p s) = true := by
  obtain ⟨h1, h2, h3, h4, h5, h6, l, f, ef, hl, hu, hf⟩ := state_of h hd
  unfold onceS
  by_cases h0 : s.fuel = 0
  · rw [if_pos h0]
    exact state_over h1 (by omega) (by omega) (by omega) h5 (by decide) (by decide) (by simp)
  rw [if_neg h0]
  have et : topF s = f := by unfold topF; rw [ef]; simp
  have ed : s.frames.dropLast = l := by rw [ef]; simp
  have el : s.frames.length = l.length + 1 := by rw [ef]; simp
  rw [et, ed]
  have hok := one_ok h1 hf s.frames.length
  have hfn : (oneI p f (insAt p f) s.frames.length).1.fn = f.fn := one_fn
  have hdp := fun fn args => one_depth (p := p) (f := f) (x := insAt p f) (d := s.frames.length) (fn := fn) (args := args)
  generalize oneI p f (insAt p f) s.frames.length = r at *
  obtain ⟨g, r⟩ := r
  simp only at hfn hok hdp ⊢
  cases r with
  | next => exact state_mk h1 (by omega) (by omega) (by omega) h5 hl (by rw [hfn]; exact hu) hok
  | print v => exact state_mk h1 (by omega) (by omega) (by simp; omega) (all_snoc h5 hok.2) hl (by rw [hfn]; exact hu) hok.1
  | call fn args =>
    have hlt := hdp fn args rfl
    simp only
    rw [show l ++ [g, beginF p fn args] = (l ++ [g]) ++ [beginF p fn args] by simp]
    have hle : lessB p g (beginF p fn args) = true := hok.1
    unfold lessB at hle
    rw [Bool.and_eq_true] at hle
    exact state_mk h1 (by omega) (by omega) (by omega) h5 (by simp; omega) ((under_snoc p l g _).2 ⟨by rw [hfn]; exact hu, hle⟩) hok.2
  | over d =>
    have hok : d = 2 ∨ d = 3 := hok
    exact state_over h1 (by omega) (by omega) (by omega) h5 (by omega) (by omega) (by rw [if_neg (by omega)])
  | ret v =>
    simp only
    split
    · exact state_over h1 (by omega) (by omega) (by omega) h5 (by decide) (by decide) (by rw [if_pos rfl]; exact hok)
    · rename_i hle
      have hne : l ≠ [] := by intro e; rw [e] at el; simp at el; omega
      rw [← List.dropLast_concat_getLast hne] at hu
      obtain ⟨u1, u2, u3⟩ := (under_snoc p _ _ _).1 hu
      have eg : l.getLastD default = l.getLast hne := by rw [List.getLastD_eq_getLast?, List.getLast?_eq_some_getLast hne]; rfl
      rw [eg]
      obtain ⟨f1, f2, f3, f4, f5⟩ := frameB_of u2
      refine state_mk h1 (by omega) (by omega) (by omega) h5 (by simp; omega) u1 (frameB_mk rfl f1 f2 ?_ f4 (all_snoc f5 hok))
      simp; omega
end Go.Proofs.YtjghibdlmmjobaaGreatDoor

namespace Go.Proofs.YtjghibdlmmjobaaGreatDoor
open Go.RowKit

def frC (f : Frm) (a b : Value) : List Value := [.int .i64 f.fn, .int .i64 f.pc, a, b]
theorem OwnFr.push {w w1 : World} {base N n : Nat} {v v' a b : Value} {fs : List Frm} {vss : List (List Value)} {f : Frm} (h : OwnFr w base v fs vss) (hn : fs.length = n)
    (hG : GrownC w base 54 4 v (n + 1) ((List.zipWith KFr.cells fs vss).flatten ++ frC f a b) v' w1) (ia : InnAt w base a (innI f.locals)) (ib : InnAt w base b (innI f.stack))
    (hold : ∀ u ∈ v :: vss.flatten, ∀ x, ob u = some x → x < N) (ha : ∀ x, ob a = some x → N ≤ x) (hb : ∀ x, ob b = some x → N ≤ x) (hab : ∀ x, ob a = some x → ob b ≠ some x) : OwnFr w1 base v' (fs ++ [f]) (vss ++ [[a, b]]) := by
  refine OwnG.grow (x := f) h (by rw [hn]; exact hG) rfl (fun j hj hj' => ?_) (fun j hj x hx hx2 => ?_) (fun j hj j' hj' hne x hx hx2 => ?_) (fun j hj x hx q hq p hp hx2 => ?_)
  · match j, hj with
    | 0, _ => exact ia
    | 1, _ => exact ib
  · have := hold v (by simp) x hx2
    match j, hj with
    | 0, _ => have := ha x hx; omega
    | 1, _ => have := hb x hx; omega
  · match j, hj, j', hj' with
    | 0, _, 0, _ => exact absurd rfl hne
    | 0, _, 1, _ => exact hab x hx hx2
    | 1, _, 0, _ => exact hab x hx2 hx
    | 1, _, 1, _ => exact absurd rfl hne
  · have := hold _ (List.mem_cons_of_mem _ (List.mem_flatten.2 ⟨_, List.getElem_mem hq, List.getElem_mem hp⟩)) x hx2
    match j, hj with
    | 0, _ => have := ha x hx; omega
    | 1, _ => have := hb x hx; omega
theorem frame_src {w : World} {g : Nat} {f : Frm} {A1 A2 : Option Addr} {n1 c1 n2 c2 : Nat} (h : RowAt 54 g (frC f (.slice A1 n1 c1) (.slice A2 n2 c2)) w) : Src Tryz.prog 4 55 (.slice (some ⟨g, 0, none⟩) 1 1) 1 (frC f (.slice A1 n1 c1) (.slice A2 n2 c2)) w :=
  Src.ofSlice _ Tryz.underlying55 _ 1 1 _ rfl (fun j u hu => by
    obtain ⟨hj, rfl⟩ := List.getElem?_eq_some_iff.1 hu
    rw [add_plain]
    exact h.cell (k := j) hj) (fun u hu => by
    simp [frC] at hu
    rcases hu with rfl | rfl | rfl | rfl <;> rfl)
theorem innI_new {w : World} {base g : Nat} {xs : List Int} {n : Nat} (h : RowAt 3 g (intsV xs) w) (hb : base ≤ g) (hn : xs.length = n) (hm : n ≤ 1000) : InnAt w base (.slice (some ⟨g, 0, none⟩) n n) (innI xs) := by
  subst hn
  exact crow_of (sz := 1) h hb (show (intsV xs).length = xs.length * 1 by rw [intsV_len, Nat.mul_one]) (by unfold maxLen; omega)
theorem innI_nil (w : World) (base : Nat) : InnAt w base (.slice none 0 0) (innI []) := CRow.nil _ _ _ _
theorem ob_new {g n : Nat} {x : Nat} (h : ob (.slice (some ⟨g, 0, none⟩) n n) = some x) : x = g := by have := ob_own h; cases this; rfl
end Go.Proofs.YtjghibdlmmjobaaGreatDoor

namespace Go.Proofs.YtjghibdlmmjobaaGreatDoor
open Go.RowKit

structure FAt (w : World) (base g off : Nat) (f : Frm) (v1 v2 : Value) : Prop where
  blk : ∃ t cur, w.heap[g]? = some (.cells cur t (0, 0)) ∧ cur[off]? = some (.int .i64 f.fn) ∧ cur[off + 1]? = some (.int .i64 f.pc) ∧ cur[off + 2]? = some v1 ∧ cur[off + 3]? = some v2
  lo : base ≤ g
  r1 : InnAt w base v1 (innI f.locals)
  r2 : InnAt w base v2 (innI f.stack)
  n1 : ob v1 ≠ some g
  n2 : ob v2 ≠ some g
  n12 : ∀ b, ob v1 = some b → ob v2 ≠ some b
/-- A block in which two cells of a frame alone may have turned. -/
def Blk4 (w w' : World) (g off : Nat) : Prop := ∀ t cur, w.heap[g]? = some (.cells cur t (0, 0)) → ∃ cur', w'.heap[g]? = some (.cells cur' t (0, 0)) ∧ cur'.size = cur.size ∧ ∀ j, j ≠ off + 1 → j ≠ off + 3 → cur'[j]? = cur[j]?
/-- What turns a frame at a place, and nothing else. -/
structure FTurn (w w' : World) (base g off : Nat) (f : Frm) (v1 v2 v2' : Value) : Prop where
  at_ : FAt w' base g off f v1 v2'
  chg : Chg (fun b => b = g ∨ ob v1 = some b ∨ ob v2 = some b) w w'
  blk : Blk4 w w' g off
  new : ∀ b, ob v2' = some b → ob v2 = some b ∨ w.heap.size ≤ b
section
variable {w w1 w2 : World} {base g off : Nat} {f f1 f2 : Frm} {v1 v2 va vb : Value}
theorem FAt.lt (h : FAt w base g off f v1 v2) : g < w.heap.size := by
  obtain ⟨t, cur, h0, _⟩ := h.blk; exact blk_lt h0
theorem FAt.cells (h : FAt w base g off f v1 v2) : w.cell? ⟨g, off, none⟩ = some (.int .i64 f.fn) ∧ w.cell? ⟨g, off + 1, none⟩ = some (.int .i64 f.pc) ∧ w.cell? ⟨g, off + 2, none⟩ = some v1 ∧ w.cell? ⟨g, off + 3, none⟩ = some v2 ∧ ∀ j, w.frozen? ⟨g, j, none⟩ = false := by
  obtain ⟨t, cur, h0, h1, h2, h3, h4⟩ := h.blk
  exact ⟨(blk_cell h0 _).trans h1, (blk_cell h0 _).trans h2, (blk_cell h0 _).trans h3, (blk_cell h0 _).trans h4, fun j => blk_free h0 j⟩
theorem FAt.shape (h : FAt w base g off f v1 v2) : ∃ A1 c1 A2 c2, v1 = .slice A1 f.locals.length c1 ∧ v2 = .slice A2 f.stack.length c2 := by
  obtain ⟨A1, c1, e1, _⟩ := CRow.shape h.r1
  obtain ⟨A2, c2, e2, _⟩ := CRow.shape h.r2
  exact ⟨A1, c1, A2, c2, e1, e2⟩
theorem FAt.lo1 (h : FAt w base g off f v1 v2) : ∀ b, ob v1 = some b → base ≤ b ∧ b < w.heap.size := CRow.in_ h.r1
theorem FAt.lo2 (h : FAt w base g off f v1 v2) : ∀ b, ob v2 = some b → base ≤ b ∧ b < w.heap.size := CRow.in_ h.r2
theorem FAt.chg {S : Nat → Prop} (h : FAt w base g off f v1 v2) (hk : Chg S w w1) (hg : ¬ S g) (h1 : ∀ b, ob v1 = some b → ¬ S b) (h2 : ∀ b, ob v2 = some b → ¬ S b) : FAt w1 base g off f v1 v2 := by
  obtain ⟨t, cur, h0, hc⟩ := h.blk
  exact ⟨⟨t, cur, (hk.block g (blk_lt h0) hg).trans h0, hc⟩, h.lo, CRow.chg h.r1 hk h1, CRow.chg h.r2 hk h2, h.n1, h.n2, h.n12⟩
theorem FAt.below (h : FAt w base g off f v1 v2) (hb : Below w.heap.size w w1) : FAt w1 base g off f v1 v2 := h.chg (S := fun _ => False) (Chg.of_below hb) (fun h => h) (fun _ _ h => h) (fun _ _ h => h)
theorem Blk4.of_chg {S : Nat → Prop} (hk : Chg S w w1) (hg : ¬ S g) : Blk4 w w1 g off := fun _ cur h => ⟨cur, (hk.block g (blk_lt h) hg).trans h, rfl, fun _ _ _ => rfl⟩
theorem Blk4.trans (h : Blk4 w w1 g off) (k : Blk4 w1 w2 g off) : Blk4 w w2 g off := fun t cur hc => by
  obtain ⟨c1, e1, e2, e3⟩ := h t cur hc
  obtain ⟨c2, g1, g2, g3⟩ := k t c1 e1
  exact ⟨c2, g1, g2.trans e2, fun j h1 h2 => (g3 j h1 h2).trans (e3 j h1 h2)⟩
theorem FTurn.trans (h : FTurn w w1 base g off f1 v1 v2 va) (k : FTurn w1 w2 base g off f2 v1 va vb) : FTurn w w2 base g off f2 v1 v2 vb :=
  ⟨k.at_, h.chg.trans k.chg (fun i hi hs => by
    rcases hs with e | e | e
    · exact .inl e
    · exact .inr (.inl e)
    · exact .inr (.inr ((h.new i e).resolve_right (by omega)))), h.blk.trans k.blk, fun b hb => by
    rcases k.new b hb with e | e
    · exact h.new b e
    · exact .inr (Nat.le_trans h.chg.size e)⟩
theorem FTurn.refl (h : FAt w base g off f v1 v2) : FTurn w w base g off f v1 v2 v2 := ⟨h, Chg.refl _ _, fun _ cur hc => ⟨cur, hc, rfl, fun _ _ _ => rfl⟩, fun _ h => .inl h⟩
theorem FTurn.of_below (h : FAt w base g off f v1 v2) (hb : Below w.heap.size w w1) : FTurn w w1 base g off f v1 v2 v2 :=
  ⟨h.below hb, Chg.of_below hb, Blk4.of_chg (S := fun _ => False) (Chg.of_below hb) (fun h => h), fun _ h => .inl h⟩
theorem FTurn.before (h : FAt w base g off f v1 v2) (hb : Below w.heap.size w w1) (k : FTurn w1 w2 base g off f1 v1 v2 va) : FTurn w w2 base g off f1 v1 v2 va := (FTurn.of_below h hb).trans k
theorem FTurn.after (h : FTurn w w1 base g off f v1 v2 va) (hb : Below w1.heap.size w1 w2) : FTurn w w2 base g off f v1 v2 va := h.trans (FTurn.of_below h.at_ hb)
/-- What is neither the frame's block nor its rows' stays. -/
theorem FTurn.row {t b : Nat} {cs : List Value} (h : FTurn w w1 base g off f1 v1 v2 va) (hr : RowAt t b cs w) (hg : b ≠ g) (h1 : ob v1 ≠ some b) (h2 : ob v2 ≠ some b) : RowAt t b cs w1 :=
  hr.chg h.chg (fun hs => by
    rcases hs with e | e | e
    · exact hg e
    · exact h1 e
    · exact h2 e)
theorem put_at {t : Nat} {cur : Array Value} (h : w.heap[g]? = some (.cells cur t (0, 0))) (i : Nat) (u : Value) : (w.setCell ⟨g, i, none⟩ u).heap[g]? = some (.cells (cur.setIfInBounds i u) t (0, 0)) := by
  simp [World.setCell, Array.getElem?_modify, h]
theorem get_put {cur : Array Value} {i j : Nat} {u : Value} (h : i ≠ j) : (cur.setIfInBounds i u)[j]? = cur[j]? := Array.getElem?_setIfInBounds_ne h
theorem get_put_self {cur : Array Value} {i : Nat} {u v : Value} (h : cur[i]? = some v) : (cur.setIfInBounds i u)[i]? = some u := Array.getElem?_setIfInBounds_self_of_lt (Array.getElem?_eq_some_iff.1 h).1
/-- Another row for its stack. -/
theorem FAt.put_stack (h : FAt w base g off f v1 v2) {u : Value} {st : List Int} (hc : Chg (fun b => ob v2 = some b) w w1) (hi : InnAt w1 base u (innI st)) (hn : ∀ b, ob u = some b → ob v2 = some b ∨ w.heap.size ≤ b) :
    FTurn w (w1.setCell ⟨g, off + 3, none⟩ u) base g off ⟨f.fn, f.pc, f.locals, st⟩ v1 v2 u := by
  obtain ⟨t, cur, h0, h1, h2, h3, h4⟩ := h.blk
  have hg := blk_lt h0
  have h0' := (hc.block g hg h.n2).trans h0
  have hp := put_at h0' (off + 3) u
  have hch : Chg (fun b => b = g) w1 (w1.setCell ⟨g, off + 3, none⟩ u) := Chg.put (S := fun b => b = g) (Chg.refl _ w1) (a := ⟨g, off + 3, none⟩) rfl u
  have hu : ob u ≠ some g := fun e => by
    rcases hn g e with e | e
    · exact h.n2 e
    · omega
  refine ⟨⟨⟨t, _, hp, by rw [get_put (by omega)]; exact h1, by rw [get_put (by omega)]; exact h2, by rw [get_put (by omega)]; exact h3, get_put_self h4⟩, h.lo, ?_, ?_, h.n1, hu, fun b e1 e2 => ?_⟩, ?_, ?_, hn⟩
  · exact CRow.chg (CRow.chg h.r1 hc (fun b e => h.n12 b e)) hch (fun b e e2 => h.n1 (e2 ▸ e))
  · exact CRow.chg hi hch (fun b e e2 => hu (e2 ▸ e))
  · rcases hn b e2 with e | e
    · exact h.n12 b e1 e
    · have := (h.lo1 b e1).2; omega
  · exact (hc.mono (fun b e => .inr (.inr e))).trans hch (fun i _ e => .inl e)
  · intro t' cur' hc'
    rw [h0] at hc'
    cases hc'
    exact ⟨_, hp, by simp, fun j _ h3 => get_put (Ne.symm h3)⟩
/-- Another pc. -/
theorem FAt.put_pc (h : FAt w base g off f v1 v2) (m : Int) : FTurn w (w.setCell ⟨g, off + 1, none⟩ (.int .i64 m)) base g off ⟨f.fn, m, f.locals, f.stack⟩ v1 v2 v2 := by
  obtain ⟨t, cur, h0, h1, h2, h3, h4⟩ := h.blk
  have hp := put_at h0 (off + 1) (.int .i64 m)
  have hch : Chg (fun b => b = g) w (w.setCell ⟨g, off + 1, none⟩ (.int .i64 m)) := Chg.put (S := fun b => b = g) (Chg.refl _ w) (a := ⟨g, off + 1, none⟩) rfl _
  refine ⟨⟨⟨t, _, hp, by rw [get_put (by omega)]; exact h1, get_put_self h2, by rw [get_put (by omega)]; exact h3, by rw [get_put (by omega)]; exact h4⟩, h.lo, ?_, ?_, h.n1, h.n2, h.n12⟩, hch.mono (fun _ e => .inl e), ?_, fun _ e => .inl e⟩
  · exact CRow.chg h.r1 hch (fun b e e2 => h.n1 (e2 ▸ e))
  · exact CRow.chg h.r2 hch (fun b e e2 => h.n2 (e2 ▸ e))
  · intro t' cur' hc'
    rw [h0] at hc'
    cases hc'
    exact ⟨_, hp, by simp, fun j h3 _ => get_put (Ne.symm h3)⟩
/-- A row of ints: one is written. -/
theorem ints_setF {n cap : Nat} {xs : List Int} (h : CRow w base 3 1 (.slice (some ⟨g, off, none⟩) n cap) n (intsV xs)) {j : Nat} (hj : j < xs.length) (m : Int) : CRow (w.setCell ⟨g, off + j, none⟩ (.int .i64 m)) base 3 1 (.slice (some ⟨g, off, none⟩) n cap) n (intsV (xs.set j m)) := by
  have hn : n = xs.length := by have := h.len; rw [intsV_len] at this; omega
  have hp := (h.own (by omega)).put j (.int .i64 m) (by rw [intsV_len]; exact hj)
  rw [show (intsV xs).set j (.int .i64 m) = intsV (xs.set j m) by simp [intsV, List.map_set]] at hp
  exact .inl hp
theorem ints_atF {n cap : Nat} {ao : Option Addr} {xs : List Int} (h : CRow w base 3 1 (.slice ao n cap) n (intsV xs)) {j : Nat} (hj : j < xs.length) :
    ∃ g off, ao = some ⟨g, off, none⟩ ∧ base ≤ g ∧ ob (.slice ao n cap) = some g ∧ w.cell? ⟨g, off + j, none⟩ = some (.int .i64 xs[j]) ∧ w.frozen? ⟨g, off + j, none⟩ = false := by
  have hn : n = xs.length := by have := h.len; rw [intsV_len] at this; omega
  have hcap := h.cap
  obtain ⟨g, off, rfl, h1, h2, hc⟩ := (h.own (by omega)).cell (k := j) (by rw [intsV_len]; exact hj)
  obtain ⟨c0, f0⟩ := hc j (by rw [intsV_len]; exact hj)
  exact ⟨g, off, rfl, h1, ob_some (by omega), by rw [c0]; simp [intsV], f0⟩
/-- A local is written. -/
theorem FAt.put_local {A : Addr} {c : Nat} (h : FAt w base g off f (.slice (some A) f.locals.length c) v2) {j : Nat} (hj : j < f.locals.length) (m : Int) :
    FTurn w (w.setCell ⟨A.block, A.off + j, none⟩ (.int .i64 m)) base g off ⟨f.fn, f.pc, f.locals.set j m, f.stack⟩ (.slice (some A) f.locals.length c) v2 v2 := by
  have hr : CRow w base 3 1 (.slice (some A) f.locals.length c) f.locals.length (intsV f.locals) := h.r1
  obtain ⟨g1, o1, eA, hlo, hob, _, _⟩ := ints_atF hr hj
  cases eA
  have hg1 : g ≠ g1 := fun e => h.n1 (e ▸ hob)
  obtain ⟨t, cur, h0, hcur⟩ := h.blk
  have hch : Chg (fun b => b = g1) w (w.setCell ⟨g1, o1 + j, none⟩ (.int .i64 m)) := Chg.put (S := fun b => b = g1) (Chg.refl _ w) (a := ⟨g1, o1 + j, none⟩) rfl _
  have hset := ints_setF hr hj m
  refine ⟨⟨⟨t, cur, (hch.block g (blk_lt h0) hg1).trans h0, hcur⟩, h.lo, ?_, ?_, h.n1, h.n2, h.n12⟩, hch.mono (fun b e => .inr (.inl (e ▸ hob))), Blk4.of_chg hch hg1, fun _ e => .inl e⟩
  · show CRow _ base 3 1 _ (f.locals.set j m).length _
    rw [List.length_set]; exact hset
  · exact CRow.chg h.r2 hch (fun b e e2 => h.n12 g1 hob (e2 ▸ e))
end
end Go.Proofs.YtjghibdlmmjobaaGreatDoor

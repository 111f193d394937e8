/- A function more, that nobody calls, or an instruction more, that is never come to, turns no height. Plain law; no program in sight. -/
import Derived.Test.YtpfgklkdldkajaaDoorVerLaw
namespace Go.Proofs.YtpfgklkdldkajaaDoor

def moreF : Fn := ⟨0, 0, [⟨0, 1⟩, ⟨16, 0⟩]⟩
def moreP (p : List Fn) : List Fn := p ++ [moreF]
theorem moreF_may : fnMay moreF = true := by decide
theorem packs_more {p : List Fn} (h1 : 1 ≤ p.length) (h8 : p.length < 8) : packs (moreP p) = packs p := by
  unfold packs moreP
  rw [List.all_append, show [moreF].all fnMay = true by decide, Bool.and_true, List.length_append]
  have e1 : decide (1 ≤ p.length + [moreF].length) = decide (1 ≤ p.length) := by rw [Bool.eq_iff_iff]; simp; omega
  have e2 : decide (p.length + [moreF].length ≤ 8) = decide (p.length ≤ 8) := by rw [Bool.eq_iff_iff]; simp; omega
  rw [e1, e2]
/-- The functions of the one are those of the other, as far as their args go. -/
def SameArgs (p q : List Fn) : Prop := ∀ j (hj : j < p.length), ∃ h : j < q.length, q[j].args = p[j].args
theorem SameArgs.len {p q : List Fn} (h : SameArgs p q) : p.length ≤ q.length := by
  rcases Nat.eq_zero_or_pos p.length with h0 | h0
  · omega
  · obtain ⟨h1, _⟩ := h (p.length - 1) (by omega); omega
theorem same_more (p : List Fn) : SameArgs p (moreP p) := fun j hj => ⟨by unfold moreP; rw [List.length_append]; omega, by unfold moreP; rw [List.getElem_append_left hj]⟩
theorem more_get {p : List Fn} {k : Nat} (hk : k < p.length) (h : k < (moreP p).length) : (moreP p)[k] = p[k] := List.getElem_append_left hk
theorem argsOf_same {p q : List Fn} (h : SameArgs p q) {x : Ins} (hx : x.kind = 14 → 0 ≤ x.a ∧ x.a < p.length) : argsOf q x = argsOf p x := by
  unfold argsOf
  by_cases hk : x.kind = 14
  · rw [if_pos hk, if_pos hk]
    obtain ⟨h0, h1⟩ := hx hk
    have hj : x.a.toNat < p.length := by omega
    obtain ⟨hq, e⟩ := h _ hj
    rw [List.getElem?_eq_getElem hj, List.getElem?_eq_getElem hq]
    exact e
  · rw [if_neg hk, if_neg hk]
theorem rangedB_mono {p q : List Fn} {f : Fn} {x : Ins} (hl : p.length ≤ q.length) (h : rangedB p f x = true) : rangedB q f x = true := by
  unfold rangedB at *
  split
  · rename_i h1; rwa [if_pos h1] at h
  · rename_i h1
    rw [if_neg h1] at h
    split
    · rename_i h2; rwa [if_pos h2] at h
    · rename_i h2
      rw [if_neg h2] at h
      split
      · rename_i h3
        rw [if_pos h3] at h
        simp only [decide_eq_true_eq] at h ⊢; omega
      · rfl
theorem badAt_mono {p q : List Fn} {f : Fn} (hl : p.length ≤ q.length) {i : Nat} (h : badAt p f i = false) : badAt q f i = false := by
  unfold badAt at *
  cases hr : ((reachL f.code)[i]? == some true) with
  | false => rfl
  | true =>
    rw [hr, Bool.true_and] at h
    rw [Bool.true_and]
    split at h
    · rename_i x hx
      simp only [Bool.not_eq_false'] at h
      simp [rangedB_mono hl h]
    · rfl
theorem plain_same {p q : List Fn} {f : Fn} (hl : p.length ≤ q.length) (h : (heightsF p f).2.2 ≠ 501) : plainOf q f = plainOf p f := by
  unfold plainOf
  cases hf : (List.range f.code.length).find? (badAt p f) with
  | some i =>
    exfalso
    apply h
    have : plainOf p f = some ((i : Int), 501) := by unfold plainOf; rw [hf]
    rw [heightsF_range this]
  | none =>
    have hq : (List.range f.code.length).find? (badAt q f) = none := by
      rw [List.find?_eq_none] at hf ⊢
      intro i hi
      have := badAt_mono (q := q) hl (by simpa using hf i hi)
      rw [this]; simp
    rw [hq]
theorem hstep_row {h : Int} : ∀ {ts : List Nat} {out : List Int} {row : List Nat} {s : List Int × List Nat}, hstep h ts out row = some s → ∀ q ∈ s.2, q ∈ row ∨ q ∈ ts
  | [], out, row, s, e => by cases e; exact fun q hq => .inl hq
  | t :: ts, out, row, s, e => by
    rw [hstep] at e
    intro q hq
    split at e
    · rcases hstep_row e q hq with h | h
      · rcases List.mem_append.1 h with h | h
        · exact .inl h
        · simp at h; subst h; exact .inr (by simp)
      · exact .inr (by simp [h])
    · split at e
      · rcases hstep_row e q hq with h | h
        · exact .inl h
        · exact .inr (by simp [h])
      · cases e
theorem hwalk_congr {p q : List Fn} {code : List Ins} (ha : ∀ pc (hpc : pc < code.length), Reach code pc → argsOf q code[pc] = argsOf p code[pc]) : ∀ (n : Nat) (out : List Int) (row : List Nat), (∀ pc ∈ row, Reach code pc) → hwalk q code n out row = hwalk p code n out row
  | 0, _, _, _ => rfl
  | n + 1, _, [], _ => rfl
  | n + 1, out, pc :: row, hr => by
    rw [hwalk, hwalk]
    cases hx : code[pc]? with
    | none => rfl
    | some x =>
      cases ho : out[pc]? with
      | none => rfl
      | some o =>
        simp only
        obtain ⟨hpc, rfl⟩ := List.getElem?_eq_some_iff.1 hx
        have e := ha pc hpc (hr pc (by simp))
        have eb : behindH q code[pc] o = behindH p code[pc] o := by unfold behindH; rw [e]
        rw [e, eb]
        split
        · rfl
        · cases hs : hstep (behindH p code[pc] o) (nx code pc) out row with
          | none => rfl
          | some s =>
            simp only
            refine hwalk_congr ha n s.1 s.2 fun t ht => ?_
            rcases hstep_row hs t ht with h | h
            · exact hr t (by simp [h])
            · exact .step (hr pc (by simp)) h
theorem heightsF_more {p q : List Fn} {f : Fn} (hm : codeMay f.code = true) (hs : SameArgs p q) (h : (heightsF p f).2.2 ≠ 501) : heightsF q f = heightsF p f := by
  have hpl := plain_same hs.len h
  unfold heightsF
  rw [hpl]
  cases hp : plainOf p f with
  | some e => rfl
  | none =>
    have : hwalkOf q f.code = hwalkOf p f.code := by
      unfold hwalkOf
      refine hwalk_congr (fun pc hpc hr => argsOf_same hs (ranged_call (may_mem hm hpc) (ranged_of hm hp hr hpc))) _ _ _ fun t ht => ?_
      simp at ht; subst ht; exact .zero
    rw [this]
theorem heightsOf_more {p : List Fn} (h1 : 1 ≤ p.length) (h8 : p.length < 8) {k : Nat} (hk : k < p.length) (h : (heightsOf p k).2.2 ≠ 501) : heightsOf (moreP p) k = heightsOf p k := by
  have hkq : k < (moreP p).length := by unfold moreP; rw [List.length_append]; omega
  cases hp : packs p with
  | false =>
    have hq := packs_more h1 h8
    rw [hp] at hq
    rw [heightsOf_no (p := moreP p) (fun h => by rw [hq] at h; cases h.1), heightsOf_no (p := p) (fun h => by rw [hp] at h; cases h.1)]
  | true =>
    have hq := packs_more h1 h8
    rw [hp] at hq
    rw [heightsOf_yes hp hk] at h ⊢
    rw [heightsOf_yes hq hkq]
    rw [more_get hk hkq]
    exact heightsF_more (fnMay_of (packs_fn hp hk)).2.2.2.2 (same_more p) h

/-- An instruction more, behind a last one that goes on nowhere behind it. -/
def longF (f : Fn) : Fn := ⟨f.args, f.locals, f.code ++ [⟨16, 0⟩]⟩
def longP (p : List Fn) (k : Nat) (f : Fn) : List Fn := (moreP p).set k (longF f)
theorem long_len (p : List Fn) (k : Nat) (f : Fn) : (longP p k f).length = p.length + 1 := by simp [longP, moreP]
theorem same_long {p : List Fn} {k : Nat} (hk : k < p.length) : SameArgs p (longP p k p[k]) := fun j hj => ⟨by rw [long_len]; omega, by
  unfold longP
  rw [List.getElem_set]
  split
  · rename_i e; subst e; rfl
  · exact (same_more p j hj).2⟩
section
variable {p : List Fn} {f : Fn} (hm : codeMay f.code = true) (hpl : plainOf p f = none) (hlast : ∀ h : f.code.length - 1 < f.code.length, f.code[f.code.length - 1].kind = 16 ∨ f.code[f.code.length - 1].kind = 12)
include hm hpl hlast
theorem nx_long {pc : Nat} (hr : Reach f.code pc) : nx (longF f).code pc = nx f.code pc := by
  have hpc := hr.lt hm
  have hrg := ranged_of hm hpl hr hpc
  unfold rangedB at hrg
  have hl := hlast (by omega)
  unfold nx longF
  simp only
  rw [List.getElem?_append_left hpc, List.getElem?_eq_getElem hpc]
  simp only
  have e1 : (f.code[pc].kind ≠ 16 ∧ f.code[pc].kind ≠ 12 ∧ pc + 1 < (f.code ++ [(⟨16, 0⟩ : Ins)]).length) ↔ (f.code[pc].kind ≠ 16 ∧ f.code[pc].kind ≠ 12 ∧ pc + 1 < f.code.length) := by
    rw [List.length_append]
    simp only [List.length_cons, List.length_nil]
    constructor
    · rintro ⟨a, b, c⟩
      refine ⟨a, b, ?_⟩
      rcases Nat.lt_or_ge (pc + 1) f.code.length with h | h
      · exact h
      · obtain rfl : pc = f.code.length - 1 := by omega
        omega
    · rintro ⟨a, b, c⟩; exact ⟨a, b, by omega⟩
  have e2 : ((f.code[pc].kind = 12 ∨ f.code[pc].kind = 13) ∧ f.code[pc].a < ((f.code ++ [(⟨16, 0⟩ : Ins)]).length : Int)) ↔ ((f.code[pc].kind = 12 ∨ f.code[pc].kind = 13) ∧ f.code[pc].a < (f.code.length : Int)) := by
    rw [List.length_append]
    constructor
    · rintro ⟨a, b⟩
      rw [if_neg (by omega), if_pos a] at hrg
      exact ⟨a, by simpa using hrg⟩
    · rintro ⟨a, b⟩; exact ⟨a, by simp only [List.length_cons, List.length_nil]; omega⟩
  congr 1
  unfold nextOf
  simp only [← and_assoc] at e1 e2 ⊢
  simp only [e1, e2]
theorem reach_long {t : Nat} : Reach (longF f).code t ↔ Reach f.code t := by
  constructor
  · intro h
    induction h with
    | zero => exact .zero
    | step _ ht ih => rw [nx_long hm hpl hlast ih] at ht; exact .step ih ht
  · intro h
    induction h with
    | zero => exact .zero
    | step hr ht ih => exact .step ih (by rw [nx_long hm hpl hlast hr]; exact ht)
omit hpl hlast in
theorem codeMay_long (h64 : f.code.length < 64) : codeMay (longF f).code = true := by
  have h := codeMay_len hm
  unfold codeMay longF at *
  simp only [Bool.and_eq_true, decide_eq_true_eq] at hm ⊢
  rw [List.all_append, hm.2, List.length_append]
  refine ⟨⟨by simp, by simp; omega⟩, by decide⟩
theorem plain_long {q : List Fn} (hq : p.length ≤ q.length) (h64 : f.code.length < 64) : plainOf q (longF f) = none := by
  have hm' := codeMay_long hm h64
  have hlen : (longF f).code.length = f.code.length + 1 := by simp [longF]
  have hbad : ∀ i, i < (longF f).code.length → badAt q (longF f) i = false := fun i hi => by
    unfold badAt
    cases hr : ((reachL (longF f).code)[i]? == some true) with
    | false => rfl
    | true =>
      have hR : Reach (longF f).code i := (reachL_iff hm').1 (by simpa [Has] using hr)
      have hR' := (reach_long hm hpl hlast).1 hR
      have hi' := hR'.lt hm
      have hrg := ranged_of hm hpl hR' hi'
      have hx : (longF f).code[i]? = some f.code[i] := by unfold longF; simp only; rw [List.getElem?_append_left hi', List.getElem?_eq_getElem hi']
      rw [Bool.true_and, hx]
      have h2 := rangedB_mono (q := q) hq hrg
      have h3 : rangedB q (longF f) f.code[i] = true := by
        unfold rangedB at h2 ⊢
        split
        · rename_i h1; rw [if_pos h1] at h2; exact h2
        · rename_i h1
          rw [if_neg h1] at h2
          split
          · rename_i h4
            rw [if_pos h4] at h2
            simp only [decide_eq_true_eq, hlen] at h2 ⊢; omega
          · rename_i h4; rwa [if_neg h4] at h2
      simp only [h3, Bool.not_true]
  have hend : endBad (longF f) = false := by
    unfold endBad
    cases hr : ((reachL (longF f).code)[(longF f).code.length - 1]? == some true) with
    | false => rfl
    | true =>
      have hR : Reach (longF f).code ((longF f).code.length - 1) := (reachL_iff hm').1 (by simpa [Has] using hr)
      have := ((reach_long hm hpl hlast).1 hR).lt hm
      omega
  unfold plainOf
  have : (List.range (longF f).code.length).find? (badAt q (longF f)) = none := by
    rw [List.find?_eq_none]
    intro i hi
    rw [hbad i (by simpa using hi)]; simp
  rw [this, hend]; rfl
end
theorem hstep_long {h : Int} (hn : h ≠ -1) : ∀ (ts : List Nat) (out : List Int) (row : List Nat), (∀ t ∈ ts, t < out.length) → hstep h ts (out ++ [-1]) row = (hstep h ts out row).map fun s => (s.1 ++ [-1], s.2)
  | [], out, row, _ => rfl
  | t :: ts, out, row, ht => by
    have htl := ht t (by simp)
    rw [hstep, hstep, List.getElem?_append_left htl]
    have hts : ∀ u ∈ ts, u < out.length := fun u hu => ht u (by simp [hu])
    by_cases h1 : out[t]? = some (-1)
    · rw [if_pos h1, if_pos h1, List.set_append_left _ _ htl]
      exact hstep_long hn ts _ _ (fun u hu => by rw [List.length_set]; exact hts u hu)
    · rw [if_neg h1, if_neg h1]
      by_cases h2 : out[t]? = some h
      · rw [if_pos h2, if_pos h2]
        exact hstep_long hn ts _ _ hts
      · rw [if_neg h2, if_neg h2]; rfl
theorem hwalk_long {p q : List Fn} {f : Fn} (hm : codeMay f.code = true) (hpl : plainOf p f = none) (hlast : ∀ h : f.code.length - 1 < f.code.length, f.code[f.code.length - 1].kind = 16 ∨ f.code[f.code.length - 1].kind = 12) (hs : SameArgs p q) :
    ∀ (n m : Nat) (out : List Int) (row : List Nat) (o : List Int), out.length = f.code.length → (∀ t ∈ row, Reach f.code t) → unsetH out + row.length ≤ n → unsetH out + row.length ≤ m → hwalk p f.code n out row = .inr o → hwalk q (longF f).code m (out ++ [-1]) row = .inr (o ++ [-1])
  | 0, m, out, row, o, _, _, hn, _, e => by
    cases e
    obtain rfl : row = [] := List.eq_nil_of_length_eq_zero (by omega)
    exact hwalk_nil _ _
  | n + 1, m, out, [], o, _, _, _, _, e => by cases e; exact hwalk_nil _ _
  | n + 1, 0, out, pc :: row, o, _, _, _, hm0, _ => by simp at hm0
  | n + 1, m + 1, out, pc :: row, o, hl, hr, hn, hmm, e => by
    have hR := hr pc (by simp)
    have hpc := hR.lt hm
    have hpo : pc < out.length := by omega
    have hx : (longF f).code[pc]? = some f.code[pc] := by unfold longF; simp only; rw [List.getElem?_append_left hpc, List.getElem?_eq_getElem hpc]
    have ea : argsOf q f.code[pc] = argsOf p f.code[pc] := argsOf_same hs (ranged_call (may_mem hm hpc) (ranged_of hm hpl hR hpc))
    have eb : behindH q f.code[pc] out[pc] = behindH p f.code[pc] out[pc] := by unfold behindH; rw [ea]
    by_cases hbad : out[pc] < takesOf f.code[pc].kind (argsOf p f.code[pc]) ∨ 8 < behindH p f.code[pc] out[pc]
    · rw [hwalk_bad hpc hpo hbad] at e; cases e
    · have h1 : ¬ out[pc] < takesOf f.code[pc].kind (argsOf p f.code[pc]) := fun h => hbad (.inl h)
      have h2 : ¬ 8 < behindH p f.code[pc] out[pc] := fun h => hbad (.inr h)
      rw [hwalk_step hpc hpo h1 h2] at e
      have hb0 := behind_nonneg (p := p) (x := f.code[pc]) (o := out[pc]) (by omega)
      rw [hwalk, hx, List.getElem?_append_left hpo, List.getElem?_eq_getElem hpo]
      simp only
      rw [ea, eb, if_neg hbad, nx_long hm hpl hlast hR, hstep_long (by omega) _ _ _ (fun t ht => by rw [hl]; exact nx_lt hm ht)]
      cases hs' : hstep (behindH p f.code[pc] out[pc]) (nx f.code pc) out row with
      | none => rw [hs'] at e; cases e
      | some s =>
        rw [hs'] at e
        obtain ⟨i1, i2, i3, i4, i5, i6, i7⟩ := hstep_spec (by omega) _ _ _ _ hs'
        simp only [Option.map_some]
        refine hwalk_long hm hpl hlast hs n m s.1 s.2 o (by rw [i1]; exact hl) (fun t ht => ?_) (by rw [i7]; simp at hn; omega) (by rw [i7]; simp at hmm; omega) e
        rcases hstep_row hs' t ht with h | h
        · exact hr t (by simp [h])
        · exact .step hR h
theorem hstart_long {f : Fn} (h : 1 ≤ f.code.length) : hstart (longF f).code = hstart f.code ++ [-1] := by
  unfold hstart longF
  simp only [List.length_append, List.length_cons, List.length_nil, Nat.zero_add]
  rw [List.replicate_succ', List.set_append_left _ _ (by simp; omega)]
theorem unset_start {code : List Ins} (h0 : 1 ≤ code.length) : unsetH (hstart code) + 1 = code.length := by
  unfold hstart
  unfold unsetH
  rw [List.countP_set (by simp; omega)]
  simp [List.countP_replicate]; omega
theorem packs_long {p : List Fn} (hp : packs p = true) (h8 : p.length < 8) {k : Nat} (hk : k < p.length) (h64 : p[k].code.length < 64) : packs (longP p k p[k]) = true := by
  have h1 := (packs_len hp).1
  have hq := packs_more h1 h8
  rw [hp] at hq
  unfold packs at *
  simp only [Bool.and_eq_true, decide_eq_true_eq, List.all_eq_true] at hp hq ⊢
  rw [long_len]
  refine ⟨⟨by omega, by omega⟩, fun g hg => ?_⟩
  unfold longP at hg
  rcases List.mem_or_eq_of_mem_set hg with h | h
  · exact hq.2 g h
  · subst h
    have hf := hp.2 _ (List.getElem_mem hk)
    unfold fnMay at *
    simp only [Bool.and_eq_true, decide_eq_true_eq] at hf
    obtain ⟨⟨⟨⟨⟨⟨a, b⟩, c⟩, d⟩, e⟩, g⟩, i⟩ := hf
    have e1 : insMay ⟨16, 0⟩ = true := by decide
    simp [longF, a, b, c, d, i, e1]; omega
theorem heightsOf_long {p : List Fn} (h8 : p.length < 8) {k : Nat} (hk : k < p.length) (h64 : p[k].code.length < 64) (hlast : ∀ h : p[k].code.length - 1 < p[k].code.length, p[k].code[p[k].code.length - 1].kind = 16 ∨ p[k].code[p[k].code.length - 1].kind = 12)
    (h : (heightsOf p k).2.2 = 0) : heightsOf (longP p k p[k]) k = ((heightsOf p k).1 ++ [-1], 0, 0) ∧ (heightsOf p k).1.length = p[k].code.length := by
  have hp : packs p = true := by
    cases hp : packs p with
    | true => rfl
    | false => rw [heightsOf_no (fun h => by rw [hp] at h; cases h.1)] at h; cases h
  have hm := (fnMay_of (packs_fn hp hk)).2.2.2.2
  have hc := codeMay_len hm
  rw [heightsOf_yes hp hk] at h ⊢
  obtain ⟨hl, hw, hpl⟩ := heights_len h
  have hkq : k < (longP p k p[k]).length := by rw [long_len]; omega
  have e : (longP p k p[k])[k] = longF p[k] := List.getElem_set_self _
  rw [heightsOf_yes (packs_long hp h8 hk h64) hkq, e]
  refine ⟨?_, hl⟩
  have hpl' := plain_long hm hpl hlast (same_long hk).len h64
  have hw' : hwalkOf (longP p k p[k]) (longF p[k]).code = .inr ((heightsF p p[k]).1 ++ [-1]) := by
    have hu := unset_start hc.1
    have hlen : (longF p[k]).code.length = p[k].code.length + 1 := by simp [longF]
    unfold hwalkOf at hw ⊢
    rw [hstart_long hc.1]
    refine hwalk_long hm hpl hlast (same_long hk) _ _ _ _ _ (by simp [hstart]) (fun t ht => ?_) (by simp; omega) (by simp; omega) hw
    simp at ht; subst ht; exact .zero
  rw [heightsF_walk hpl', hw']
  rfl
end Go.Proofs.YtpfgklkdldkajaaDoor

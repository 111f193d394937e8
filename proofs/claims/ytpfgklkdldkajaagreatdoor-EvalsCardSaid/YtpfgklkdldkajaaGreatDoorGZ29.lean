/- A function more, that nobody calls, or an instruction more, that is never come to, turns no height. Plain law; no program in sight. Programs of the call's own, no two lists of which share memory; 'CopyProgram' answers one. Conditions: the program lies in memory; no list is longer than the reach. The document's 'Wrap' and 'Do': an operation of two numbers. Condition: they are numbers, it is an operation. -/
import Derived.Test.YtpfgklkdldkajaaGreatDoorGZ10
import Derived.Test.YtpfgklkdldkajaaGreatDoorGZ14
import Derived.Test.YtpfgklkdldkajaaGreatDoorGZ17
namespace Go.Proofs.YtpfgklkdldkajaaGreatDoor

def moreF : Fn := ⟨0, 0, [⟨0, 1⟩, ⟨16, 0⟩]⟩
def moreP (p : List Fn) : List Fn := p ++ [moreF]
theorem moreF_may : fnMay moreF = true := by decide
theorem packs_more {p : List Fn} (h1 : 1 ≤ p.length) (h8 : p.length < 8) : packs (moreP p) = packs p := by
  unfold packs moreP
  rw [List.all_append, show [moreF].all fnMay = true by decide, Bool.and_true, List.length_append]
  have e1 : decide (1 ≤ p.length + [moreF].length) = decide (1 ≤ p.length) := by rw [Bool.eq_iff_iff]; simp; omega
  have e2 : decide (p.length + [moreF].length ≤ 8) = decide (p.length ≤ 8) := by rw [Bool.eq_iff_iff]; simp; omega
  rw [e1, e2]
/-- The functions of the one are those of the other, as far as their args go. -/
def SameArgs (p q : List Fn) : Prop := ∀ j (hj : j < p.length), ∃ h : j < q.length, q[j].args = p[j].args
theorem SameArgs.len {p q : List Fn} (h : SameArgs p q) : p.length ≤ q.length := by
  rcases Nat.eq_zero_or_pos p.length with h0 | h0
  · omega
  · obtain ⟨h1, _⟩ := h (p.length - 1) (by omega); omega
theorem same_more (p : List Fn) : SameArgs p (moreP p) := fun j hj => ⟨by unfold moreP; rw [List.length_append]; omega, by unfold moreP; rw [List.getElem_append_left hj]⟩
theorem more_get {p : List Fn} {k : Nat} (hk : k < p.length) (h : k < (moreP p).length) : (moreP p)[k] = p[k] := List.getElem_append_left hk
theorem argsOf_same {p q : List Fn} (h : SameArgs p q) {x : Ins} (hx : x.kind = 14 → 0 ≤ x.a ∧ x.a < p.length) : argsOf q x = argsOf p x := by
  unfold argsOf
  by_cases hk : x.kind = 14
  · rw [if_pos hk, if_pos hk]
    obtain ⟨h0, h1⟩ := hx hk
    have hj : x.a.toNat < p.length := by omega
    obtain ⟨hq, e⟩ := h _ hj
    rw [List.getElem?_eq_getElem hj, List.getElem?_eq_getElem hq]
    exact e
  · rw [if_neg hk, if_neg hk]
theorem rangedB_mono {p q : List Fn} {f : Fn} {x : Ins} (hl : p.length ≤ q.length) (h : rangedB p f x = true) : rangedB q f x = true := by
  unfold rangedB at *
  split
  · rename_i h1; rwa [if_pos h1] at h
  · rename_i h1
    rw [if_neg h1] at h
    split
    · rename_i h2; rwa [if_pos h2] at h
    · rename_i h2
      rw [if_neg h2] at h
      split
      · rename_i h3
        rw [if_pos h3] at h
        simp only [decide_eq_true_eq] at h ⊢; omega
      · rfl
theorem badAt_mono {p q : List Fn} {f : Fn} (hl : p.length ≤ q.length) {i : Nat} (h : badAt p f i = false) : badAt q f i = false := by
  unfold badAt at *
  cases hr : ((reachL f.code)[i]? == some true) with
  | false => rfl
  | true =>
    rw [hr, Bool.true_and] at h
    rw [Bool.true_and]
    split at h
    · rename_i x hx
      simp only [Bool.not_eq_false'] at h
      simp [rangedB_mono hl h]
    · rfl
theorem plain_same {p q : List Fn} {f : Fn} (hl : p.length ≤ q.length) (h : (heightsF p f).2.2 ≠ 501) : plainOf q f = plainOf p f := by
  unfold plainOf
  cases hf : (List.range f.code.length).find? (badAt p f) with
  | some i =>
    exfalso
    apply h
    have : plainOf p f = some ((i : Int), 501) := by unfold plainOf; rw [hf]
    rw [heightsF_range this]
  | none =>
    have hq : (List.range f.code.length).find? (badAt q f) = none := by
      rw [List.find?_eq_none] at hf ⊢
      intro i hi
      have := badAt_mono (q := q) hl (by simpa using hf i hi)
      rw [this]; simp
    rw [hq]
theorem hstep_row {h : Int} : ∀ {ts : List Nat} {out : List Int} {row : List Nat} {s : List Int × List Nat}, hstep h ts out row = some s → ∀ q ∈ s.2, q ∈ row ∨ q ∈ ts
  | [], out, row, s, e => by cases e; exact fun q hq => .inl hq
  | t :: ts, out, row, s, e => by
    rw [hstep] at e
    intro q hq
    split at e
    · rcases hstep_row e q hq with h | h
      · rcases List.mem_append.1 h with h | h
        · exact .inl h
        · simp at h; subst h; exact .inr (by simp)
      · exact .inr (by simp [h])
    · split at e
      · rcases hstep_row e q hq with h | h
        · exact .inl h
        · exact .inr (by simp [h])
      · cases e
theorem hwalk_congr {p q : List Fn} {code : List Ins} (ha : ∀ pc (hpc : pc < code.length), Reach code pc → argsOf q code[pc] = argsOf p code[pc]) : ∀ (n : Nat) (out : List Int) (row : List Nat), (∀ pc ∈ row, Reach code pc) → hwalk q code n out row = hwalk p code n out row
  | 0, _, _, _ => rfl
  | n + 1, _, [], _ => rfl
  | n + 1, out, pc :: row, hr => by
    rw [hwalk, hwalk]
    cases hx : code[pc]? with
    | none => rfl
    | some x =>
      cases ho : out[pc]? with
      | none => rfl
      | some o =>
        simp only
        obtain ⟨hpc, rfl⟩ := List.getElem?_eq_some_iff.1 hx
        have e := ha pc hpc (hr pc (by simp))
        have eb : behindH q code[pc] o = behindH p code[pc] o := by unfold behindH; rw [e]
        rw [e, eb]
        split
        · rfl
        · cases hs : hstep (behindH p code[pc] o) (nx code pc) out row with
          | none => rfl
          | some s =>
            simp only
            refine hwalk_congr ha n s.1 s.2 fun t ht => ?_
            rcases hstep_row hs t ht with h | h
            · exact hr t (by simp [h])
            · exact .step (hr pc (by simp)) h
theorem heightsF_more {p q : List Fn} {f : Fn} (hm : codeMay f.code = true) (hs : SameArgs p q) (h : (heightsF p f).2.2 ≠ 501) : heightsF q f = heightsF p f := by
  have hpl := plain_same hs.len h
  unfold heightsF
  rw [hpl]
  cases hp : plainOf p f with
  | some e => rfl
  | none =>
    have : hwalkOf q f.code = hwalkOf p f.code := by
      unfold hwalkOf
      refine hwalk_congr (fun pc hpc hr => argsOf_same hs (ranged_call (may_mem hm hpc) (ranged_of hm hp hr hpc))) _ _ _ fun t ht => ?_
      simp at ht; subst ht; exact .zero
    rw [this]
theorem heightsOf_more {p : List Fn} (h1 : 1 ≤ p.length) (h8 : p.length < 8) {k : Nat} (hk : k < p.length) (h : (heightsOf p k).2.2 ≠ 501) : heightsOf (moreP p) k = heightsOf p k := by
  have hkq : k < (moreP p).length := by unfold moreP; rw [List.length_append]; omega
  cases hp : packs p with
  | false =>
    have hq := packs_more h1 h8
    rw [hp] at hq
    rw [heightsOf_no (p := moreP p) (fun h => by rw [hq] at h; cases h.1), heightsOf_no (p := p) (fun h => by rw [hp] at h; cases h.1)]
  | true =>
    have hq := packs_more h1 h8
    rw [hp] at hq
    rw [heightsOf_yes hp hk] at h ⊢
    rw [heightsOf_yes hq hkq]
    rw [more_get hk hkq]
    exact heightsF_more (fnMay_of (packs_fn hp hk)).2.2.2.2 (same_more p) h

/-- An instruction more, behind a last one that goes on nowhere behind it. -/
def longF (f : Fn) : Fn := ⟨f.args, f.locals, f.code ++ [⟨16, 0⟩]⟩
def longP (p : List Fn) (k : Nat) (f : Fn) : List Fn := (moreP p).set k (longF f)
theorem long_len (p : List Fn) (k : Nat) (f : Fn) : (longP p k f).length = p.length + 1 := by simp [longP, moreP]
theorem same_long {p : List Fn} {k : Nat} (hk : k < p.length) : SameArgs p (longP p k p[k]) := fun j hj => ⟨by rw [long_len]; omega, by
  unfold longP
  rw [List.getElem_set]
  split
  · rename_i e; subst e; rfl
  · exact (same_more p j hj).2⟩
section
variable {p : List Fn} {f : Fn} (hm : codeMay f.code = true) (hpl : plainOf p f = none) (hlast : ∀ h : f.code.length - 1 < f.code.length, f.code[f.code.length - 1].kind = 16 ∨ f.code[f.code.length - 1].kind = 12)
include hm hpl hlast
theorem nx_long {pc : Nat} (hr : Reach f.code pc) : nx (longF f).code pc = nx f.code pc := by
  have hpc := hr.lt hm
  have hrg := ranged_of hm hpl hr hpc
  unfold rangedB at hrg
  have hl := hlast (by omega)
  unfold nx longF
  simp only
  rw [List.getElem?_append_left hpc, List.getElem?_eq_getElem hpc]
  simp only
  have e1 : (f.code[pc].kind ≠ 16 ∧ f.code[pc].kind ≠ 12 ∧ pc + 1 < (f.code ++ [(⟨16, 0⟩ : Ins)]).length) ↔ (f.code[pc].kind ≠ 16 ∧ f.code[pc].kind ≠ 12 ∧ pc + 1 < f.code.length) := by
    rw [List.length_append]
    simp only [List.length_cons, List.length_nil]
    constructor
    · rintro ⟨a, b, c⟩
      refine ⟨a, b, ?_⟩
      rcases Nat.lt_or_ge (pc + 1) f.code.length with h | h
      · exact h
      · obtain rfl : pc = f.code.length - 1 := by omega
        omega
    · rintro ⟨a, b, c⟩; exact ⟨a, b, by omega⟩
  have e2 : ((f.code[pc].kind = 12 ∨ f.code[pc].kind = 13) ∧ f.code[pc].a < ((f.code ++ [(⟨16, 0⟩ : Ins)]).length : Int)) ↔ ((f.code[pc].kind = 12 ∨ f.code[pc].kind = 13) ∧ f.code[pc].a < (f.code.length : Int)) := by
    rw [List.length_append]
    constructor
    · rintro ⟨a, b⟩
      rw [if_neg (by omega), if_pos a] at hrg
      exact ⟨a, by simpa using hrg⟩
    · rintro ⟨a, b⟩; exact ⟨a, by simp only [List.length_cons, List.length_nil]; omega⟩
  congr 1
  unfold nextOf
  simp only [← and_assoc] at e1 e2 ⊢
  simp only [e1, e2]
theorem reach_long {t : Nat} : Reach (longF f).code t ↔ Reach f.code t := by
  constructor
  · intro h
    induction h with
    | zero => exact .zero
    | step _ ht ih => rw [nx_long hm hpl hlast ih] at ht; exact .step ih ht
  · intro h
    induction h with
    | zero => exact .zero
    | step hr ht ih => exact .step ih (by rw [nx_long hm hpl hlast hr]; exact ht)
omit hpl hlast in
theorem codeMay_long (h64 : f.code.length < 64) : codeMay (longF f).code = true := by
  have h := codeMay_len hm
  unfold codeMay longF at *
  simp only [Bool.and_eq_true, decide_eq_true_eq] at hm ⊢
  rw [List.all_append, hm.2, List.length_append]
  refine ⟨⟨by simp, by simp; omega⟩, by decide⟩
theorem plain_long {q : List Fn} (hq : p.length ≤ q.length) (h64 : f.code.length < 64) : plainOf q (longF f) = none := by
  have hm' := codeMay_long hm h64
  have hlen : (longF f).code.length = f.code.length + 1 := by simp [longF]
  have hbad : ∀ i, i < (longF f).code.length → badAt q (longF f) i = false := fun i hi => by
    unfold badAt
    cases hr : ((reachL (longF f).code)[i]? == some true) with
    | false => rfl
    | true =>
      have hR : Reach (longF f).code i := (reachL_iff hm').1 (by simpa [Has] using hr)
      have hR' := (reach_long hm hpl hlast).1 hR
      have hi' := hR'.lt hm
      have hrg := ranged_of hm hpl hR' hi'
      have hx : (longF f).code[i]? = some f.code[i] := by unfold longF; simp only; rw [List.getElem?_append_left hi', List.getElem?_eq_getElem hi']
      rw [Bool.true_and, hx]
      have h2 := rangedB_mono (q := q) hq hrg
      have h3 : rangedB q (longF f) f.code[i] = true := by
        unfold rangedB at h2 ⊢
        split
        · rename_i h1; rw [if_pos h1] at h2; exact h2
        · rename_i h1
          rw [if_neg h1] at h2
          split
          · rename_i h4
            rw [if_pos h4] at h2
            simp only [decide_eq_true_eq, hlen] at h2 ⊢; omega
          · rename_i h4; rwa [if_neg h4] at h2
      simp only [h3, Bool.not_true]
  have hend : endBad (longF f) = false := by
    unfold endBad
    cases hr : ((reachL (longF f).code)[(longF f).code.length - 1]? == some true) with
    | false => rfl
    | true =>
      have hR : Reach (longF f).code ((longF f).code.length - 1) := (reachL_iff hm').1 (by simpa [Has] using hr)
      have := ((reach_long hm hpl hlast).1 hR).lt hm
      omega
  unfold plainOf
  have : (List.range (longF f).code.length).find? (badAt q (longF f)) = none := by
    rw [List.find?_eq_none]
    intro i hi
    rw [hbad i (by simpa using hi)]; simp
  rw [this, hend]; rfl
end
theorem hstep_long {h : Int} (hn : h ≠ -1) : ∀ (ts : List Nat) (out : List Int) (row : List Nat), (∀ t ∈ ts, t < out.length) → hstep h ts (out ++ [-1]) row = (hstep h ts out row).map fun s => (s.1 ++ [-1], s.2)
  | [], out, row, _ => rfl
  | t :: ts, out, row, ht => by
    have htl := ht t (by simp)
    rw [hstep, hstep, List.getElem?_append_left htl]
    have hts : ∀ u ∈ ts, u < out.length := fun u hu => ht u (by simp [hu])
    by_cases h1 : out[t]? = some (-1)
    · rw [if_pos h1, if_pos h1, List.set_append_left _ _ htl]
      exact hstep_long hn ts _ _ (fun u hu => by rw [List.length_set]; exact hts u hu)
    · rw [if_neg h1, if_neg h1]
      by_cases h2 : out[t]? = some h
      · rw [if_pos h2, if_pos h2]
        exact hstep_long hn ts _ _ hts
      · rw [if_neg h2, if_neg h2]; rfl
theorem hwalk_long {p q : List Fn} {f : Fn} (hm : codeMay f.code = true) (hpl : plainOf p f = none) (hlast : ∀ h : f.code.length - 1 < f.code.length, f.code[f.code.length - 1].kind = 16 ∨ f.code[f.code.length - 1].kind = 12) (hs : SameArgs p q) :
    ∀ (n m : Nat) (out : List Int) (row : List Nat) (o : List Int), out.length = f.code.length → (∀ t ∈ row, Reach f.code t) → unsetH out + row.length ≤ n → unsetH out + row.length ≤ m → hwalk p f.code n out row = .inr o → hwalk q (longF f).code m (out ++ [-1]) row = .inr (o ++ [-1])
  | 0, m, out, row, o, _, _, hn, _, e => by
    cases e
    obtain rfl : row = [] := List.eq_nil_of_length_eq_zero (by omega)
    exact hwalk_nil _ _
  | n + 1, m, out, [], o, _, _, _, _, e => by cases e; exact hwalk_nil _ _
  | n + 1, 0, out, pc :: row, o, _, _, _, hm0, _ => by simp at hm0
  | n + 1, m + 1, out, pc :: row, o, hl, hr, hn, hmm, e => by
    have hR := hr pc (by simp)
    have hpc := hR.lt hm
    have hpo : pc < out.length := by omega
    have hx : (longF f).code[pc]? = some f.code[pc] := by unfold longF; simp only; rw [List.getElem?_append_left hpc, List.getElem?_eq_getElem hpc]
    have ea : argsOf q f.code[pc] = argsOf p f.code[pc] := argsOf_same hs (ranged_call (may_mem hm hpc) (ranged_of hm hpl hR hpc))
    have eb : behindH q f.code[pc] out[pc] = behindH p f.code[pc] out[pc] := by unfold behindH; rw [ea]
    by_cases hbad : out[pc] < takesOf f.code[pc].kind (argsOf p f.code[pc]) ∨ 8 < behindH p f.code[pc] out[pc]
    · rw [hwalk_bad hpc hpo hbad] at e; cases e
    · have h1 : ¬ out[pc] < takesOf f.code[pc].kind (argsOf p f.code[pc]) := fun h => hbad (.inl h)
      have h2 : ¬ 8 < behindH p f.code[pc] out[pc] := fun h => hbad (.inr h)
      rw [hwalk_step hpc hpo h1 h2] at e
      have hb0 := behind_nonneg (p := p) (x := f.code[pc]) (o := out[pc]) (by omega)
      rw [hwalk, hx, List.getElem?_append_left hpo, List.getElem?_eq_getElem hpo]
      simp only
      rw [ea, eb, if_neg hbad, nx_long hm hpl hlast hR, hstep_long (by omega) _ _ _ (fun t ht => by rw [hl]; exact nx_lt hm ht)]
      cases hs' : hstep (behindH p f.code[pc] out[pc]) (nx f.code pc) out row with
      | none => rw [hs'] at e; cases e
      | some s =>
        rw [hs'] at e
        obtain ⟨i1, i2, i3, i4, i5, i6, i7⟩ := hstep_spec (by omega) _ _ _ _ hs'
        simp only [Option.map_some]
        refine hwalk_long hm hpl hlast hs n m s.1 s.2 o (by rw [i1]; exact hl) (fun t ht => ?_) (by rw [i7]; simp at hn; omega) (by rw [i7]; simp at hmm; omega) e
        rcases hstep_row hs' t ht with h | h
        · exact hr t (by simp [h])
        · exact .step hR h
theorem hstart_long {f : Fn} (h : 1 ≤ f.code.length) : hstart (longF f).code = hstart f.code ++ [-1] := by
  unfold hstart longF
  simp only [List.length_append, List.length_cons, List.length_nil, Nat.zero_add]
  rw [List.replicate_succ', List.set_append_left _ _ (by simp; omega)]
theorem unset_start {code : List Ins} (h0 : 1 ≤ code.length) : unsetH (hstart code) + 1 = code.length := by
  unfold hstart
  unfold unsetH
  rw [List.countP_set (by simp; omega)]
  simp [List.countP_replicate]; omega
theorem packs_long {p : List Fn} (hp : packs p = true) (h8 : p.length < 8) {k : Nat} (hk : k < p.length) (h64 : p[k].code.length < 64) : packs (longP p k p[k]) = true := by
  have h1 := (packs_len hp).1
  have hq := packs_more h1 h8
  rw [hp] at hq
  unfold packs at *
  simp only [Bool.and_eq_true, decide_eq_true_eq, List.all_eq_true] at hp hq ⊢
  rw [long_len]
  refine ⟨⟨by omega, by omega⟩, fun g hg => ?_⟩
  unfold longP at hg
  rcases List.mem_or_eq_of_mem_set hg with h | h
  · exact hq.2 g h
  · subst h
    have hf := hp.2 _ (List.getElem_mem hk)
    unfold fnMay at *
    simp only [Bool.and_eq_true, decide_eq_true_eq] at hf
    obtain ⟨⟨⟨⟨⟨⟨a, b⟩, c⟩, d⟩, e⟩, g⟩, i⟩ := hf
    have e1 : insMay ⟨16, 0⟩ = true := by decide
    simp [longF, a, b, c, d, i, e1]; omega
theorem heightsOf_long {p : List Fn} (h8 : p.length < 8) {k : Nat} (hk : k < p.length) (h64 : p[k].code.length < 64) (hlast : ∀ h : p[k].code.length - 1 < p[k].code.length, p[k].code[p[k].code.length - 1].kind = 16 ∨ p[k].code[p[k].code.length - 1].kind = 12)
    (h : (heightsOf p k).2.2 = 0) : heightsOf (longP p k p[k]) k = ((heightsOf p k).1 ++ [-1], 0, 0) ∧ (heightsOf p k).1.length = p[k].code.length := by
  have hp : packs p = true := by
    cases hp : packs p with
    | true => rfl
    | false => rw [heightsOf_no (fun h => by rw [hp] at h; cases h.1)] at h; cases h
  have hm := (fnMay_of (packs_fn hp hk)).2.2.2.2
  have hc := codeMay_len hm
  rw [heightsOf_yes hp hk] at h ⊢
  obtain ⟨hl, hw, hpl⟩ := heights_len h
  have hkq : k < (longP p k p[k]).length := by rw [long_len]; omega
  have e : (longP p k p[k])[k] = longF p[k] := List.getElem_set_self _
  rw [heightsOf_yes (packs_long hp h8 hk h64) hkq, e]
  refine ⟨?_, hl⟩
  have hpl' := plain_long hm hpl hlast (same_long hk).len h64
  have hw' : hwalkOf (longP p k p[k]) (longF p[k]).code = .inr ((heightsF p p[k]).1 ++ [-1]) := by
    have hu := unset_start hc.1
    have hlen : (longF p[k]).code.length = p[k].code.length + 1 := by simp [longF]
    unfold hwalkOf at hw ⊢
    rw [hstart_long hc.1]
    refine hwalk_long hm hpl hlast (same_long hk) _ _ _ _ _ (by simp [hstart]) (fun t ht => ?_) (by simp; omega) (by simp; omega) hw
    simp at ht; subst ht; exact .zero
  rw [heightsF_walk hpl', hw']
  rfl
end Go.Proofs.YtpfgklkdldkajaaGreatDoor

namespace Go.Proofs.YtpfgklkdldkajaaGreatDoor
open Go.RowKit

def innC (xs : List Ins) : Inn := ⟨62, 2, xs.length, insV xs⟩
/-- A function's cells; its row. -/
def KFn : Kind Fn where
  t := 86
  sz := 3
  m := 1
  cells := fun f vs => [.int .i64 f.args, .int .i64 f.locals, vs.getD 0 undef]
  rows := fun f => [innC f.code]
  len := fun _ _ => rfl
def OwnP (w : World) (base : Nat) (v : Value) (p : List Fn) (vss : List (List Value)) : Prop := OwnG KFn w base v p vss
theorem one_of {l : List Value} (h : l.length = 1) : ∃ a, l = [a] := by match l, h with | [a], _ => exact ⟨a, rfl⟩
theorem CRow.code {w : World} {base n cap : Nat} {ao : Option Addr} {xs : List Ins} (h : CRow w base 62 2 (.slice ao n cap) n (insV xs)) : ReadsC w ao xs := by
  rcases h with h | ⟨rfl, h, _⟩
  · exact h.code.2
  · have : xs = [] := by cases xs with
      | nil => rfl
      | cons x xs => simp [insV, insC] at h
    subst this
    exact ⟨by simp, fun h => absurd h (by simp)⟩
theorem OwnP.at_ {w : World} {base n cap : Nat} {ao : Option Addr} {p : List Fn} {vss : List (List Value)} (h : OwnP w base (.slice ao n cap) p vss) {k : Nat} (hk : k < p.length) :
    ∃ g off, ao = some ⟨g, off, none⟩ ∧ base ≤ g ∧ g < w.heap.size ∧ ob (.slice ao n cap) = some g ∧ ∃ hk' : k < vss.length, ∃ A1 c1, vss[k] = [.slice A1 p[k].code.length c1] ∧ InnAt w base (.slice A1 p[k].code.length c1) (innC p[k].code) ∧
      w.cell? ⟨g, off + k * 3, none⟩ = some (.int .i64 p[k].args) ∧ w.cell? ⟨g, off + k * 3 + 1, none⟩ = some (.int .i64 p[k].locals) ∧ w.cell? ⟨g, off + k * 3 + 2, none⟩ = some (.slice A1 p[k].code.length c1) ∧
      ∀ j, j < 3 → w.frozen? ⟨g, off + k * 3 + j, none⟩ = false := by
  have hl := h.len
  have hk' : k < vss.length := by omega
  obtain ⟨g, off, rfl, h1, h2, h3, hc⟩ := OwnG.cell h (by decide) hk
  obtain ⟨e, hi⟩ := h.inn k hk hk'
  obtain ⟨a, eab⟩ := one_of (show vss[k].length = 1 from e)
  have i0 := hi 0 (by rw [eab]; simp) (by simp [KFn])
  have e0 : vss[k][0]'(by rw [eab]; simp) = a := by simp [eab]
  rw [e0] at i0
  have i0' : InnAt w base a (innC p[k].code) := i0
  obtain ⟨A1, c1, ea, _, _⟩ := CRow.shape i0'
  subst ea
  have cc := fun j (hj : j < 3) => hc k hk hk' j hj
  have c0 := (cc 0 (by decide)).1
  have c1' := (cc 1 (by decide)).1
  have c2' := (cc 2 (by decide)).1
  simp only [KFn, eab, List.getElem_cons_zero, List.getElem_cons_succ, List.getD_cons_zero, Nat.add_zero] at c0 c1' c2'
  exact ⟨g, off, rfl, h1, h2, h3, hk', A1, c1, eab, i0', c0, c1', c2', fun j hj => (cc j hj).2⟩
theorem OwnP.reads {w : World} {base n cap : Nat} {ao : Option Addr} {p : List Fn} {vss : List (List Value)} (h : OwnP w base (.slice ao n cap) p vss) : n = p.length ∧ ReadsF w ao p := by
  obtain ⟨_, _, e, hm1, hm2⟩ := h.row.shape
  injection e with e1 e2 e3
  refine ⟨e2, by unfold maxLen at hm2; omega, fun h0 => ?_⟩
  obtain ⟨g, off, rfl, _⟩ := h.at_ (k := 0) h0
  refine ⟨_, rfl, fun k hk => ?_⟩
  obtain ⟨g', off', e, _, _, _, _, A1, c1, _, i0, c0, c1', c2', _⟩ := h.at_ hk
  cases e
  rw [Addr.add_lit]
  exact ⟨c0, c1', A1, c1, c2', CRow.code i0⟩
/-- A call that answers a program of its own. -/
def ProgG (p : List Fn) (w : World) (e : Ending) (w' : World) : Prop := ∃ ao cap vss, e = .returned (.agg #[.slice ao p.length cap]) ∧ OwnP w' w.heap.size (.slice ao p.length cap) p vss ∧ Below w.heap.size w w'
theorem func_src {w : World} {g : Nat} {f : Fn} {A1 : Option Addr} {n1 c1 : Nat} (h : RowAt 86 g [.int .i64 f.args, .int .i64 f.locals, .slice A1 n1 c1] w) : Src Tryz.prog 3 22 (.slice (some ⟨g, 0, none⟩) 1 1) 1 [.int .i64 f.args, .int .i64 f.locals, .slice A1 n1 c1] w :=
  Src.ofSlice _ Tryz.underlying22 _ 1 1 _ rfl (fun j u hu => by
    obtain ⟨hj, rfl⟩ := List.getElem?_eq_some_iff.1 hu
    rw [add_plain]
    exact h.cell (k := j) hj) (fun u hu => by
    simp at hu
    rcases hu with rfl | rfl | rfl <;> rfl)
/-- A function written anew: its cells, its code in memory of its own. -/
theorem OwnP.store {S : Nat → Prop} {w w1 : World} {base g off n cap : Nat} {p : List Fn} {vss : List (List Value)} (h : OwnP w base (.slice (some ⟨g, off, none⟩) n cap) p vss) {k : Nat} (hk : k < p.length) (hk' : k < vss.length) (x : Fn) (u : Value)
    (hch : Chg S w w1) (hg : ¬ S g) (hS : ∀ b, S b → ∀ i (hi : i < vss.length) q (hq : q < vss[i].length), i ≠ k → ob vss[i][q] ≠ some b) (hu : InnAt w1 base u (innC x.code)) (hat : ∀ b, ob u = some b → (∃ j', ∃ hj' : j' < vss[k].length, ob vss[k][j'] = some b) ∨ w.heap.size ≤ b) :
    OwnP (((w1.setCell ⟨g, off + k * 3, none⟩ (.int .i64 x.args)).setCell ⟨g, off + k * 3 + 1, none⟩ (.int .i64 x.locals)).setCell ⟨g, off + k * 3 + 2, none⟩ u) base (.slice (some ⟨g, off, none⟩) n cap) (p.set k x) (vss.set k [u]) := by
  have hl := h.len
  have hzl : (List.zipWith KFn.cells p vss).length = p.length := by simp [hl]
  obtain ⟨_, _, e2, hnc, _⟩ := h.row.shape
  injection e2 with _ e2 e3
  subst e2 e3
  have hob : ob (.slice (some ⟨g, off, none⟩) p.length cap) = some g := ob_some (by omega)
  have r0 := h.row.chg hch (fun b hb hb2 => by rw [hob] at hb; cases hb; exact hg hb2)
  have hki : k < (List.zipWith KFn.cells p vss).length := by omega
  rw [show List.zipWith KFn.cells p vss = (List.zipWith KFn.cells p vss).set k ((List.zipWith KFn.cells p vss)[k]) from (List.set_getElem_self _).symm] at r0
  have hL := zip_len KFn p vss
  have l0 : ((List.zipWith KFn.cells p vss)[k]).length = 3 := hL _ (List.getElem_mem hki)
  have r1 := CRow.elt_put' hL hki l0 r0 (j := 0) (by decide) (.int .i64 x.args)
  have r2 := CRow.elt_put' hL hki (by rw [List.length_set]; exact l0) r1 (j := 1) (by decide) (.int .i64 x.locals)
  have r3 := CRow.elt_put' hL hki (by rw [List.length_set, List.length_set]; exact l0) r2 (j := 2) (by decide) u
  have e : ((((List.zipWith KFn.cells p vss)[k]).set 0 (.int .i64 x.args)).set 1 (.int .i64 x.locals)).set 2 u = KFn.cells x [u] := by
    rw [List.getElem_zipWith]; rfl
  rw [e, zip_set KFn hk hl] at r3
  have c1 : Chg (fun b => b = g) w1 (((w1.setCell ⟨g, off + k * 3, none⟩ (.int .i64 x.args)).setCell ⟨g, off + k * 3 + 1, none⟩ (.int .i64 x.locals)).setCell ⟨g, off + k * 3 + 2, none⟩ u) :=
    (((Chg.refl (fun b => b = g) w1).put (a := ⟨g, off + k * 3, none⟩) rfl _).put (a := ⟨g, off + k * 3 + 1, none⟩) rfl _).put (a := ⟨g, off + k * 3 + 2, none⟩) rfl _
  exact OwnG.swap h hk hk' x [u] hch hS c1 r3 rfl (fun j hj hj' => by
    obtain rfl : j = 0 := by simpa using hj
    exact hu) (fun j hj b hb => by
    obtain rfl : j = 0 := by simpa using hj
    exact hat b hb) (fun j hj j' hj' hne => by simp at hj hj'; omega)
set_option maxRecDepth 100000 in
set_option maxHeartbeats 4000000 in
theorem copyProgramG_any (A : Option Addr) (c : Nat) (p : List Fn) (w : World) (hr : ReadsF w A p) (hz : Fits p) :
    Calls Tryz.prog 24 #[.agg #[.slice A p.length c]] w (ProgG p w) := by
  obtain ⟨w0, hw0⟩ : ∃ w0, w.alloc (.cells #[.slice A p.length c] 24) = w0 := ⟨_, rfl⟩
  obtain ⟨w1, hw1⟩ : ∃ w1, w0.alloc (.cells #[.slice none 0 0] 24) = w1 := ⟨_, rfl⟩
  obtain ⟨w2, hw2⟩ : ∃ w2, w1.alloc (.cells #[.slice none 0 0] 24) = w2 := ⟨_, rfl⟩
  have z0 : w0.heap.size = w.heap.size + 1 := by rw [← hw0]; simp
  have z1 : w1.heap.size = w.heap.size + 2 := by rw [← hw1]; simp [z0]
  have z2 : w2.heap.size = w.heap.size + 3 := by rw [← hw2]; simp [z1]
  have b0 : Below w.heap.size w w0 := hw0 ▸ below_alloc (Below.refl _ _) _
  have b01 : Below w0.heap.size w0 w1 := hw1 ▸ below_alloc (Below.refl _ _) _
  have b12 : Below w1.heap.size w1 w2 := hw2 ▸ below_alloc (Below.refl _ _) _
  have r0 : RowAt 24 w.heap.size [.slice A p.length c] w2 := ((hw0 ▸ RowAt.new _ _ w : RowAt 24 w.heap.size [.slice A p.length c] w0).below b01).below b12
  have r1 : RowAt 24 w0.heap.size [.slice none 0 0] w2 := (hw1 ▸ RowAt.new _ _ w0 : RowAt 24 w0.heap.size [.slice none 0 0] w1).below b12
  have r2 : RowAt 24 w1.heap.size [.slice none 0 0] w2 := hw2 ▸ RowAt.new _ _ w1
  have B2 := Lib.hid (below_trans (below_trans b0 b01) b12)
  have R0 := Lib.hid r0
  have R1 := Lib.hid r1
  have R2 := Lib.hid r2
  have HX := Lib.hid hr
  have HZ := Lib.hid hz
  have HNIL := Lib.hid (OwnG.nil KFn w2 w2.heap.size)
  have hn := hr.1
  clear hr hz b0 b01 b12 r0 r1 r2
  have HZS := Lib.hid (And.intro z0 (And.intro z1 z2))
  clear z0 z1 z2
  go_enter Tryz.func24, Tryz.ntmps24
  go_wp2_with fail
  clear hw0 hw1 hw2
  go_loopw [4] (fun i wr => ∃ (k : Nat) (v : Value) (vss : List (List Value)), i = .int .i64 k ∧ k ≤ p.length ∧ OwnG KFn wr w2.heap.size v (p.take k) vss ∧ RowAt 24 w.heap.size [.slice A p.length c] wr ∧ RowAt 24 w0.heap.size [.slice none 0 0] wr ∧ RowAt 24 w1.heap.size [v] wr ∧ Below w.heap.size w wr ∧ w2.heap.size ≤ wr.heap.size) (fun i _ => p.length - (intOf i).toNat)
  case atStart => exact ⟨0, _, _, rfl, Nat.zero_le _, HNIL.out, R0.out, R1.out, R2.out, B2.out, Nat.le_refl _⟩
  case round =>
    obtain ⟨k, v, vss, rfl, hk, ho, h0, h1, h2, hb, hsz⟩ := hrel
    have c0 := row_cell h0
    have HO := Lib.hid ho
    have H0 := Lib.hid h0
    have H1 := Lib.hid h1
    have H2 := Lib.hid h2
    have HB := Lib.hid hb
    have HSZ := Lib.hid hsz
    clear ho h0 h1 h2 hb hsz HNIL R0 R1 R2 B2
    by_cases hlt : k < p.length
    · obtain ⟨ad, eA, d0, d1, Ac, cc, d2, hrc⟩ := HX.out.at_ HB.out hlt
      subst eA
      have bF := below_alloc (Below.refl wr.heap.size wr) (.cells #[.int .i64 p[k].args, .int .i64 p[k].locals, .slice Ac p[k].code.length cc] 86)
      have rF : RowAt 86 wr.heap.size [.int .i64 p[k].args, .int .i64 p[k].locals, .slice Ac p[k].code.length cc] (wr.alloc (.cells #[.int .i64 p[k].args, .int .i64 p[k].locals, .slice Ac p[k].code.length cc] 86)) := RowAt.new _ _ wr
      have hfit : p[k].code.length * 16 ≤ 140737488351232 := HZ.out.2 _ (List.getElem_mem hlt)
      have HCI := Lib.hid (copyInss_any Ac cc p[k].code _ (hrc.below bF) hfit)
      have BF := Lib.hid bF
      have RF := Lib.hid rF
      clear bF rF hrc
      go_wp2_with fail
      refine HCI.out.mono ?_
      rintro e w3 ⟨ao, cap, rfl, hrow, hB3⟩
      have rF3 := RF.out.below hB3
      have f2 := rF3.free 2
      have g2 := rF3.cell (k := 2) (by simp)
      simp only [List.getElem_cons_succ, List.getElem_cons_zero] at g2
      have bl3 := below_trans BF.out hB3
      have rP := rF3.put 2 (.slice ao p[k].code.length cap)
      simp only [List.set_cons_succ, List.set_cons_zero] at rP
      have bl4 := Below.setCell bl3 (p := ⟨wr.heap.size, 2, none⟩) (Nat.le_refl _) (.slice ao p[k].code.length cap)
      obtain ⟨w4, hw4⟩ : ∃ w4, w3.setCell ⟨wr.heap.size, 2, none⟩ (.slice ao p[k].code.length cap) = w4 := ⟨_, rfl⟩
      have kw4 : Chg (fun x => x = wr.heap.size) w3 w4 := hw4 ▸ Chg.put (S := fun x => x = wr.heap.size) (Chg.refl _ w3) (a := ⟨wr.heap.size, 2, none⟩) rfl _
      have hinn : InnAt w3 (wr.heap.size + 1) (.slice ao p[k].code.length cap) (innC p[k].code) := .inl (hrow.mono (by simp))
      have hbld : Build w4 (wr.heap.size + 1) [.slice ao p[k].code.length cap] [innC p[k].code] := Build.chg (S := fun x => x = wr.heap.size) ⟨rfl, fun j hj hj' => by
        obtain rfl : j = 0 := by simpa using hj
        exact hinn, fun j hj j' hj' hne => by simp at hj hj'; omega⟩ kw4 (fun b hb => by omega)
      rw [hw4] at rP bl4
      have q1 := row_cell (H2.out.below bl4)
      have p0 := rP.cell (k := 0) (by simp)
      have p1 := rP.cell (k := 1) (by simp)
      have p2 := rP.cell (k := 2) (by simp)
      simp only [List.getElem_cons_succ, List.getElem_cons_zero] at p0 p1 p2
      have b5 := below_alloc (Below.refl w4.heap.size w4) (.cells #[.int .i64 p[k].args, .int .i64 p[k].locals, .slice ao p[k].code.length cap] 86)
      have hsrc := func_src (f := p[k]) (RowAt.new 86 [.int .i64 p[k].args, .int .i64 p[k].locals, .slice ao p[k].code.length cap] w4)
      have hkl : (p.take k).length = k := by simp; omega
      have hvin := OwnG.lo HO.out
      have HO5 := Lib.hid (OwnG.below (OwnG.below HO.out bl4) b5)
      have hrow5 := HO5.out.row
      simp only [hkl] at hrow5
      have HROW := Lib.hid hrow5
      have HBD := Lib.hid (hbld.below b5)
      have HKL := Lib.hid hkl
      have HSRC := Lib.hid hsrc
      have HVIN := Lib.hid hvin
      have S0 := Lib.hid ((H0.out.below bl4).below b5)
      have S1 := Lib.hid ((H1.out.below bl4).below b5)
      have S2 := Lib.hid ((H2.out.below bl4).below b5)
      have B5 := Lib.hid (below_trans (below_trans HB.out bl4) b5)
      have HF4 := Lib.hid (show wr.heap.size + 1 ≤ w4.heap.size by have := blk_lt rP; omega)
      obtain ⟨i0, hi0, hz0, hs0, hb0⟩ := info_parts info_func
      have HI0 := Lib.hid hi0
      have HZ0 := Lib.hid hz0
      have HS0 := Lib.hid hs0
      have HBY := Lib.hid hb0
      have hfz := HZ.out.1
      have HZLT := Lib.hid (show w1.heap.size < w2.heap.size by have := HZS.out; omega)
      have HL1 := Lib.hid (blk_lt H1.out)
      have HL2 := Lib.hid (blk_lt H2.out)
      have HL0 := Lib.hid (blk_lt H0.out)
      clear hi0 hz0 hs0 hb0 hrow hB3 rF3 bl3 rP bl4 b5 hsrc hkl hvin RF BF HCI kw4 hinn hbld hrow5
      go_upto_region 7 with fail
      go_wp2_with (first | (at_builtin; refine wpList_append_crow _ rfl _ _ 22 22 86 rfl i0 _ 3 40 Tryz.underlying22 HI0.out HZ0.out HS0.out HBY.out rfl w2.heap.size v k _ rfl HROW.out ?c1 _ 1 _ rfl HSRC.out ?c2 ?c3 ?_; rotate_left 3; intro v' w5 hG; obtain ⟨ao', cap', hv', hle', hmx'⟩ := hG.row.shape; subst hv'; have hS2 := S2.out.chg hG.chg (fun e => by have := (HVIN.out v (by simp) _ e).1; have := HZLT.out; omega); have T1 := row_cell hS2; have T2 := hS2.free 0; have HG := Lib.hid hG; have HT2 := Lib.hid hS2; clear hG hS2) | fail)
      case c1 => have := HSZ.out; have := HF4.out; simp; omega
      case c2 => omega
      case c3 => unfold maxLen; omega
      have hG := HG.out
      have kc : Chg (fun x => x = w1.heap.size) w5 (w5.setCell ⟨w1.heap.size, 0, none⟩ (.slice ao' (k + 1) cap')) := Chg.put (S := fun x => x = w1.heap.size) (Chg.refl _ w5) (a := ⟨w1.heap.size, 0, none⟩) rfl _
      have hz := HZS.out
      have hgrow := OwnG.grow_build (N := wr.heap.size + 1) (x := p[k]) (us := [.slice ao p[k].code.length cap]) HO5.out (by rw [HKL.out]; exact hG) (fun u hu b hb => by have := (HVIN.out u hu b hb).2; omega) HBD.out (by have := HSZ.out; omega)
      have F1 := OwnG.chg hgrow kc (fun u hu b hb e => by have := (OwnG.lo hgrow u hu b hb).1; omega)
      have hnv : ∀ x, x < w2.heap.size → ob v ≠ some x := fun x hx e => by have := (HVIN.out v (by simp) _ e).1; omega
      have F2 := (S0.out.chg hG.chg (hnv _ (by omega))).chg kc (by omega)
      have F3 := (S1.out.chg hG.chg (hnv _ (by omega))).chg kc (by omega)
      have F4 := HT2.out.put 0 (.slice ao' (k + 1) cap')
      simp only [List.set_cons_zero] at F4
      have F5 := Below.setCell (Chg.below B5.out hG.chg (fun b hb => by have := (HVIN.out v (by simp) _ hb).1; omega)) (p := ⟨w1.heap.size, 0, none⟩) (by simp; omega) (.slice ao' (k + 1) cap')
      have F6 : w2.heap.size ≤ (w5.setCell ⟨w1.heap.size, 0, none⟩ (.slice ao' (k + 1) cap')).heap.size := by have h1 := hG.kept.size; have := HF4.out; have := HSZ.out; simp at h1 ⊢; omega
      rw [← List.take_succ_eq_append_getElem hlt] at F1
      have HF := Lib.hid (And.intro F1 (And.intro F2 (And.intro F3 (And.intro F4 (And.intro F5 F6)))))
      clear F1 F2 F3 F4 F5 F6 hG hgrow kc hnv T1 T2
      go_wp2_with fail
      go_roundw
      case rel => exact ⟨k + 1, _, _, by go_num, by omega, HF.out.1, HF.out.2.1, HF.out.2.2.1, HF.out.2.2.2.1, HF.out.2.2.2.2.1, HF.out.2.2.2.2.2⟩
      case measure => simp only [intOf]; omega
    · have hke : p.take k = p := List.take_of_length_le (by omega)
      rw [hke] at HO
      have c2 := row_cell H2.out
      have c1 := row_cell H1.out
      have f1 := H1.out.free 0
      obtain ⟨ao, cap, rfl, _, _⟩ := HO.out.row.shape
      have kc : Chg (fun x => x = w0.heap.size) wr (wr.setCell ⟨w0.heap.size, 0, none⟩ (.slice ao p.length cap)) := Chg.put (S := fun x => x = w0.heap.size) (Chg.refl _ wr) (a := ⟨w0.heap.size, 0, none⟩) rfl _
      have hz := HZS.out
      have F1 := Lib.hid (OwnG.mono (OwnG.chg HO.out kc (fun u hu b hb e => by have := (OwnG.lo HO.out u hu b hb).1; omega)) (show w.heap.size ≤ w2.heap.size by omega))
      have F2 := Lib.hid (Below.setCell HB.out (p := ⟨w0.heap.size, 0, none⟩) (by simp; omega) (.slice ao p.length cap))
      have e1 := World.cell?_setCell_same (w := wr) (a := ⟨w0.heap.size, 0, none⟩) (v := .slice ao p.length cap) (h := c1)
      clear kc hke hz
      go_wp2_with fail
      exact bodyPost_ret (v := .agg #[.slice ao p.length cap]) (by simp [results, Tryz.results24, go_sem, e1]) rfl ⟨ao, cap, _, rfl, F1.out, F2.out⟩
end Go.Proofs.YtpfgklkdldkajaaGreatDoor

namespace Go.Proofs.YtpfgklkdldkajaaGreatDoor
open Go.RowKit

theorem refWrapN_any (x : Int) (w : World) : Calls Tryz.prog 44 #[.int .i64 x] w fun e w' => e = .returned (.int .i64 (wrapN x)) ∧ w' = w := by
  have H := Lib.hid (show wrap64 (wrap32 (IntKind.u64.wrap x % 4294967296)) = wrapN x by rw [← wrap_n]; congr 1; rw [IntKind.wrap_u64]; unfold wrap32; omega)
  go_enter Tryz.func44, Tryz.ntmps44
  go_wp2
  go_ret
  exact ⟨by rw [← H.out]; rfl, rfl⟩
set_option maxRecDepth 100000 in
set_option maxHeartbeats 4000000 in
theorem rdo3_any (a b : Int) (ha : isNum a = true) (hb : isNum b = true) (w : World) : Calls Tryz.prog 119 #[.int .i64 3, .int .i64 a, .int .i64 b] w fun e w' => e = .returned (.tuple #[.int .i64 (doN 3 a b).1, .bool (doN 3 a b).2, .int .i64 0]) ∧ w' = w := by
  have HA := Lib.hid (show ∀ W, Calls Tryz.prog 57 #[.int .i64 a] W fun e w' => e = .returned (.bool true) ∧ w' = W from fun W => by have := number_any a W; rwa [ha] at this)
  have HB := Lib.hid (show ∀ W, Calls Tryz.prog 57 #[.int .i64 b] W fun e w' => e = .returned (.bool true) ∧ w' = W from fun W => by have := number_any b W; rwa [hb] at this)
  have na := num_yes.1 ha
  have nb := num_yes.1 hb
  have hw : IntKind.i64.wrap (a + b) = a + b := by rw [IntKind.wrap_i64]; omega
  have HE := Lib.hid (show doN 3 a b = (wrapN (a + b), false) by unfold doN; rw [if_neg (fun h => by omega)]; rfl)
  clear ha hb na nb
  go_enter Tryz.func119, Tryz.ntmps119
  go_wp2_with (first | (go_at_call 57; first | ((with_reducible refine (HA.out _).mono ?_); rintro e wn ⟨rfl, rfl⟩) | ((with_reducible refine (HB.out _).mono ?_); rintro e wn ⟨rfl, rfl⟩)) | (go_at_call 44; (with_reducible refine (refWrapN_any _ _).mono ?_); rintro e wn ⟨rfl, rfl⟩) | fail)
  exact bodyPost_ret (v := .tuple #[.int .i64 (wrapN (a + b)), .bool false, .int .i64 0]) (by simp [results, Tryz.results119, go_sem]) rfl ⟨by rw [HE.out], rfl⟩
set_option maxRecDepth 100000 in
set_option maxHeartbeats 4000000 in
theorem rdo4_any (a b : Int) (ha : isNum a = true) (hb : isNum b = true) (w : World) : Calls Tryz.prog 119 #[.int .i64 4, .int .i64 a, .int .i64 b] w fun e w' => e = .returned (.tuple #[.int .i64 (doN 4 a b).1, .bool (doN 4 a b).2, .int .i64 0]) ∧ w' = w := by
  have HA := Lib.hid (show ∀ W, Calls Tryz.prog 57 #[.int .i64 a] W fun e w' => e = .returned (.bool true) ∧ w' = W from fun W => by have := number_any a W; rwa [ha] at this)
  have HB := Lib.hid (show ∀ W, Calls Tryz.prog 57 #[.int .i64 b] W fun e w' => e = .returned (.bool true) ∧ w' = W from fun W => by have := number_any b W; rwa [hb] at this)
  have na := num_yes.1 ha
  have nb := num_yes.1 hb
  have hn : IntKind.i64.wrap (-b) = -b := by rw [IntKind.wrap_i64]; omega
  have hw : IntKind.i64.wrap (a + -b) = a - b := by rw [IntKind.wrap_i64]; omega
  have hw2 : IntKind.i64.wrap (a - b) = a - b := by rw [IntKind.wrap_i64]; omega
  have HE := Lib.hid (show doN 4 a b = (wrapN (a - b), false) by unfold doN; rw [if_neg (fun h => by omega)]; rfl)
  clear ha hb na nb
  go_enter Tryz.func119, Tryz.ntmps119
  go_wp2_with (first | (go_at_call 57; first | ((with_reducible refine (HA.out _).mono ?_); rintro e wn ⟨rfl, rfl⟩) | ((with_reducible refine (HB.out _).mono ?_); rintro e wn ⟨rfl, rfl⟩)) | (go_at_call 44; (with_reducible refine (refWrapN_any _ _).mono ?_); rintro e wn ⟨rfl, rfl⟩) | fail)
  exact bodyPost_ret (v := .tuple #[.int .i64 (wrapN (a - b)), .bool false, .int .i64 0]) (by simp [results, Tryz.results119, go_sem]) rfl ⟨by rw [HE.out], rfl⟩
set_option maxRecDepth 100000 in
set_option maxHeartbeats 4000000 in
theorem rdo5_any (a b : Int) (ha : isNum a = true) (hb : isNum b = true) (w : World) : Calls Tryz.prog 119 #[.int .i64 5, .int .i64 a, .int .i64 b] w fun e w' => e = .returned (.tuple #[.int .i64 (doN 5 a b).1, .bool (doN 5 a b).2, .int .i64 0]) ∧ w' = w := by
  have HA := Lib.hid (show ∀ W, Calls Tryz.prog 57 #[.int .i64 a] W fun e w' => e = .returned (.bool true) ∧ w' = W from fun W => by have := number_any a W; rwa [ha] at this)
  have HB := Lib.hid (show ∀ W, Calls Tryz.prog 57 #[.int .i64 b] W fun e w' => e = .returned (.bool true) ∧ w' = W from fun W => by have := number_any b W; rwa [hb] at this)
  have na := num_yes.1 ha
  have nb := num_yes.1 hb
  have hw := mul_in na nb
  have HE := Lib.hid (show doN 5 a b = (wrapN (a * b), false) by unfold doN; rw [if_neg (fun h => by omega)]; rfl)
  clear ha hb na nb
  go_enter Tryz.func119, Tryz.ntmps119
  go_wp2_with (first | (go_at_call 57; first | ((with_reducible refine (HA.out _).mono ?_); rintro e wn ⟨rfl, rfl⟩) | ((with_reducible refine (HB.out _).mono ?_); rintro e wn ⟨rfl, rfl⟩)) | (go_at_call 44; (with_reducible refine (refWrapN_any _ _).mono ?_); rintro e wn ⟨rfl, rfl⟩) | fail)
  exact bodyPost_ret (v := .tuple #[.int .i64 (wrapN (a * b)), .bool false, .int .i64 0]) (by simp [results, Tryz.results119, go_sem]) rfl ⟨by rw [HE.out], rfl⟩
set_option maxRecDepth 100000 in
set_option maxHeartbeats 4000000 in
theorem rdo6_any (a b : Int) (ha : isNum a = true) (hb : isNum b = true) (w : World) : Calls Tryz.prog 119 #[.int .i64 6, .int .i64 a, .int .i64 b] w fun e w' => e = .returned (.tuple #[.int .i64 (doN 6 a b).1, .bool (doN 6 a b).2, .int .i64 0]) ∧ w' = w := by
  have HA := Lib.hid (show ∀ W, Calls Tryz.prog 57 #[.int .i64 a] W fun e w' => e = .returned (.bool true) ∧ w' = W from fun W => by have := number_any a W; rwa [ha] at this)
  have HB := Lib.hid (show ∀ W, Calls Tryz.prog 57 #[.int .i64 b] W fun e w' => e = .returned (.bool true) ∧ w' = W from fun W => by have := number_any b W; rwa [hb] at this)
  have na := num_yes.1 ha
  have nb := num_yes.1 hb
  have hw := quo_in (b := b) na
  have hw2 := rem_in (b := b) na
  by_cases h0 : b = 0
  · have HE := Lib.hid (show doN 6 a b = (0, true) by unfold doN; rw [if_pos ⟨by decide, h0⟩])
    have d0 : (b == 0) = true := by simpa using h0
    clear ha hb na nb h0
    go_enter Tryz.func119, Tryz.ntmps119
    go_wp2_with (first | (go_at_call 57; first | ((with_reducible refine (HA.out _).mono ?_); rintro e wn ⟨rfl, rfl⟩) | ((with_reducible refine (HB.out _).mono ?_); rintro e wn ⟨rfl, rfl⟩)) | (go_at_call 44; (with_reducible refine (refWrapN_any _ _).mono ?_); rintro e wn ⟨rfl, rfl⟩) | fail)
    exact bodyPost_ret (v := .tuple #[.int .i64 (0), .bool true, .int .i64 0]) (by simp [results, Tryz.results119, go_sem]) rfl ⟨by rw [HE.out], rfl⟩
  have HE := Lib.hid (show doN 6 a b = (wrapN (a.tdiv b), false) by unfold doN; rw [if_neg (fun h => h0 h.2)]; rfl)
  have d0 : (b == 0) = false := by simpa using h0
  clear ha hb na nb
  go_enter Tryz.func119, Tryz.ntmps119
  go_wp2_with (first | (go_at_call 57; first | ((with_reducible refine (HA.out _).mono ?_); rintro e wn ⟨rfl, rfl⟩) | ((with_reducible refine (HB.out _).mono ?_); rintro e wn ⟨rfl, rfl⟩)) | (go_at_call 44; (with_reducible refine (refWrapN_any _ _).mono ?_); rintro e wn ⟨rfl, rfl⟩) | fail)
  exact bodyPost_ret (v := .tuple #[.int .i64 (wrapN (a.tdiv b)), .bool false, .int .i64 0]) (by simp [results, Tryz.results119, go_sem]) rfl ⟨by rw [HE.out], rfl⟩
set_option maxRecDepth 100000 in
set_option maxHeartbeats 4000000 in
theorem rdo7_any (a b : Int) (ha : isNum a = true) (hb : isNum b = true) (w : World) : Calls Tryz.prog 119 #[.int .i64 7, .int .i64 a, .int .i64 b] w fun e w' => e = .returned (.tuple #[.int .i64 (doN 7 a b).1, .bool (doN 7 a b).2, .int .i64 0]) ∧ w' = w := by
  have HA := Lib.hid (show ∀ W, Calls Tryz.prog 57 #[.int .i64 a] W fun e w' => e = .returned (.bool true) ∧ w' = W from fun W => by have := number_any a W; rwa [ha] at this)
  have HB := Lib.hid (show ∀ W, Calls Tryz.prog 57 #[.int .i64 b] W fun e w' => e = .returned (.bool true) ∧ w' = W from fun W => by have := number_any b W; rwa [hb] at this)
  have na := num_yes.1 ha
  have nb := num_yes.1 hb
  have hw := quo_in (b := b) na
  have hw2 := rem_in (b := b) na
  by_cases h0 : b = 0
  · have HE := Lib.hid (show doN 7 a b = (0, true) by unfold doN; rw [if_pos ⟨by decide, h0⟩])
    have d0 : (b == 0) = true := by simpa using h0
    clear ha hb na nb h0
    go_enter Tryz.func119, Tryz.ntmps119
    go_wp2_with (first | (go_at_call 57; first | ((with_reducible refine (HA.out _).mono ?_); rintro e wn ⟨rfl, rfl⟩) | ((with_reducible refine (HB.out _).mono ?_); rintro e wn ⟨rfl, rfl⟩)) | (go_at_call 44; (with_reducible refine (refWrapN_any _ _).mono ?_); rintro e wn ⟨rfl, rfl⟩) | fail)
    exact bodyPost_ret (v := .tuple #[.int .i64 (0), .bool true, .int .i64 0]) (by simp [results, Tryz.results119, go_sem]) rfl ⟨by rw [HE.out], rfl⟩
  have HE := Lib.hid (show doN 7 a b = (wrapN (a.tmod b), false) by unfold doN; rw [if_neg (fun h => h0 h.2)]; rfl)
  have d0 : (b == 0) = false := by simpa using h0
  clear ha hb na nb
  go_enter Tryz.func119, Tryz.ntmps119
  go_wp2_with (first | (go_at_call 57; first | ((with_reducible refine (HA.out _).mono ?_); rintro e wn ⟨rfl, rfl⟩) | ((with_reducible refine (HB.out _).mono ?_); rintro e wn ⟨rfl, rfl⟩)) | (go_at_call 44; (with_reducible refine (refWrapN_any _ _).mono ?_); rintro e wn ⟨rfl, rfl⟩) | fail)
  exact bodyPost_ret (v := .tuple #[.int .i64 (wrapN (a.tmod b)), .bool false, .int .i64 0]) (by simp [results, Tryz.results119, go_sem]) rfl ⟨by rw [HE.out], rfl⟩
set_option maxRecDepth 100000 in
set_option maxHeartbeats 4000000 in
theorem rdo8_any (a b : Int) (ha : isNum a = true) (hb : isNum b = true) (w : World) : Calls Tryz.prog 119 #[.int .i64 8, .int .i64 a, .int .i64 b] w fun e w' => e = .returned (.tuple #[.int .i64 (doN 8 a b).1, .bool (doN 8 a b).2, .int .i64 0]) ∧ w' = w := by
  have HA := Lib.hid (show ∀ W, Calls Tryz.prog 57 #[.int .i64 a] W fun e w' => e = .returned (.bool true) ∧ w' = W from fun W => by have := number_any a W; rwa [ha] at this)
  have HB := Lib.hid (show ∀ W, Calls Tryz.prog 57 #[.int .i64 b] W fun e w' => e = .returned (.bool true) ∧ w' = W from fun W => by have := number_any b W; rwa [hb] at this)
  have na := num_yes.1 ha
  have nb := num_yes.1 hb
  by_cases h : a = b
  · have HE := Lib.hid (show doN 8 a b = (wrapN 1, false) by unfold doN; rw [if_neg (fun h => by omega)]; simp [h])
    have d1 : (a == b) = true := by simpa using h
    clear ha hb na nb h
    go_enter Tryz.func119, Tryz.ntmps119
    go_wp2_with (first | (go_at_call 57; first | ((with_reducible refine (HA.out _).mono ?_); rintro e wn ⟨rfl, rfl⟩) | ((with_reducible refine (HB.out _).mono ?_); rintro e wn ⟨rfl, rfl⟩)) | (go_at_call 44; (with_reducible refine (refWrapN_any _ _).mono ?_); rintro e wn ⟨rfl, rfl⟩) | fail)
    exact bodyPost_ret (v := .tuple #[.int .i64 (wrapN 1), .bool false, .int .i64 0]) (by simp [results, Tryz.results119, go_sem]) rfl ⟨by rw [HE.out], rfl⟩
  · have HE := Lib.hid (show doN 8 a b = (wrapN 0, false) by unfold doN; rw [if_neg (fun h => by omega)]; simp [h])
    have d1 : (a == b) = false := by simpa using h
    clear ha hb na nb h
    go_enter Tryz.func119, Tryz.ntmps119
    go_wp2_with (first | (go_at_call 57; first | ((with_reducible refine (HA.out _).mono ?_); rintro e wn ⟨rfl, rfl⟩) | ((with_reducible refine (HB.out _).mono ?_); rintro e wn ⟨rfl, rfl⟩)) | (go_at_call 44; (with_reducible refine (refWrapN_any _ _).mono ?_); rintro e wn ⟨rfl, rfl⟩) | fail)
    exact bodyPost_ret (v := .tuple #[.int .i64 (wrapN 0), .bool false, .int .i64 0]) (by simp [results, Tryz.results119, go_sem]) rfl ⟨by rw [HE.out], rfl⟩
set_option maxRecDepth 100000 in
set_option maxHeartbeats 4000000 in
theorem rdo9_any (a b : Int) (ha : isNum a = true) (hb : isNum b = true) (w : World) : Calls Tryz.prog 119 #[.int .i64 9, .int .i64 a, .int .i64 b] w fun e w' => e = .returned (.tuple #[.int .i64 (doN 9 a b).1, .bool (doN 9 a b).2, .int .i64 0]) ∧ w' = w := by
  have HA := Lib.hid (show ∀ W, Calls Tryz.prog 57 #[.int .i64 a] W fun e w' => e = .returned (.bool true) ∧ w' = W from fun W => by have := number_any a W; rwa [ha] at this)
  have HB := Lib.hid (show ∀ W, Calls Tryz.prog 57 #[.int .i64 b] W fun e w' => e = .returned (.bool true) ∧ w' = W from fun W => by have := number_any b W; rwa [hb] at this)
  have na := num_yes.1 ha
  have nb := num_yes.1 hb
  by_cases h : a < b
  · have HE := Lib.hid (show doN 9 a b = (wrapN 1, false) by unfold doN; rw [if_neg (fun h => by omega)]; simp [h])
    have d1 : decide (a < b) = true := by simpa using h
    clear ha hb na nb h
    go_enter Tryz.func119, Tryz.ntmps119
    go_wp2_with (first | (go_at_call 57; first | ((with_reducible refine (HA.out _).mono ?_); rintro e wn ⟨rfl, rfl⟩) | ((with_reducible refine (HB.out _).mono ?_); rintro e wn ⟨rfl, rfl⟩)) | (go_at_call 44; (with_reducible refine (refWrapN_any _ _).mono ?_); rintro e wn ⟨rfl, rfl⟩) | fail)
    exact bodyPost_ret (v := .tuple #[.int .i64 (wrapN 1), .bool false, .int .i64 0]) (by simp [results, Tryz.results119, go_sem]) rfl ⟨by rw [HE.out], rfl⟩
  · have HE := Lib.hid (show doN 9 a b = (wrapN 0, false) by unfold doN; rw [if_neg (fun h => by omega)]; simp [h])
    have d1 : decide (a < b) = false := by simpa using h
    clear ha hb na nb h
    go_enter Tryz.func119, Tryz.ntmps119
    go_wp2_with (first | (go_at_call 57; first | ((with_reducible refine (HA.out _).mono ?_); rintro e wn ⟨rfl, rfl⟩) | ((with_reducible refine (HB.out _).mono ?_); rintro e wn ⟨rfl, rfl⟩)) | (go_at_call 44; (with_reducible refine (refWrapN_any _ _).mono ?_); rintro e wn ⟨rfl, rfl⟩) | fail)
    exact bodyPost_ret (v := .tuple #[.int .i64 (wrapN 0), .bool false, .int .i64 0]) (by simp [results, Tryz.results119, go_sem]) rfl ⟨by rw [HE.out], rfl⟩
theorem rdo_any {k : Int} (h3 : 3 ≤ k) (h9 : k ≤ 9) (a b : Int) (ha : isNum a = true) (hb : isNum b = true) (w : World) : Calls Tryz.prog 119 #[.int .i64 k, .int .i64 a, .int .i64 b] w fun e w' => e = .returned (.tuple #[.int .i64 (doN k a b).1, .bool (doN k a b).2, .int .i64 0]) ∧ w' = w := by
  obtain rfl | rfl | rfl | rfl | rfl | rfl | rfl : k = 3 ∨ k = 4 ∨ k = 5 ∨ k = 6 ∨ k = 7 ∨ k = 8 ∨ k = 9 := by omega
  · exact rdo3_any a b ha hb w
  · exact rdo4_any a b ha hb w
  · exact rdo5_any a b ha hb w
  · exact rdo6_any a b ha hb w
  · exact rdo7_any a b ha hb w
  · exact rdo8_any a b ha hb w
  · exact rdo9_any a b ha hb w
end Go.Proofs.YtpfgklkdldkajaaGreatDoor

/- What heights that were reckoned have: each pc that is reached has what it takes and leaves to each one next to it what that has. Plain law; no program in sight. -/
import Derived.Test.YtpfgklkdldkajaaDoorAll
namespace Go.Proofs.YtpfgklkdldkajaaDoor

theorem hstep_spec {h : Int} (hn : h ≠ -1) : ∀ (ts : List Nat) (out : List Int) (row : List Nat) (s : List Int × List Nat), hstep h ts out row = some s →
    s.1.length = out.length ∧ (∀ (t : Nat) (x : Int), out[t]? = some x → x ≠ -1 → s.1[t]? = some x) ∧ (∀ t ∈ ts, s.1[t]? = some h) ∧ (∀ (t : Nat) (x : Int), s.1[t]? = some x → x ≠ -1 → out[t]? = some x ∨ (t ∈ s.2 ∧ t ∈ ts)) ∧ (∀ q ∈ row, q ∈ s.2) ∧ (∀ q ∈ s.2, q ∈ row ∨ ∃ x : Int, s.1[q]? = some x ∧ x ≠ -1) ∧ unsetH s.1 + s.2.length = unsetH out + row.length
  | [], out, row, s, e => by
    cases e
    exact ⟨rfl, fun _ _ h _ => h, fun _ h => by simp at h, fun _ _ h _ => .inl h, fun _ h => h, fun _ h => .inl h, rfl⟩
  | t :: ts, out, row, s, e => by
    rw [hstep] at e
    by_cases h1 : out[t]? = some (-1)
    · rw [if_pos h1] at e
      obtain ⟨ht, h1'⟩ := List.getElem?_eq_some_iff.1 h1
      obtain ⟨i1, i2, i3, i4, i5, i6, i7⟩ := hstep_spec hn ts _ _ s e
      have hset : (out.set t h)[t]? = some h := by simp [ht]
      have hoth : ∀ u, u ≠ t → (out.set t h)[u]? = out[u]? := fun u hu => by rw [List.getElem?_set, if_neg (Ne.symm hu)]
      have htin : t ∈ s.2 := i5 t (by simp)
      refine ⟨by rw [i1]; simp, fun u x hu hx => ?_, fun u hu => ?_, fun u x hu hx => ?_, fun q hq => i5 q (by simp [hq]), fun q hq => ?_, ?_⟩
      · have hne : u ≠ t := fun e => by subst e; rw [h1] at hu; cases hu; exact hx rfl
        exact i2 u x (by rw [hoth u hne]; exact hu) hx
      · rcases List.mem_cons.1 hu with rfl | hu
        · exact i2 _ h hset hn
        · exact i3 u hu
      · by_cases hne : u = t
        · subst hne; exact .inr ⟨htin, by simp⟩
        · rcases i4 u x hu hx with h | ⟨h, h'⟩
          · rw [hoth u hne] at h; exact .inl h
          · exact .inr ⟨h, by simp [h']⟩
      · rcases i6 q hq with h | h
        · rcases List.mem_append.1 h with h | h
          · exact .inl h
          · simp at h; subst h; exact .inr ⟨_, i2 _ _ hset hn, hn⟩
        · exact .inr h
      · have := unsetH_set ht h1' hn
        rw [i7]; simp; omega
    · rw [if_neg h1] at e
      by_cases h2 : out[t]? = some h
      · rw [if_pos h2] at e
        obtain ⟨i1, i2, i3, i4, i5, i6, i7⟩ := hstep_spec hn ts _ _ s e
        refine ⟨i1, i2, fun u hu => ?_, fun u x hu hx => ?_, i5, i6, i7⟩
        · rcases List.mem_cons.1 hu with rfl | hu
          · exact i2 _ h h2 hn
          · exact i3 u hu
        · rcases i4 u x hu hx with h | ⟨h, h'⟩
          · exact .inl h
          · exact .inr ⟨h, by simp [h']⟩
      · rw [if_neg h2] at e; cases e
/-- A pc of the height x, in heights. -/
def Good (p : List Fn) (code : List Ins) (o : List Int) (q : Nat) (x : Int) : Prop := ∃ hq : q < code.length, takesOf code[q].kind (argsOf p code[q]) ≤ x ∧ behindH p code[q] x ≤ 8 ∧ ∀ t ∈ nx code q, o[t]? = some (behindH p code[q] x)
structure GInv (p : List Fn) (code : List Ins) (out : List Int) (row : List Nat) : Prop where
  len : out.length = code.length
  zero : out[0]? = some 0
  inrow : ∀ q ∈ row, ∃ x : Int, out[q]? = some x ∧ x ≠ -1
  sound : ∀ (q : Nat) (x : Int), out[q]? = some x → x ≠ -1 → Reach code q ∧ 0 ≤ x
  good : ∀ (q : Nat) (x : Int), out[q]? = some x → x ≠ -1 → q ∈ row ∨ Good p code out q x
theorem behind_nonneg {p : List Fn} {x : Ins} {o : Int} (h : takesOf x.kind (argsOf p x) ≤ o) : 0 ≤ behindH p x o := by
  have := (puts_in x.kind).1
  unfold behindH; omega
theorem hwalk_good {p : List Fn} {code : List Ins} : ∀ (n : Nat) (out : List Int) (row : List Nat) (o : List Int), GInv p code out row → unsetH out + row.length ≤ n → hwalk p code n out row = .inr o → GInv p code o []
  | 0, out, row, o, hi, hm, e => by
    cases e
    obtain rfl : row = [] := List.eq_nil_of_length_eq_zero (by omega)
    exact hi
  | n + 1, out, [], o, hi, _, e => by cases e; exact hi
  | n + 1, out, pc :: row, o, hi, hm, e => by
    obtain ⟨x, hx, hxn⟩ := hi.inrow pc (by simp)
    obtain ⟨hpo, hpx⟩ := List.getElem?_eq_some_iff.1 hx
    have hpc : pc < code.length := by rw [← hi.len]; exact hpo
    by_cases hbad : out[pc] < takesOf code[pc].kind (argsOf p code[pc]) ∨ 8 < behindH p code[pc] out[pc]
    · rw [hwalk_bad hpc hpo hbad] at e; cases e
    · have h1 : ¬ out[pc] < takesOf code[pc].kind (argsOf p code[pc]) := fun h => hbad (.inl h)
      have h2 : ¬ 8 < behindH p code[pc] out[pc] := fun h => hbad (.inr h)
      rw [hwalk_step hpc hpo h1 h2] at e
      rw [hpx] at e h1 h2
      have hb0 := behind_nonneg (p := p) (x := code[pc]) (o := x) (by omega)
      cases hs : hstep (behindH p code[pc] x) (nx code pc) out row with
      | none => rw [hs] at e; cases e
      | some s =>
        rw [hs] at e
        obtain ⟨i1, i2, i3, i4, i5, i6, i7⟩ := hstep_spec (by omega) _ _ _ _ hs
        have hpr := (hi.sound pc x hx hxn).1
        refine hwalk_good n s.1 s.2 o ⟨by rw [i1]; exact hi.len, i2 0 0 hi.zero (by decide), fun q hq => ?_, fun q y hq hy => ?_, fun q y hq hy => ?_⟩ (by rw [i7]; simp at hm; omega) e
        · rcases i6 q hq with h | h
          · obtain ⟨y, hy, hyn⟩ := hi.inrow q (by simp [h])
            exact ⟨y, i2 q y hy hyn, hyn⟩
          · exact h
        · rcases i4 q y hq hy with h | ⟨h, h'⟩
          · exact hi.sound q y h hy
          · have := i3 q h'
            rw [this] at hq
            cases hq
            exact ⟨.step hpr h', hb0⟩
        · have mono : ∀ q y, Good p code out q y → Good p code s.1 q y := fun q y ⟨g1, g2, g3, g4⟩ => ⟨g1, g2, g3, fun t ht => i2 t _ (g4 t ht) (by have := behind_nonneg (p := p) g2; omega)⟩
          rcases i4 q y hq hy with h | ⟨h, h'⟩
          · rcases hi.good q y h hy with h3 | h3
            · rcases List.mem_cons.1 h3 with rfl | h3
              · rw [hx] at h
                cases h
                exact .inr ⟨hpc, by omega, by omega, i3⟩
              · exact .inl (i5 q h3)
            · exact .inr (mono q y h3)
          · exact .inl h
theorem GInv.start {p : List Fn} {code : List Ins} (hm : codeMay code = true) : GInv p code (hstart code) [0] := by
  have h0 := (codeMay_len hm).1
  have hz : (hstart code)[0]? = some 0 := by unfold hstart; rw [List.getElem?_set_self (by simp; omega)]
  have hall : ∀ q x, (hstart code)[q]? = some x → x ≠ -1 → q = 0 ∧ x = 0 := fun q x hq hx => by
    unfold hstart at hq
    rw [List.getElem?_set] at hq
    split at hq
    · rename_i e
      simp at hq
      exact ⟨e.symm, hq.2.symm⟩
    · rw [List.getElem?_replicate] at hq
      split at hq
      · cases hq; exact absurd rfl hx
      · cases hq
  refine ⟨by simp [hstart], hz, fun q hq => ?_, fun q x hq hx => ?_, fun q x hq hx => ?_⟩
  · simp at hq; subst hq; exact ⟨0, hz, by decide⟩
  · obtain ⟨rfl, rfl⟩ := hall q x hq hx; exact ⟨.zero, by decide⟩
  · obtain ⟨rfl, rfl⟩ := hall q x hq hx; exact .inl (by simp)
theorem heights_good {p : List Fn} {f : Fn} (hm : codeMay f.code = true) (h : (heightsF p f).2.2 = 0) : GInv p f.code (heightsF p f).1 [] := by
  obtain ⟨_, hw, _⟩ := heights_len h
  unfold hwalkOf at hw
  refine hwalk_good _ _ _ _ (GInv.start hm) ?_ hw
  have h0 := (codeMay_len hm).1
  have : unsetH (hstart f.code) + 1 = f.code.length := by
    unfold hstart
    unfold unsetH
    rw [List.countP_set (by simp; omega)]
    simp [List.countP_replicate]; omega
  simp; omega
/-- What comes next of nothing is a return. -/
theorem next_none {p : List Fn} {f : Fn} (hm : codeMay f.code = true) (hpl : plainOf p f = none) {pc : Nat} (hr : Reach f.code pc) (hpc : pc < f.code.length) (h : nx f.code pc = []) : f.code[pc].kind = 16 := by
  have h1 := nx_eq hm hpc
  rw [h] at h1
  simp only [List.map_nil] at h1
  have hrg := ranged_of hm hpl hr hpc
  have hend := (plainOf_none hpl).2
  unfold endBad at hend
  unfold rangedB at hrg
  unfold nextOf at h1
  rcases Decidable.em (f.code[pc].kind = 16) with h16 | h16
  · exact h16
  · exfalso
    rw [List.append_eq_nil_iff] at h1
    obtain ⟨e1, e2⟩ := h1
    have hnp : ¬ (f.code[pc].kind ≠ 16 ∧ f.code[pc].kind ≠ 12 ∧ pc + 1 < f.code.length) := fun hc => by rw [if_pos hc] at e1; cases e1
    by_cases h12 : f.code[pc].kind = 12
    · rw [if_neg (by omega), if_pos (by omega)] at hrg
      rw [if_pos ⟨.inl h12, by simpa using hrg, by rw [e1]; simp⟩] at e2
      cases e2
    · have hlast : pc = f.code.length - 1 := by omega
      subst hlast
      have hR := (reachL_iff hm).2 hr
      unfold Has at hR
      rw [hR, List.getElem?_eq_getElem hpc] at hend
      simp [h12, h16] at hend
end Go.Proofs.YtpfgklkdldkajaaDoor

/- Which pcs are come to: the two ways of finding them answer one list. Plain law; no program in sight. -/
import Derived.Test.YtpfgklkdldkajaaDoorFlow
namespace Go.Proofs.YtpfgklkdldkajaaDoor

/-- What comes next, as places. -/
def nx (code : List Ins) (pc : Nat) : List Nat := match code[pc]? with | some x => (nextOf code.length pc x).map Int.toNat | none => []
theorem may_mem {code : List Ins} (hm : codeMay code = true) {pc : Nat} (hpc : pc < code.length) : insMay code[pc] = true := by
  unfold codeMay at hm
  simp only [Bool.and_eq_true, List.all_eq_true] at hm
  exact hm.2 _ (List.getElem_mem hpc)
theorem nextOf_in {L pc : Nat} {x : Ins} (h : insMay x = true) {t : Int} (ht : t ∈ nextOf L pc x) : 0 ≤ t ∧ t < L := by
  obtain ⟨_, _, h3⟩ := may_of h
  unfold nextOf at ht
  simp only [List.mem_append] at ht
  rcases ht with ht | ht
  · split at ht
    · simp at ht; omega
    · simp at ht
  · by_cases hc : (x.kind = 12 ∨ x.kind = 13) ∧ x.a < L
    · have := h3 (by omega)
      split at ht <;> (split at ht <;> simp at ht <;> omega)
    · rw [if_neg (fun h => hc ⟨h.1, h.2.1⟩)] at ht; simp at ht
theorem nx_eq {code : List Ins} (hm : codeMay code = true) {pc : Nat} (hpc : pc < code.length) : nextOf code.length pc code[pc] = (nx code pc).map (fun n : Nat => (n : Int)) := by
  unfold nx
  rw [List.getElem?_eq_getElem hpc]
  simp only [List.map_map]
  conv => lhs; rw [← List.map_id (nextOf code.length pc code[pc])]
  apply List.map_congr_left
  intro t ht
  have := nextOf_in (may_mem hm hpc) ht
  simp; omega
theorem nx_lt {code : List Ins} (hm : codeMay code = true) {pc t : Nat} (ht : t ∈ nx code pc) : t < code.length := by
  unfold nx at ht
  split at ht
  · rename_i x hx
    obtain ⟨hpc, rfl⟩ := List.getElem?_eq_some_iff.1 hx
    obtain ⟨u, hu, rfl⟩ := List.mem_map.1 ht
    have := nextOf_in (may_mem hm hpc) hu
    omega
  · simp at ht
theorem nx_len (code : List Ins) (pc : Nat) : (nx code pc).length ≤ 2 := by
  unfold nx
  split
  · rw [List.length_map]
    unfold nextOf
    rw [List.length_append]
    split <;> split <;> simp
  · simp

inductive Reach (code : List Ins) : Nat → Prop
  | zero : Reach code 0
  | step {p t : Nat} : Reach code p → t ∈ nx code p → Reach code t
theorem Reach.lt {code : List Ins} (hm : codeMay code = true) {p : Nat} (h : Reach code p) : p < code.length := by
  cases h with
  | zero => unfold codeMay at hm; simp only [Bool.and_eq_true, decide_eq_true_eq] at hm; omega
  | step _ ht => exact nx_lt hm ht
open Classical in
/-- The pcs that are come to. -/
noncomputable def reachB (code : List Ins) : List Bool := (List.range code.length).map fun t => decide (Reach code t)
def Has (out : List Bool) (t : Nat) : Prop := out[t]? = some true
open Classical in
theorem reachB_of {code : List Ins} {out : List Bool} (hl : out.length = code.length) (h : ∀ t, t < code.length → (Has out t ↔ Reach code t)) : out = reachB code := by
  apply List.ext_getElem
  · simp [reachB, hl]
  · intro t h1 h2
    have ht : t < code.length := by omega
    have := h t ht
    unfold Has at this
    rw [List.getElem?_eq_getElem h1] at this
    simp only [reachB, List.getElem_map, List.getElem_range]
    by_cases hr : Reach code t
    · rw [decide_eq_true hr]; exact Option.some.inj (this.2 hr)
    · rw [decide_eq_false hr]
      cases ho : out[t] with
      | false => rfl
      | true => exact absurd (this.1 (by rw [ho])) hr
theorem Has.lt {out : List Bool} {t : Nat} (h : Has out t) : t < out.length := (List.getElem?_eq_some_iff.1 h).1
theorem has_set {out : List Bool} {t q : Nat} (h : Has out q) : Has (out.set t true) q := by
  have hq := h.lt
  unfold Has at *
  rw [List.getElem?_set]
  split
  · rename_i e; subst e; simp [hq]
  · exact h
theorem has_set_self {out : List Bool} {t : Nat} (h : t < out.length) : Has (out.set t true) t := by unfold Has; simp [h]
theorem has_set_inv {out : List Bool} {t q : Nat} (h : Has (out.set t true) q) : q = t ∨ Has out q := by
  unfold Has at *
  rw [List.getElem?_set] at h
  split at h
  · rename_i e; exact .inl e.symm
  · exact .inr h
def unset (out : List Bool) : Nat := out.countP (fun b => !b)
theorem unset_set {out : List Bool} {t : Nat} (ht : t < out.length) (h : out[t] = false) : unset (out.set t true) + 1 = unset out := by
  unfold unset
  rw [List.countP_set ht]
  have : 0 < out.countP fun b => !b := List.countP_pos_iff.2 ⟨out[t], List.getElem_mem ht, by simp [h]⟩
  simp [h]; omega

/-- The program's search: what is marked, what is to be looked at. -/
structure FInv (code : List Ins) (out : List Bool) (row : List Nat) : Prop where
  len : out.length = code.length
  zero : Has out 0
  sound : ∀ t, Has out t → Reach code t
  inrow : ∀ q ∈ row, Has out q
  closed : ∀ q, Has out q → q ∈ row ∨ ∀ t ∈ nx code q, Has out t
theorem FInv.done {code : List Ins} {out : List Bool} (h : FInv code out []) : out = reachB code :=
  reachB_of h.len fun t _ => ⟨h.sound t, fun hr => by
    induction hr with
    | zero => exact h.zero
    | @step p t _ ht ih =>
      by_cases hp : p < code.length
      · rcases h.closed p (ih hp) with hc | hc
        · simp at hc
        · exact hc _ ht
      · unfold nx at ht; rw [List.getElem?_eq_none (by omega)] at ht; simp at ht⟩
theorem FInv.mark {code : List Ins} {out : List Bool} {row : List Nat} (h : FInv code out row) {pc t : Nat} (hp : Has out pc) (ht : t ∈ nx code pc) (hl : t < out.length) : FInv code (out.set t true) (row ++ [t]) where
  len := by simpa using h.len
  zero := has_set h.zero
  sound := fun q hq => by
    rcases has_set_inv hq with rfl | hq
    · exact .step (h.sound pc hp) ht
    · exact h.sound q hq
  inrow := fun q hq => by
    rcases List.mem_append.1 hq with hq | hq
    · exact has_set (h.inrow q hq)
    · simp at hq; subst hq; exact has_set_self hl
  closed := fun q hq => by
    rcases has_set_inv hq with rfl | hq
    · exact .inl (by simp)
    · rcases h.closed q hq with hc | hc
      · exact .inl (by simp [hc])
      · exact .inr fun t ht => has_set (hc t ht)
theorem FInv.pop {code : List Ins} {out : List Bool} {pc : Nat} {row : List Nat} (h : FInv code out (pc :: row)) (hd : ∀ t ∈ nx code pc, Has out t) : FInv code out row where
  len := h.len
  zero := h.zero
  sound := h.sound
  inrow := fun q hq => h.inrow q (by simp [hq])
  closed := fun q hq => by
    rcases h.closed q hq with hc | hc
    · rcases List.mem_cons.1 hc with rfl | hc
      · exact .inr hd
      · exact .inl hc
    · exact .inr hc
theorem FInv.start {code : List Ins} (hm : codeMay code = true) : FInv code ((List.replicate code.length false).set 0 true) [0] := by
  have h0 := Reach.lt hm .zero
  refine ⟨by simp, has_set_self (by simpa using h0), fun t ht => ?_, fun q hq => ?_, fun q hq => ?_⟩
  · rcases has_set_inv ht with rfl | ht
    · exact .zero
    · unfold Has at ht; simp [List.getElem?_replicate] at ht
  · simp at hq; subst hq; exact has_set_self (by simpa using h0)
  · rcases has_set_inv hq with rfl | hq
    · exact .inl (by simp)
    · unfold Has at hq; simp [List.getElem?_replicate] at hq
/-- The document's search: what is marked, what is to be looked at. -/
structure RInv (code : List Ins) (out : List Bool) (work : List Nat) : Prop where
  len : out.length = code.length
  zero : Has out 0 ∨ 0 ∈ work
  sound : ∀ t, Has out t → Reach code t
  inwork : ∀ q ∈ work, Reach code q
  closed : ∀ q, Has out q → ∀ t ∈ nx code q, Has out t ∨ t ∈ work
theorem RInv.done {code : List Ins} {out : List Bool} (h : RInv code out []) : out = reachB code :=
  reachB_of h.len fun t _ => ⟨h.sound t, fun hr => by
    induction hr with
    | zero => exact h.zero.resolve_right (by simp)
    | @step p t _ ht ih =>
      by_cases hp : p < code.length
      · exact (h.closed p (ih hp) _ ht).resolve_right (by simp)
      · unfold nx at ht; rw [List.getElem?_eq_none (by omega)] at ht; simp at ht⟩
theorem RInv.skip {code : List Ins} {out : List Bool} {pc : Nat} {work : List Nat} (h : RInv code out (pc :: work)) (hd : Has out pc) : RInv code out work where
  len := h.len
  zero := by
    rcases h.zero with h0 | h0
    · exact .inl h0
    · rcases List.mem_cons.1 h0 with e | h0
      · subst e; exact .inl hd
      · exact .inr h0
  sound := h.sound
  inwork := fun q hq => h.inwork q (by simp [hq])
  closed := fun q hq t ht => by
    rcases h.closed q hq t ht with hc | hc
    · exact .inl hc
    · rcases List.mem_cons.1 hc with rfl | hc
      · exact .inl hd
      · exact .inr hc
theorem RInv.mark {code : List Ins} {out : List Bool} {pc : Nat} {work : List Nat} (h : RInv code out (pc :: work)) (hl : pc < out.length) : RInv code (out.set pc true) (work ++ nx code pc) where
  len := by simpa using h.len
  zero := by
    rcases h.zero with h0 | h0
    · exact .inl (has_set h0)
    · rcases List.mem_cons.1 h0 with e | h0
      · subst e; exact .inl (has_set_self hl)
      · exact .inr (by simp [h0])
  sound := fun q hq => by
    rcases has_set_inv hq with rfl | hq
    · exact h.inwork q (by simp)
    · exact h.sound q hq
  inwork := fun q hq => by
    rcases List.mem_append.1 hq with hq | hq
    · exact h.inwork q (by simp [hq])
    · exact .step (h.inwork pc (by simp)) hq
  closed := fun q hq t ht => by
    rcases has_set_inv hq with rfl | hq
    · exact .inr (by simp [ht])
    · rcases h.closed q hq t ht with hc | hc
      · exact .inl (has_set hc)
      · rcases List.mem_cons.1 hc with rfl | hc
        · exact .inl (has_set_self hl)
        · exact .inr (by simp [hc])
theorem RInv.start (code : List Ins) : RInv code (List.replicate code.length false) [0] :=
  ⟨by simp, .inr (by simp), fun t ht => by unfold Has at ht; simp [List.getElem?_replicate] at ht, fun q hq => by simp at hq; subst hq; exact .zero, fun q hq => by unfold Has at hq; simp [List.getElem?_replicate] at hq⟩
end Go.Proofs.YtpfgklkdldkajaaDoor

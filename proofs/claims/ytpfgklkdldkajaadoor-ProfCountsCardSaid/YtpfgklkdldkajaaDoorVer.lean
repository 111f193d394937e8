/- Which programs may run: the heights, reckoned. Plain definitions and laws; no program in sight. -/
import Derived.Test.YtpfgklkdldkajaaDoorReachC
namespace Go.Proofs.YtpfgklkdldkajaaDoor

def rangedB (p : List Fn) (f : Fn) (x : Ins) : Bool := if x.kind = 1 ∨ x.kind = 2 then decide (x.a < f.locals) else if x.kind = 12 ∨ x.kind = 13 then decide (x.a < f.code.length) else if x.kind = 14 then decide (x.a < p.length) else true
def argsOf (p : List Fn) (x : Ins) : Int := if x.kind = 14 then (match p[x.a.toNat]? with | some f => f.args | none => 0) else 0
/-- A pc that is come to, and whose A is out of range. -/
def badAt (p : List Fn) (f : Fn) (i : Nat) : Bool := (reachL f.code)[i]? == some true && (match f.code[i]? with | some x => !rangedB p f x | none => false)
def endBad (f : Fn) : Bool := (reachL f.code)[f.code.length - 1]? == some true && (match f.code[f.code.length - 1]? with | some x => decide (x.kind ≠ 12) && decide (x.kind ≠ 16) | none => false)
/-- What is wrong without heights: the pc, the error. -/
def plainOf (p : List Fn) (f : Fn) : Option (Int × Int) := match (List.range f.code.length).find? (badAt p f) with
  | some i => some ((i : Int), 501)
  | none => if endBad f then some ((f.code.length : Int) - 1, 503) else none
def hstep (h : Int) : List Nat → List Int → List Nat → Option (List Int × List Nat)
  | [], out, row => some (out, row)
  | t :: ts, out, row => if out[t]? = some (-1) then hstep h ts (out.set t h) (row ++ [t]) else if out[t]? = some h then hstep h ts out row else none
/-- The height behind a pc. -/
def behindH (p : List Fn) (x : Ins) (o : Int) : Int := o - takesOf x.kind (argsOf p x) + putsOf x.kind
def hwalk (p : List Fn) (code : List Ins) : Nat → List Int → List Nat → Nat ⊕ List Int
  | 0, out, _ => .inr out
  | _ + 1, out, [] => .inr out
  | n + 1, out, pc :: row => match code[pc]?, out[pc]? with
    | some x, some o =>
      if o < takesOf x.kind (argsOf p x) ∨ 8 < behindH p x o then .inl pc else match hstep (behindH p x o) (nx code pc) out row with
        | none => .inl pc
        | some s => hwalk p code n s.1 s.2
    | _, _ => .inr out
def hstart (code : List Ins) : List Int := (List.replicate code.length (-1)).set 0 0
def hwalkOf (p : List Fn) (code : List Ins) : Nat ⊕ List Int := hwalk p code (code.length + 1) (hstart code) [0]
/-- What 'Heights' answers: the heights, the pc, the error. -/
def heightsF (p : List Fn) (f : Fn) : List Int × Int × Int := match plainOf p f with
  | some e => ([], e.1, e.2)
  | none => match hwalkOf p f.code with
    | .inl pc => ([], (pc : Int), 502)
    | .inr out => (out, 0, 0)
def heightsOf (p : List Fn) (fn : Int) : List Int × Int × Int := if packs p = true ∧ 0 ≤ fn then (match p[fn.toNat]? with | some f => heightsF p f | none => ([], 0, 500)) else ([], 0, 500)
/-- What 'Program' answers. -/
def verifyOf (p : List Fn) : Int := if packs p = true then (match p.find? (fun f => (heightsF p f).2.2 != 0) with | some f => (heightsF p f).2.2 | none => 0) else 500

theorem packs_fn {p : List Fn} (h : packs p = true) {k : Nat} (hk : k < p.length) : fnMay p[k] = true := by
  unfold packs at h
  simp only [Bool.and_eq_true, List.all_eq_true] at h
  exact h.2 _ (List.getElem_mem hk)
theorem packs_len {p : List Fn} (h : packs p = true) : 1 ≤ p.length ∧ p.length ≤ 8 := by
  unfold packs at h
  simp only [Bool.and_eq_true, decide_eq_true_eq] at h
  exact h.1
theorem fnMay_of {f : Fn} (h : fnMay f = true) : 0 ≤ f.args ∧ f.args ≤ 4 ∧ f.args ≤ f.locals ∧ f.locals ≤ 8 ∧ codeMay f.code = true := by
  rw [fnMay_code] at h
  simp only [Bool.and_eq_true, decide_eq_true_eq] at h
  exact ⟨h.1.1.1.1, h.1.1.1.2, h.1.1.2, h.1.2, h.2⟩
theorem codeMay_len {code : List Ins} (h : codeMay code = true) : 1 ≤ code.length ∧ code.length ≤ 64 := by
  unfold codeMay at h
  simp only [Bool.and_eq_true, decide_eq_true_eq] at h
  exact h.1
theorem argsOf_in {p : List Fn} (hp : packs p = true) (x : Ins) : 0 ≤ argsOf p x ∧ argsOf p x ≤ 4 := by
  unfold argsOf
  split
  · split
    · rename_i f hf
      obtain ⟨hk, rfl⟩ := List.getElem?_eq_some_iff.1 hf
      have := fnMay_of (packs_fn hp hk)
      omega
    · omega
  · omega
theorem takes_in (k n : Int) (h0 : 0 ≤ n) (h4 : n ≤ 4) : 0 ≤ takesOf k n ∧ takesOf k n ≤ 4 := by unfold takesOf; omega
theorem puts_in (k : Int) : 0 ≤ putsOf k ∧ putsOf k ≤ 2 := by unfold putsOf; omega
theorem effOf_may {x : Ins} {n : Int} (h : insMay x = true) (h0 : 0 ≤ n) (h4 : n ≤ 4) : effOf x n = (takesOf x.kind n, putsOf x.kind, 0) := by unfold effOf; rw [if_pos ⟨h, h0, h4⟩]
theorem plainOf_none {p : List Fn} {f : Fn} (h : plainOf p f = none) : (∀ i, i < f.code.length → badAt p f i = false) ∧ endBad f = false := by
  unfold plainOf at h
  split at h
  · cases h
  · rename_i hn
    refine ⟨fun i hi => ?_, ?_⟩
    · rw [List.find?_eq_none] at hn
      simpa using hn i (by simpa using hi)
    · split at h
      · cases h
      · rename_i hb; simpa using hb
/-- Of what is plain each pc that is come to is in range. -/
theorem ranged_of {p : List Fn} {f : Fn} (hm : codeMay f.code = true) (h : plainOf p f = none) {pc : Nat} (hr : Reach f.code pc) (hpc : pc < f.code.length) : rangedB p f f.code[pc] = true := by
  have h1 := (plainOf_none h).1 pc hpc
  have h2 : Has (reachL f.code) pc := (reachL_iff hm).2 hr
  unfold Has at h2
  unfold badAt at h1
  rw [h2, List.getElem?_eq_getElem hpc] at h1
  simpa using h1

/-- The heights' search: what is set, what is to be looked at. -/
structure HInv (code : List Ins) (out : List Int) (row : List Nat) : Prop where
  len : out.length = code.length
  sound : ∀ t (h : t < out.length), out[t] ≠ -1 → Reach code t ∧ 0 ≤ out[t] ∧ out[t] ≤ 8
  inrow : ∀ q ∈ row, ∃ h : q < out.length, out[q] ≠ -1
def unsetH (out : List Int) : Nat := out.countP (fun b => b == -1)
theorem unsetH_set {out : List Int} {t : Nat} {h : Int} (ht : t < out.length) (ho : out[t] = -1) (hh : h ≠ -1) : unsetH (out.set t h) + 1 = unsetH out := by
  unfold unsetH
  rw [List.countP_set ht]
  have : 0 < out.countP fun b => b == -1 := List.countP_pos_iff.2 ⟨out[t], List.getElem_mem ht, by simp [ho]⟩
  simp [ho, hh]; omega
theorem HInv.mark {code : List Ins} {out : List Int} {row : List Nat} (h : HInv code out row) {pc t : Nat} {v : Int} (hp : Reach code pc) (ht : t ∈ nx code pc) (hl : t < out.length) (h0 : 0 ≤ v) (h8 : v ≤ 8) : HInv code (out.set t v) (row ++ [t]) where
  len := by simpa using h.len
  sound := fun q hq hn => by
    rw [List.getElem_set] at hn ⊢
    split
    · rename_i e; subst e; exact ⟨.step hp ht, h0, h8⟩
    · rename_i e; rw [if_neg e] at hn; exact h.sound q (by simpa using hq) hn
  inrow := fun q hq => by
    rcases List.mem_append.1 hq with hq | hq
    · obtain ⟨a, b⟩ := h.inrow q hq
      refine ⟨by simpa using a, ?_⟩
      rw [List.getElem_set]; split
      · omega
      · exact b
    · simp at hq; subst hq
      exact ⟨by simpa using hl, by simp; omega⟩
theorem HInv.tail {code : List Ins} {out : List Int} {pc : Nat} {row : List Nat} (h : HInv code out (pc :: row)) : HInv code out row := ⟨h.len, h.sound, fun q hq => h.inrow q (by simp [hq])⟩
theorem HInv.start {code : List Ins} (hm : codeMay code = true) : HInv code (hstart code) [0] := by
  have h0 := (codeMay_len hm).1
  refine ⟨by simp [hstart], fun t ht hn => ?_, fun q hq => ?_⟩
  · have hh : (hstart code)[t] = if 0 = t then 0 else -1 := by simp only [hstart, List.getElem_set, List.getElem_replicate]
    rw [hh] at hn ⊢
    by_cases e : 0 = t
    · rw [if_pos e]; subst e; exact ⟨.zero, by omega, by omega⟩
    · rw [if_neg e] at hn; exact absurd rfl hn
  · simp at hq; subst hq
    exact ⟨by simp [hstart]; omega, by simp [hstart]⟩
theorem hstep_cons_new {h : Int} {t : Nat} {ts : List Nat} {out : List Int} {row : List Nat} (ht : t < out.length) (ho : out[t] = -1) : hstep h (t :: ts) out row = hstep h ts (out.set t h) (row ++ [t]) := by
  rw [hstep, List.getElem?_eq_getElem ht, if_pos (by rw [ho])]
theorem hstep_cons_same {h : Int} {t : Nat} {ts : List Nat} {out : List Int} {row : List Nat} (ht : t < out.length) (hn : h ≠ -1) (ho : out[t] = h) : hstep h (t :: ts) out row = hstep h ts out row := by
  rw [hstep, List.getElem?_eq_getElem ht, if_neg (by rw [ho]; simpa using hn), if_pos (by rw [ho])]
theorem hstep_cons_bad {h : Int} {t : Nat} {ts : List Nat} {out : List Int} {row : List Nat} (ht : t < out.length) (hn : out[t] ≠ -1) (ho : out[t] ≠ h) : hstep h (t :: ts) out row = none := by
  rw [hstep, List.getElem?_eq_getElem ht, if_neg (by simpa using hn), if_neg (by simpa using ho)]
theorem hwalk_nil {p : List Fn} {code : List Ins} (n : Nat) (out : List Int) : hwalk p code n out [] = .inr out := by cases n <;> rfl
theorem hwalk_bad {p : List Fn} {code : List Ins} {n : Nat} {out : List Int} {pc : Nat} {row : List Nat} (hc : pc < code.length) (ho : pc < out.length) (h : out[pc] < takesOf code[pc].kind (argsOf p code[pc]) ∨ 8 < behindH p code[pc] out[pc]) : hwalk p code (n + 1) out (pc :: row) = .inl pc := by
  rw [hwalk, List.getElem?_eq_getElem hc, List.getElem?_eq_getElem ho]; simp only; rw [if_pos h]
theorem hwalk_step {p : List Fn} {code : List Ins} {n : Nat} {out : List Int} {pc : Nat} {row : List Nat} (hc : pc < code.length) (ho : pc < out.length) (h1 : ¬ out[pc] < takesOf code[pc].kind (argsOf p code[pc])) (h2 : ¬ 8 < behindH p code[pc] out[pc]) :
    hwalk p code (n + 1) out (pc :: row) = match hstep (behindH p code[pc] out[pc]) (nx code pc) out row with | none => .inl pc | some s => hwalk p code n s.1 s.2 := by
  rw [hwalk, List.getElem?_eq_getElem hc, List.getElem?_eq_getElem ho]; simp only; rw [if_neg (by omega)]
theorem heightsF_range {p : List Fn} {f : Fn} {e : Int × Int} (h : plainOf p f = some e) : heightsF p f = ([], e.1, e.2) := by unfold heightsF; rw [h]
end Go.Proofs.YtpfgklkdldkajaaDoor

/- A row of operations upon a number, plainly: its program may run, and what it comes to. No program in sight. -/
import Derived.Test.YtpfgklkdldkajaaDoorGE24
namespace Go.Proofs.YtpfgklkdldkajaaDoor

def bOf (r : Int) : Int := r % 16 - 4
def opOf (r : Int) : Int := 3 + (r / 16 % 18446744073709551616) % 7
def flatR : List Int → List Ins
  | [] => []
  | r :: rs => ⟨0, bOf r⟩ :: ⟨opOf r, 0⟩ :: flatR rs
/-- What has come of a number: it, is it trapped, what it cost. -/
def rowStep (s : Int × Bool × Int) (r : Int) : Int × Bool × Int := if s.2.1 = true then s else ((doN (opOf r) s.1 (bOf r)).1, (doN (opOf r) s.1 (bOf r)).2, s.2.2 + 2)
def rowsP (v : Int) (rs : List Int) : List Fn := [⟨0, 0, ⟨0, v⟩ :: flatR rs ++ [⟨16, 0⟩]⟩]
theorem op_in (r : Int) : 3 ≤ opOf r ∧ opOf r ≤ 9 := by unfold opOf; omega
theorem b_num (r : Int) : isNum (bOf r) = true := by rw [num_yes]; unfold bOf; omega
theorem flatR_len : ∀ rs, (flatR rs).length = 2 * rs.length
  | [] => rfl
  | r :: rs => by rw [flatR, List.length_cons, List.length_cons, flatR_len rs, List.length_cons]; omega
theorem flatR_app : ∀ (xs ys : List Int), flatR (xs ++ ys) = flatR xs ++ flatR ys
  | [], _ => rfl
  | x :: xs, ys => by rw [List.cons_append, flatR, flatR_app xs ys]; rfl
/-- The same kinds of instructions. -/
def kindOf (x : Ins) : Ins := if x.kind = 0 then ⟨0, 0⟩ else if 3 ≤ x.kind ∧ x.kind ≤ 9 then ⟨3, 0⟩ else x
def PlainK (x : Ins) : Prop := x.kind = 0 ∨ (3 ≤ x.kind ∧ x.kind ≤ 9) ∨ x.kind = 16
theorem plain_takes (p q : List Fn) {x : Ins} (h : PlainK x) : takesOf (kindOf x).kind (argsOf q (kindOf x)) = takesOf x.kind (argsOf p x) ∧ putsOf (kindOf x).kind = putsOf x.kind := by
  unfold kindOf
  rcases h with h | h | h
  · rw [if_pos h, h]; simp [takesOf]
  · rw [if_neg (by omega), if_pos h]
    unfold takesOf putsOf
    constructor
    · rw [if_neg (show ¬(x.kind = 0 ∨ x.kind = 1 ∨ x.kind = 12) by omega), if_neg (show ¬(x.kind = 2 ∨ x.kind = 11 ∨ x.kind = 13 ∨ x.kind = 15 ∨ x.kind = 16 ∨ x.kind = 10) by omega), if_neg (show ¬ x.kind = 14 by omega)]; simp
    · rw [if_neg (show ¬(x.kind = 2 ∨ x.kind = 11 ∨ x.kind = 13 ∨ x.kind = 15 ∨ x.kind = 16 ∨ x.kind = 12) by omega), if_neg (show ¬ x.kind = 10 by omega)]; simp
  · rw [if_neg (by omega), if_neg (by omega), h]; simp [takesOf]
theorem plain_next {x : Ins} (h : PlainK x) (L pc : Nat) : nextOf L pc (kindOf x) = nextOf L pc x := by
  have e : ∀ y : Ins, y.kind ≠ 12 → y.kind ≠ 13 → nextOf L pc y = if y.kind ≠ 16 ∧ pc + 1 < L then [(pc : Int) + 1] else [] := by
    intro y h1 h2
    unfold nextOf
    simp only [h1, h2, or_self, false_and, if_false, List.append_nil, ne_eq, not_false_eq_true, true_and]
  rw [e x (by unfold PlainK at h; omega) (by unfold PlainK at h; omega)]
  unfold kindOf
  rcases h with h | h | h
  · rw [if_pos h, e _ (by simp) (by simp), h]
  · rw [if_neg (by omega), if_pos h, e _ (by simp) (by simp)]
    simp only [show x.kind ≠ 16 by omega, ne_eq, not_false_eq_true, true_and]; simp
  · rw [if_neg (by omega), if_neg (by omega), e _ (by omega) (by omega)]
theorem plain_nx {code : List Ins} (h : ∀ x ∈ code, PlainK x) (pc : Nat) : nx (code.map kindOf) pc = nx code pc := by
  unfold nx
  rw [List.getElem?_map, List.length_map]
  cases hx : code[pc]? with
  | none => rfl
  | some x => simp only [Option.map_some]; rw [plain_next (h x (List.mem_of_getElem? hx))]
theorem plain_walk {p q : List Fn} {code : List Ins} (h : ∀ x ∈ code, PlainK x) : ∀ (n : Nat) (out : List Int) (row : List Nat), hwalk q (code.map kindOf) n out row = hwalk p code n out row := by
  intro n
  induction n with
  | zero => intro out row; rfl
  | succ n ih =>
    intro out row
    cases row with
    | nil => rfl
    | cons pc row =>
      unfold hwalk
      rw [List.getElem?_map]
      cases hx : code[pc]? with
      | none => rfl
      | some x =>
        simp only [Option.map_some]
        obtain ⟨e1, e2⟩ := plain_takes p q (h x (List.mem_of_getElem? hx))
        cases ho : out[pc]? with
        | none => rfl
        | some o =>
          have e3 : behindH q (kindOf x) o = behindH p x o := by unfold behindH; rw [e1, e2]
          simp only [e1, e3, plain_nx h]
          by_cases hc : o < takesOf x.kind (argsOf p x) ∨ 8 < behindH p x o
          · rw [if_pos hc, if_pos hc]
          · rw [if_neg hc, if_neg hc]
            cases hstep (behindH p x o) (nx code pc) out row with
            | none => rfl
            | some s => exact ih _ _
theorem flat_kinds : ∀ rs : List Int, (flatR rs).map kindOf = flatR (List.replicate rs.length 4)
  | [] => rfl
  | r :: rs => by
    have := op_in r
    rw [flatR, List.map_cons, List.map_cons, flat_kinds rs, List.length_cons, List.replicate_succ, flatR]
    unfold kindOf
    rw [if_pos rfl]
    simp only
    rw [if_neg (by omega), if_pos this]
    rfl
theorem flat_plain : ∀ rs : List Int, ∀ x ∈ flatR rs, PlainK x
  | [], x, h => by cases h
  | r :: rs, x, h => by
    rw [flatR] at h
    rcases List.mem_cons.1 h with rfl | h
    · exact .inl rfl
    rcases List.mem_cons.1 h with rfl | h
    · exact .inr (.inl (op_in r))
    · exact flat_plain rs x h
theorem flat_may : ∀ rs : List Int, ∀ x ∈ flatR rs, insMay x = true
  | [], x, h => by cases h
  | r :: rs, x, h => by
    have ho := op_in r
    rw [flatR] at h
    rcases List.mem_cons.1 h with rfl | h
    · unfold insMay; rw [if_neg (by simp)]; simp [b_num]
    rcases List.mem_cons.1 h with rfl | h
    · unfold insMay
      simp only
      rw [if_neg (by omega), if_neg (by omega)]
      have : 0 < belowOf (opOf r) := by unfold belowOf; repeat' (split); all_goals omega
      simpa using this
    · exact flat_may rs x h
def baseC (n : Nat) : List Ins := ⟨0, 0⟩ :: flatR (List.replicate n 4) ++ [⟨16, 0⟩]
theorem base_all : ((List.range 26).all fun n => match hwalkOf [] (baseC n) with | .inr _ => true | .inl _ => false) = true := by kernel_rfl
def rowsC (v : Int) (rs : List Int) : List Ins := ⟨0, v⟩ :: flatR rs ++ [⟨16, 0⟩]
theorem rowsC_len (v : Int) (rs : List Int) : (rowsC v rs).length = 2 * rs.length + 2 := by unfold rowsC; rw [List.length_append, List.length_cons, flatR_len]; rfl
theorem rowsC_plain (v : Int) (rs : List Int) : ∀ x ∈ rowsC v rs, PlainK x := by
  intro x h
  unfold rowsC at h
  rcases List.mem_append.1 h with h | h
  · rcases List.mem_cons.1 h with rfl | h
    · exact .inl rfl
    · exact flat_plain rs x h
  · rw [List.mem_singleton] at h; subst h; exact .inr (.inr rfl)
theorem rowsC_kinds (v : Int) (rs : List Int) : (rowsC v rs).map kindOf = baseC rs.length := by
  unfold rowsC baseC
  rw [List.map_append, List.map_cons, flat_kinds]; rfl
theorem rowsC_may {v : Int} (hv : isNum v = true) {rs : List Int} (h : rs.length ≤ 25) : codeMay (rowsC v rs) = true := by
  unfold codeMay
  rw [rowsC_len]
  simp only [Bool.and_eq_true, decide_eq_true_eq, List.all_eq_true]
  refine ⟨⟨by omega, by omega⟩, fun x hx => ?_⟩
  unfold rowsC at hx
  rcases List.mem_append.1 hx with hx | hx
  · rcases List.mem_cons.1 hx with rfl | hx
    · unfold insMay; rw [if_neg (by simp)]; simp [hv]
    · exact flat_may rs x hx
  · rw [List.mem_singleton] at hx; subst hx; rfl
theorem rows_packs {v : Int} (hv : isNum v = true) {rs : List Int} (h : rs.length ≤ 25) : packs (rowsP v rs) = true := by
  have hm := rowsC_may hv h
  have hf : fnMay ⟨0, 0, rowsC v rs⟩ = true := by rw [fnMay_code, hm]; rfl
  show packs [⟨0, 0, rowsC v rs⟩] = true
  unfold packs
  simp only [List.all_cons, List.all_nil, hf]; rfl
theorem rows_ranged (p : List Fn) (f : Fn) {x : Ins} (h : PlainK x) : rangedB p f x = true := by
  unfold rangedB
  unfold PlainK at h
  rw [if_neg (by omega), if_neg (by omega), if_neg (by omega)]
theorem rows_heights {v : Int} {rs : List Int} (h : rs.length ≤ 25) (p : List Fn) : (heightsF p ⟨0, 0, rowsC v rs⟩).2.2 = 0 := by
  have hpl : plainOf p ⟨0, 0, rowsC v rs⟩ = none := by
    unfold plainOf
    have h1 : (List.range (rowsC v rs).length).find? (badAt p ⟨0, 0, rowsC v rs⟩) = none := by
      rw [List.find?_eq_none]
      intro i hi
      have hi : i < (rowsC v rs).length := List.mem_range.1 hi
      unfold badAt
      simp only
      rw [List.getElem?_eq_getElem hi]
      simp only [rows_ranged p _ (rowsC_plain v rs _ (List.getElem_mem hi))]
      simp
    have h2 : endBad ⟨0, 0, rowsC v rs⟩ = false := by
      unfold endBad
      simp only
      have : (rowsC v rs)[(rowsC v rs).length - 1]? = some ⟨16, 0⟩ := by
        rw [rowsC_len]
        unfold rowsC
        rw [List.getElem?_append_right (by rw [List.length_cons, flatR_len]; omega), List.length_cons, flatR_len]
        rw [show 2 * rs.length + 2 - 1 - (2 * rs.length + 1) = 0 by omega]; rfl
      rw [this]; simp
    simp only [h1, h2]; simp
  have hw : ∃ o, hwalkOf p (rowsC v rs) = .inr o := by
    have hb := List.all_eq_true.1 base_all rs.length (List.mem_range.2 (by omega))
    have e : hwalkOf [] (baseC rs.length) = hwalkOf p (rowsC v rs) := by
      unfold hwalkOf
      rw [← rowsC_kinds v rs, plain_walk (p := p) (q := []) (rowsC_plain v rs)]
      unfold hstart
      rw [List.length_map]
    rw [e] at hb
    cases ho : hwalkOf p (rowsC v rs) with
    | inr o => exact ⟨o, rfl⟩
    | inl o => rw [ho] at hb; cases hb
  obtain ⟨o, ho⟩ := hw
  unfold heightsF
  rw [hpl]
  simp only [ho]
theorem rows_verify {v : Int} (hv : isNum v = true) {rs : List Int} (h : rs.length ≤ 25) : verifyOf (rowsP v rs) = 0 := by
  unfold verifyOf
  rw [if_pos (rows_packs hv h)]
  have : (rowsP v rs).find? (fun f => (heightsF (rowsP v rs) f).2.2 != 0) = none := by
    rw [List.find?_eq_none]
    intro f hf
    have : f = ⟨0, 0, rowsC v rs⟩ := List.mem_singleton.1 hf
    subst this
    rw [rows_heights h]; simp
  rw [this]
theorem ins_mid (pre suf : List Ins) (x : Ins) (st : List Int) : insAt [⟨0, 0, pre ++ x :: suf⟩] ⟨0, (pre.length : Int), [], st⟩ = x := by
  unfold insAt codeAt
  simp
theorem once_const {p : List Fn} {f : Frm} {a fuel : Int} (h : insAt p f = ⟨0, a⟩) (hf : fuel ≠ 0) : onceS p ⟨[f], fuel, [], 0, 0⟩ = ⟨[⟨f.fn, f.pc + 1, f.locals, f.stack ++ [a]⟩], fuel - 1, [], 0, 0⟩ := by
  have ht : topF ⟨[f], fuel, [], 0, 0⟩ = f := rfl
  unfold onceS
  rw [ht, h, if_neg hf]
  rfl
theorem once_ret {p : List Fn} {f : Frm} {fuel : Int} (h : insAt p f = ⟨16, 0⟩) (hf : fuel ≠ 0) : onceS p ⟨[f], fuel, [], 0, 0⟩ = ⟨[], fuel - 1, [], 1, lastN f.stack⟩ := by
  have ht : topF ⟨[f], fuel, [], 0, 0⟩ = f := rfl
  unfold onceS
  rw [ht, h, if_neg hf]
  rfl
theorem once_op {p : List Fn} {f : Frm} {k v b fuel : Int} (h : insAt p f = ⟨k, 0⟩) (h3 : 3 ≤ k) (h9 : k ≤ 9) (hs : f.stack = [v, b]) (hf : fuel ≠ 0) :
    onceS p ⟨[f], fuel, [], 0, 0⟩ = if (doN k v b).2 = true then ⟨[], fuel - 1, [], 2, 0⟩ else ⟨[⟨f.fn, f.pc + 1, f.locals, [(doN k v b).1]⟩], fuel - 1, [], 0, 0⟩ := by
  have ht : topF ⟨[f], fuel, [], 0, 0⟩ = f := rfl
  have ho : ∀ n, oneI p f ⟨k, 0⟩ n = if (doN k v b).2 = true then (⟨f.fn, f.pc + 1, f.locals, []⟩, .over 2) else (⟨f.fn, f.pc + 1, f.locals, [(doN k v b).1]⟩, .next) := by
    intro n
    unfold oneI
    simp only
    rw [if_neg (by omega), if_neg (by omega), if_neg (by omega), if_neg (by omega), if_neg (by omega), if_neg (by omega), if_neg (by omega), if_neg (by omega), if_neg (by omega), if_neg (by omega), hs]
    rfl
  unfold onceS
  rw [ht, h, if_neg hf, ho]
  cases (doN k v b).2 <;> rfl
theorem fold_trapped : ∀ (rs : List Int) (x c : Int), rs.foldl rowStep (x, true, c) = (x, true, c)
  | [], _, _ => rfl
  | r :: rs, x, c => by rw [List.foldl_cons]; exact fold_trapped rs x c
/-- What the state at a row comes to. -/
theorem rows_end : ∀ (rs : List Int) (pre : List Ins) (v F c : Int), 2 * (rs.length : Int) + 1 ≤ F - c →
    endS [⟨0, 0, pre ++ (flatR rs ++ [⟨16, 0⟩])⟩] ⟨[⟨0, (pre.length : Int), [], [v]⟩], F - c, [], 0, 0⟩ =
      if (rs.foldl rowStep (v, false, c)).2.1 = true then ⟨[], F - (rs.foldl rowStep (v, false, c)).2.2, [], 2, 0⟩ else ⟨[], F - (rs.foldl rowStep (v, false, c)).2.2 - 1, [], 1, (rs.foldl rowStep (v, false, c)).1⟩
  | [], pre, v, F, c, h => by
    rw [List.length_nil] at h
    have hi := ins_mid pre [] ⟨16, 0⟩ [v]
    rw [flatR, List.nil_append, endS_step (by show 0 ≤ F - c; omega) rfl, once_ret hi (by omega), endS_done (by simp)]
    rfl
  | r :: rs, pre, v, F, c, h => by
    rw [List.length_cons] at h
    have ho := op_in r
    have hi := ins_mid pre (⟨opOf r, 0⟩ :: (flatR rs ++ [⟨16, 0⟩])) ⟨0, bOf r⟩ [v]
    have hj := ins_mid (pre ++ [⟨0, bOf r⟩]) (flatR rs ++ [⟨16, 0⟩]) ⟨opOf r, 0⟩ [v, bOf r]
    have e1 : pre ++ (flatR (r :: rs) ++ [⟨16, 0⟩]) = pre ++ ⟨0, bOf r⟩ :: ⟨opOf r, 0⟩ :: (flatR rs ++ [⟨16, 0⟩]) := rfl
    have e2 : pre ++ ⟨0, bOf r⟩ :: ⟨opOf r, 0⟩ :: (flatR rs ++ [⟨16, 0⟩]) = (pre ++ [⟨0, bOf r⟩]) ++ ⟨opOf r, 0⟩ :: (flatR rs ++ [⟨16, 0⟩]) := by simp
    have e3 : (pre ++ [⟨0, bOf r⟩]) ++ ⟨opOf r, 0⟩ :: (flatR rs ++ [⟨16, 0⟩]) = (pre ++ [⟨0, bOf r⟩, ⟨opOf r, 0⟩]) ++ (flatR rs ++ [⟨16, 0⟩]) := by simp
    have l1 : (((pre ++ [(⟨0, bOf r⟩ : Ins)]).length : Nat) : Int) = (pre.length : Int) + 1 := by simp
    have l2 : (((pre ++ [(⟨0, bOf r⟩ : Ins), ⟨opOf r, 0⟩]).length : Nat) : Int) = (pre.length : Int) + 1 + 1 := by simp; omega
    rw [l1] at hj
    rw [e1, endS_step (by show 0 ≤ F - c; omega) rfl, once_const hi (by omega)]
    show endS _ ⟨[⟨0, (pre.length : Int) + 1, [], [v, bOf r]⟩], F - c - 1, [], 0, 0⟩ = _
    rw [e2, endS_step (by show 0 ≤ F - c - 1; omega) rfl, once_op hj ho.1 ho.2 rfl (by omega), List.foldl_cons]
    have er : rowStep (v, false, c) r = ((doN (opOf r) v (bOf r)).1, (doN (opOf r) v (bOf r)).2, c + 2) := rfl
    rw [er]
    cases hd : (doN (opOf r) v (bOf r)).2 with
    | true =>
      rw [if_pos rfl, fold_trapped, endS_done (by simp)]
      simp only [if_true]
      rw [show F - c - 1 - 1 = F - (c + 2) by omega]
    | false =>
      rw [if_neg (by simp), e3]
      have := rows_end rs (pre ++ [⟨0, bOf r⟩, ⟨opOf r, 0⟩]) (doN (opOf r) v (bOf r)).1 F (c + 2) (by omega)
      rw [l2] at this
      show endS _ ⟨[⟨0, (pre.length : Int) + 1 + 1, [], [(doN (opOf r) v (bOf r)).1]⟩], F - c - 1 - 1, [], 0, 0⟩ = _
      rw [show F - c - 1 - 1 = F - (c + 2) by omega]
      exact this
def rowsEnd (s : Int × Bool × Int) : Rst := if s.2.1 = true then ⟨2, 0, [], 200 - s.2.2⟩ else ⟨1, s.1, [], 200 - s.2.2 - 1⟩
/-- The plain law. -/
theorem rows_law {v : Int} (hv : isNum v = true) {rs : List Int} (h : rs.length ≤ 25) : evalR (rowsP v rs) [] 200 = rowsEnd (rs.foldl rowStep (v, false, 1)) ∧ evalC (rowsP v rs) [] 200 = 0 := by
  have hb : startB (rowsP v rs) [] 200 = true := by unfold startB; rw [rows_verify hv h]; rfl
  obtain ⟨e1, e2, _⟩ := evalY hb
  refine ⟨?_, e2⟩
  have es : startS (rowsP v rs) [] 200 = ⟨[⟨0, 0, [], []⟩], 200, [], 0, 0⟩ := by unfold startS; rw [if_pos hb]; rfl
  have hi : insAt (rowsP v rs) ⟨0, 0, [], []⟩ = ⟨0, v⟩ := rfl
  have he := rows_end rs [⟨0, v⟩] v 200 1 (by omega)
  rw [e1, es, endS_step (by decide) rfl, once_const hi (by decide)]
  have he' : endS (rowsP v rs) ⟨[⟨0, 0 + 1, [], [] ++ [v]⟩], 200 - 1, [], 0, 0⟩ = _ := he
  rw [he']
  unfold rowsEnd
  split <;> rfl
end Go.Proofs.YtpfgklkdldkajaaDoor

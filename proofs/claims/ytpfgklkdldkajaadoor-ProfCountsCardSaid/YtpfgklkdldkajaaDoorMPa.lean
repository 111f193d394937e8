/- Profiles: plain definitions, how they lie in memory. No condition. Which counts, which of a function's profiles may be: the program's functions answer what the plain definitions say. Conditions: the lists, the profile lie in memory as they are said. 'prof.May' answers what the plain definition says. Conditions: the program, the profile lie in memory as they are said; errors.errorType is laid. 'SameArgProfs', 'SameProf' of the statements. Conditions: the lists, the profiles lie in memory as they are said. -/
import Derived.Test.YtpfgklkdldkajaaDoorOwnH
import Derived.Test.YtpfgklkdldkajaaDoorQuietB
import Derived.Test.YtpfgklkdldkajaaDoorAll
namespace Go.Proofs.YtpfgklkdldkajaaDoor
open Go.RowKit

structure ArgP where
  value : Int
  same : Int
  other : Int
structure FPr where
  calls : Int
  jumps : List Int
  falls : List Int
  args : List ArgP
instance : DecidableEq ArgP := fun x y => if h : x.value = y.value ∧ x.same = y.same ∧ x.other = y.other then isTrue (by cases x; cases y; obtain ⟨h1, h2, h3⟩ := h; simp only at h1 h2 h3; rw [h1, h2, h3]) else isFalse (fun e => h (by rw [e]; exact ⟨rfl, rfl, rfl⟩))
instance : DecidableEq FPr := fun x y => if h : x.calls = y.calls ∧ x.jumps = y.jumps ∧ x.falls = y.falls ∧ x.args = y.args then isTrue (by cases x; cases y; obtain ⟨h1, h2, h3, h4⟩ := h; simp only at h1 h2 h3 h4; rw [h1, h2, h3, h4]) else isFalse (fun e => h (by rw [e]; exact ⟨rfl, rfl, rfl, rfl⟩))
theorem argP_ext {x y : ArgP} (h1 : x.value = y.value) (h2 : x.same = y.same) (h3 : x.other = y.other) : x = y := by cases x; cases y; simp only at h1 h2 h3; rw [h1, h2, h3]
theorem fpr_ext {x y : FPr} (h1 : x.calls = y.calls) (h2 : x.jumps = y.jumps) (h3 : x.falls = y.falls) (h4 : x.args = y.args) : x = y := by cases x; cases y; simp only at h1 h2 h3 h4; rw [h1, h2, h3, h4]
def countB (n : Int) : Bool := decide (0 ≤ n) && decide (n ≤ 1073741824)
def countsB (xs : List Int) (m : Int) : Bool := decide ((xs.length : Int) = m) && xs.all countB
def argB (a : ArgP) : Bool := isNum a.value && countB a.same && countB a.other
def fprB (f : Fn) (r : FPr) : Bool := countB r.calls && countsB r.jumps f.code.length && countsB r.falls f.code.length && decide ((r.args.length : Int) = f.args) && r.args.all argB
def profB (p : List Fn) (r : List FPr) : Bool := decide (verifyOf p = 0) && decide (r.length = p.length) && (p.zip r).all fun x => fprB x.1 x.2
def newF (f : Fn) : FPr := ⟨0, List.replicate f.code.length 0, List.replicate f.code.length 0, List.replicate f.args.toNat ⟨0, 0, 0⟩⟩
def newR (p : List Fn) : List FPr := if verifyOf p = 0 then p.map newF else []
def newC (p : List Fn) : Int := if verifyOf p = 0 then 0 else 900
def moreN (n : Int) : Int := if n < 1073741824 then n + 1 else 1073741824
def callA (a : ArgP) (x : Int) : ArgP := if a.same = 0 ∧ a.other = 0 then ⟨x, 1, 0⟩ else if a.value = x then ⟨a.value, moreN a.same, a.other⟩ else ⟨a.value, a.same, moreN a.other⟩
def callF (r : FPr) (args : List Int) : FPr := ⟨moreN r.calls, r.jumps, r.falls, List.zipWith callA r.args args⟩
def argsIn (p : List Fn) (fn : Int) : Int := match p[fn.toNat]? with | some g => g.args | none => 0
def kindIn (p : List Fn) (fn pc : Int) : Int := match p[fn.toNat]? with | some g => (match g.code[pc.toNat]? with | some x => x.kind | none => -1) | none => -1
def lenIn (p : List Fn) (fn : Int) : Nat := match p[fn.toNat]? with | some g => g.code.length | none => 0
def calledB (p : List Fn) (r : List FPr) (fn : Int) (args : List Int) : Bool := profB p r && decide (0 ≤ fn) && decide (fn < p.length) && decide ((args.length : Int) = argsIn p fn) && args.all isNum
def calledR (p : List Fn) (r : List FPr) (fn : Int) (args : List Int) : List FPr := if calledB p r fn args = true then (match r[fn.toNat]? with | some g => r.set fn.toNat (callF g args) | none => []) else []
def calledC (p : List Fn) (r : List FPr) (fn : Int) (args : List Int) : Int := if calledB p r fn args = true then 0 else 900
def branchF (r : FPr) (pc : Nat) (jumps : Bool) : FPr := if jumps = true then ⟨r.calls, r.jumps.set pc (moreN (r.jumps.getD pc 0)), r.falls, r.args⟩ else ⟨r.calls, r.jumps, r.falls.set pc (moreN (r.falls.getD pc 0)), r.args⟩
def branchedB (p : List Fn) (r : List FPr) (fn pc : Int) : Bool := profB p r && decide (0 ≤ fn) && decide (fn < p.length) && decide (0 ≤ pc) && decide (pc < lenIn p fn) && decide (kindIn p fn pc = 13)
def branchedR (p : List Fn) (r : List FPr) (fn pc : Int) (jumps : Bool) : List FPr := if branchedB p r fn pc = true then (match r[fn.toNat]? with | some g => r.set fn.toNat (branchF g pc.toNat jumps) | none => []) else []
def branchedC (p : List Fn) (r : List FPr) (fn pc : Int) : Int := if branchedB p r fn pc = true then 0 else 900

/-- What is told of args, as it is read. -/
def ReadsA (w : World) (A : Option Addr) (xs : List ArgP) : Prop :=
  xs.length ≤ 9223372036854775807 ∧ (0 < xs.length → ∃ ad : Addr, A = some ad ∧ ∀ k (h : k < xs.length), w.cell? (ad.add (k * 3)) = some (.int .i64 xs[k].value) ∧ w.cell? ⟨(ad.add (k * 3)).block, (ad.add (k * 3)).off + 1, none⟩ = some (.int .i64 xs[k].same) ∧ w.cell? ⟨(ad.add (k * 3)).block, (ad.add (k * 3)).off + 2, none⟩ = some (.int .i64 xs[k].other))
theorem ReadsA.at_ {w w1 : World} {A : Option Addr} {xs : List ArgP} (h : ReadsA w A xs) (hb : Below w.heap.size w w1) {k : Nat} (hk : k < xs.length) :
    ∃ ad : Addr, A = some ad ∧ w1.cell? (ad.add (k * 3)) = some (.int .i64 xs[k].value) ∧ w1.cell? ⟨(ad.add (k * 3)).block, (ad.add (k * 3)).off + 1, none⟩ = some (.int .i64 xs[k].same) ∧ w1.cell? ⟨(ad.add (k * 3)).block, (ad.add (k * 3)).off + 2, none⟩ = some (.int .i64 xs[k].other) := by
  obtain ⟨ad, e, hc⟩ := h.2 (by omega)
  obtain ⟨c0, c1, c2⟩ := hc k hk
  exact ⟨ad, e, (hb.cell (World.block_lt_of_cell? w _ c0)).trans c0, (hb.cell (World.block_lt_of_cell? w _ c1)).trans c1, (hb.cell (World.block_lt_of_cell? w _ c2)).trans c2⟩
theorem ReadsA.below {w w1 : World} {A : Option Addr} {xs : List ArgP} (h : ReadsA w A xs) (hb : Below w.heap.size w w1) : ReadsA w1 A xs := ⟨h.1, fun h0 => by
  obtain ⟨ad, e, _⟩ := h.2 h0
  refine ⟨ad, e, fun k hk => ?_⟩
  obtain ⟨ad', e', c⟩ := h.at_ hb hk
  cases e.symm.trans e'
  exact c⟩
theorem readsA_nil (w : World) (A : Option Addr) : ReadsA w A [] := ⟨by simp, fun h => absurd h (by simp)⟩
def argC (x : ArgP) : List Value := [.int .i64 x.value, .int .i64 x.same, .int .i64 x.other]
def argsV (xs : List ArgP) : List Value := (xs.map argC).flatten
theorem argC_len (xs : List ArgP) : ∀ l ∈ xs.map argC, l.length = 3 := fun l hl => by
  obtain ⟨x, _, rfl⟩ := List.mem_map.1 hl; rfl
theorem argsV_len (xs : List ArgP) : (argsV xs).length = xs.length * 3 := by unfold argsV; rw [flat_len (argC_len xs), List.length_map]
theorem argsV_one (xs : List ArgP) : ∀ u ∈ argsV xs, u.oneCell' = true := fun u hu => by
  obtain ⟨l, hl, hu⟩ := List.mem_flatten.1 hu
  obtain ⟨x, _, rfl⟩ := List.mem_map.1 hl
  simp [argC] at hu
  rcases hu with rfl | rfl | rfl <;> rfl
theorem argsV_get (xs : List ArgP) {i : Nat} (hi : i < xs.length) : (argsV xs)[i * 3]'(by rw [argsV_len]; omega) = .int .i64 xs[i].value ∧ (argsV xs)[i * 3 + 1]'(by rw [argsV_len]; omega) = .int .i64 xs[i].same ∧ (argsV xs)[i * 3 + 2]'(by rw [argsV_len]; omega) = .int .i64 xs[i].other := by
  have h := argC_len xs
  have hi' : i < (xs.map argC).length := by simpa using hi
  have hl := argsV_len xs
  unfold argsV at hl
  have e0 := flat_get h (i := i) (j := 0) hi' (by simp [argC]) (by omega)
  have e1 := flat_get h (i := i) (j := 1) hi' (by simp [argC]) (by omega)
  have e2 := flat_get h (i := i) (j := 2) hi' (by simp [argC]) (by omega)
  simp only [List.getElem_map] at e0 e1 e2
  exact ⟨e0, e1, e2⟩
theorem args_cells {w : World} {a : Addr} {xs : List ArgP} (h : ReadsA w (some a) xs) : ∀ j u, (argsV xs)[j]? = some u → w.cell? (a.add j) = some u := fun j u hu => by
  obtain ⟨hj, rfl⟩ := List.getElem?_eq_some_iff.1 hu
  have hl := argsV_len xs
  have hi : j / 3 < xs.length := by omega
  obtain ⟨ad, e, c0, c1, c2⟩ := h.at_ (Below.refl _ _) hi
  cases e
  obtain ⟨e0, e1, e2⟩ := argsV_get xs hi
  have hm : j % 3 = 0 ∨ j % 3 = 1 ∨ j % 3 = 2 := by omega
  rcases hm with hm | hm | hm
  · have ej : j = j / 3 * 3 := by omega
    rw [show (argsV xs)[j] = (argsV xs)[j / 3 * 3]'(by omega) by congr 1, e0, ← c0, ← ej]
  · have ej : j = j / 3 * 3 + 1 := by omega
    rw [show (argsV xs)[j] = (argsV xs)[j / 3 * 3 + 1]'(by omega) by congr 1, e1, ← c1, add_succ, ← ej]
  · have ej : j = j / 3 * 3 + 2 := by omega
    rw [show (argsV xs)[j] = (argsV xs)[j / 3 * 3 + 2]'(by omega) by congr 1, e2, ← c2, add_succ2, ← ej]
theorem args_none {w : World} {xs : List ArgP} {A : Option Addr} (h : ReadsA w A xs) : A = none → xs = [] := fun e => by
  rcases Nat.eq_zero_or_pos xs.length with h0 | h0
  · exact List.eq_nil_of_length_eq_zero h0
  · obtain ⟨ad, e', _⟩ := h.2 h0
    rw [e] at e'; cases e'
theorem args_src {P : Program} {tx e' : TypeId} (hk : P.underlying tx = some (.slice e')) {w : World} {A : Option Addr} {c : Nat} {xs : List ArgP} (h : ReadsA w A xs) : Src P 3 tx (.slice A xs.length c) xs.length (argsV xs) w := by
  cases A with
  | none => rw [args_none h rfl]; exact Src.ofNil w hk c
  | some a => exact Src.ofSlice w hk a _ c _ (argsV_len xs) (args_cells h) (argsV_one xs)
theorem ORow.args {w : World} {base t n cap : Nat} {ao : Option Addr} {xs : List ArgP} (h : ORow w base t 3 (.slice ao n cap) n (argsV xs)) : ReadsA w ao xs := by
  have hl := h.len
  rw [argsV_len] at hl
  have hn : xs.length = n := by omega
  refine ⟨?_, fun h0 => ?_⟩
  · obtain ⟨_, _, e, h1, h2⟩ := h.shape
    injection e with e1 e2 e3
    unfold maxLen at h2; omega
  · obtain ⟨g, off, rfl, _, _, hc⟩ := h.elt (argC_len xs) (by decide) (i := 0) (by simpa using h0)
    refine ⟨_, rfl, fun k hk => ?_⟩
    have hk' : k < (xs.map argC).length := by simpa using hk
    have c0 := (hc k hk' 0 (by simp [argC])).1
    have c1 := (hc k hk' 1 (by simp [argC])).1
    have c2 := (hc k hk' 2 (by simp [argC])).1
    simp only [List.getElem_map, argC, List.getElem_cons_zero, List.getElem_cons_succ, Nat.add_zero] at c0 c1 c2
    rw [Addr.add_lit]
    exact ⟨c0, by simpa [Nat.add_assoc] using c1, by simpa [Nat.add_assoc] using c2⟩
theorem CRow.args {w : World} {base n cap : Nat} {ao : Option Addr} {xs : List ArgP} (h : CRow w base 52 3 (.slice ao n cap) n (argsV xs)) : ReadsA w ao xs := by
  rcases h with h | ⟨rfl, h, _⟩
  · exact h.args
  · have : xs = [] := by cases xs with
      | nil => rfl
      | cons x xs => simp [argsV, argC] at h
    subst this
    exact readsA_nil _ _
def innA (xs : List ArgP) : Inn := ⟨52, 3, xs.length, argsV xs⟩
/-- A function's profile: its cells, its rows. -/
def KPr : Kind FPr where
  t := 50
  sz := 4
  m := 3
  cells := fun f vs => [.int .i64 f.calls, vs.getD 0 undef, vs.getD 1 undef, vs.getD 2 undef]
  rows := fun f => [innI f.jumps, innI f.falls, innA f.args]
  len := fun _ _ => rfl
def OwnPr (w : World) (base : Nat) (v : Value) (r : List FPr) (vss : List (List Value)) : Prop := OwnG KPr w base v r vss
/-- A function's profile, as it is read. -/
def FPrAt (w : World) (a : Addr) (f : FPr) : Prop :=
  w.cell? a = some (.int .i64 f.calls) ∧ (∃ A c, w.cell? ⟨a.block, a.off + 1, none⟩ = some (.slice A f.jumps.length c) ∧ ReadsI w A f.jumps) ∧ (∃ A c, w.cell? ⟨a.block, a.off + 2, none⟩ = some (.slice A f.falls.length c) ∧ ReadsI w A f.falls) ∧ ∃ A c, w.cell? ⟨a.block, a.off + 3, none⟩ = some (.slice A f.args.length c) ∧ ReadsA w A f.args
theorem FPrAt.below {w w1 : World} {a : Addr} {f : FPr} (h : FPrAt w a f) (hb : Below w.heap.size w w1) : FPrAt w1 a f := by
  obtain ⟨c0, ⟨A, c, c1, r1⟩, ⟨B, d, c2, r2⟩, C, e, c3, r3⟩ := h
  exact ⟨(hb.cell (World.block_lt_of_cell? w _ c0)).trans c0, ⟨A, c, (hb.cell (World.block_lt_of_cell? w _ c1)).trans c1, r1.below hb⟩, ⟨B, d, (hb.cell (World.block_lt_of_cell? w _ c2)).trans c2, r2.below hb⟩, C, e, (hb.cell (World.block_lt_of_cell? w _ c3)).trans c3, r3.below hb⟩
/-- A profile, as it is read. -/
def ReadsP (w : World) (A : Option Addr) (r : List FPr) : Prop :=
  r.length ≤ 9223372036854775807 ∧ (0 < r.length → ∃ ad : Addr, A = some ad ∧ ∀ k (h : k < r.length), FPrAt w (ad.add (k * 4)) r[k])
theorem ReadsP.at_ {w w1 : World} {A : Option Addr} {r : List FPr} (h : ReadsP w A r) (hb : Below w.heap.size w w1) {k : Nat} (hk : k < r.length) : ∃ ad : Addr, A = some ad ∧ FPrAt w1 (ad.add (k * 4)) r[k] := by
  obtain ⟨ad, e, hc⟩ := h.2 (by omega)
  exact ⟨ad, e, (hc k hk).below hb⟩
theorem ReadsP.below {w w1 : World} {A : Option Addr} {r : List FPr} (h : ReadsP w A r) (hb : Below w.heap.size w w1) : ReadsP w1 A r := ⟨h.1, fun h0 => by
  obtain ⟨ad, e, hc⟩ := h.2 h0
  exact ⟨ad, e, fun k hk => (hc k hk).below hb⟩⟩
theorem readsP_nil (w : World) (A : Option Addr) : ReadsP w A [] := ⟨by simp, fun h => absurd h (by simp)⟩
theorem three_of {l : List Value} (h : l.length = 3) : ∃ a b c, l = [a, b, c] := by match l, h with | [a, b, c], _ => exact ⟨a, b, c, rfl⟩
/-- A function's profile, out of its row. -/
theorem OwnPr.at_ {w : World} {base n cap : Nat} {ao : Option Addr} {r : List FPr} {vss : List (List Value)} (h : OwnPr w base (.slice ao n cap) r vss) {k : Nat} (hk : k < r.length) :
    ∃ g off, ao = some ⟨g, off, none⟩ ∧ base ≤ g ∧ g < w.heap.size ∧ ob (.slice ao n cap) = some g ∧ ∃ hk' : k < vss.length, ∃ A1 c1 A2 c2 A3 c3, vss[k] = [.slice A1 r[k].jumps.length c1, .slice A2 r[k].falls.length c2, .slice A3 r[k].args.length c3] ∧
      InnAt w base (.slice A1 r[k].jumps.length c1) (innI r[k].jumps) ∧ InnAt w base (.slice A2 r[k].falls.length c2) (innI r[k].falls) ∧ InnAt w base (.slice A3 r[k].args.length c3) (innA r[k].args) ∧
      w.cell? ⟨g, off + k * 4, none⟩ = some (.int .i64 r[k].calls) ∧ w.cell? ⟨g, off + k * 4 + 1, none⟩ = some (.slice A1 r[k].jumps.length c1) ∧ w.cell? ⟨g, off + k * 4 + 2, none⟩ = some (.slice A2 r[k].falls.length c2) ∧ w.cell? ⟨g, off + k * 4 + 3, none⟩ = some (.slice A3 r[k].args.length c3) ∧
      ∀ j, j < 4 → w.frozen? ⟨g, off + k * 4 + j, none⟩ = false := by
  have hl := h.len
  have hk' : k < vss.length := by omega
  obtain ⟨g, off, rfl, h1, h2, h3, hc⟩ := OwnG.cell h (by decide) hk
  obtain ⟨e, hi⟩ := h.inn k hk hk'
  obtain ⟨a, b, d, eab⟩ := three_of (show vss[k].length = 3 from e)
  have i0 := hi 0 (by rw [eab]; simp) (by simp [KPr])
  have i1 := hi 1 (by rw [eab]; simp) (by simp [KPr])
  have i2 := hi 2 (by rw [eab]; simp) (by simp [KPr])
  have e0 : vss[k][0]'(by rw [eab]; simp) = a := by simp [eab]
  have e1 : vss[k][1]'(by rw [eab]; simp) = b := by simp [eab]
  have e2 : vss[k][2]'(by rw [eab]; simp) = d := by simp [eab]
  rw [e0] at i0
  rw [e1] at i1
  rw [e2] at i2
  have i0' : InnAt w base a (innI r[k].jumps) := i0
  have i1' : InnAt w base b (innI r[k].falls) := i1
  have i2' : InnAt w base d (innA r[k].args) := i2
  obtain ⟨A1, c1, ea, _, _⟩ := CRow.shape i0'
  obtain ⟨A2, c2, eb, _, _⟩ := CRow.shape i1'
  obtain ⟨A3, c3, ed, _, _⟩ := CRow.shape i2'
  subst ea eb ed
  have cc := fun j (hj : j < 4) => hc k hk hk' j hj
  have c0 := (cc 0 (by decide)).1
  have c1' := (cc 1 (by decide)).1
  have c2' := (cc 2 (by decide)).1
  have c3' := (cc 3 (by decide)).1
  simp only [KPr, eab, List.getElem_cons_zero, List.getElem_cons_succ, List.getD_cons_zero, List.getD_cons_succ, Nat.add_zero] at c0 c1' c2' c3'
  exact ⟨g, off, rfl, h1, h2, h3, hk', A1, c1, A2, c2, A3, c3, eab, i0', i1', i2', c0, c1', c2', c3', fun j hj => (cc j hj).2⟩
theorem OwnPr.reads {w : World} {base n cap : Nat} {ao : Option Addr} {r : List FPr} {vss : List (List Value)} (h : OwnPr w base (.slice ao n cap) r vss) : n = r.length ∧ ReadsP w ao r := by
  obtain ⟨_, _, e, hm1, hm2⟩ := h.row.shape
  injection e with e1 e2 e3
  refine ⟨e2, by unfold maxLen at hm2; omega, fun h0 => ?_⟩
  obtain ⟨g, off, rfl, _⟩ := h.at_ (k := 0) h0
  refine ⟨_, rfl, fun k hk => ?_⟩
  obtain ⟨g', off', e, _, _, _, _, A1, c1, A2, c2, A3, c3, _, i0, i1, i2, c0, c1', c2', c3', _⟩ := h.at_ hk
  cases e
  rw [Addr.add_lit]
  exact ⟨c0, ⟨A1, c1, c1', CRow.ints i0⟩, ⟨A2, c2, c2', CRow.ints i1⟩, A3, c3, c3', CRow.args i2⟩
/-- A call that answers a profile of its own, and an error. -/
def ProfE (r : List FPr) (code : Int) (w : World) (e : Ending) (w' : World) : Prop :=
  ∃ A c vss, e = .returned (.tuple #[.agg #[.slice A r.length c], .int .i64 code]) ∧ OwnPr w' w.heap.size (.slice A r.length c) r vss ∧ Below w.heap.size w w'
theorem OwnPr.nil (w : World) (base : Nat) : OwnPr w base (.slice none 0 0) [] [] := OwnG.nil _ _ _
theorem OwnPr.stays {w : World} {base : Nat} {v : Value} {r : List FPr} {vss : List (List Value)} (h : OwnPr w base v r vss) {T : Nat → Prop} {w' : World} (hk : Chg T w w') (hd : ∀ b, T b → b < w.heap.size → b < base) : OwnPr w' base v r vss :=
  OwnG.chg (S := fun b => T b ∧ b < w.heap.size) h ⟨hk.os, hk.tape, hk.output, hk.size, fun k hk0 hn => hk.block k hk0 (fun hs => hn ⟨hs, hk0⟩)⟩ (fun u hu b hb hT => by have := (OwnG.lo h u hu b hb).1; have := hd b hT.1 hT.2; omega)
end Go.Proofs.YtpfgklkdldkajaaDoor

namespace Go.Proofs.YtpfgklkdldkajaaDoor
open Go.RowKit

theorem count_any (n : Int) (w : World) : Calls Tryd.prog 81 #[.int .i64 n] w fun e w' => e = .returned (.bool (countB n)) ∧ w' = w := by
  go_enter Tryd.func81, Tryd.ntmps81
  go_wp2
  all_goals go_ret
  all_goals exact ⟨ret_bool (by unfold countB; first | (simp_all; done) | (simp_all; omega)), rfl⟩
theorem badN_any (n : Int) (w : World) : Calls Tryd.prog 107 #[.int .i64 n] w fun e w' => e = .returned (.bool (!countB n)) ∧ w' = w := by
  have H := Lib.hid (count_any n w)
  obtain ⟨b, hb⟩ : ∃ b, countB n = b := ⟨_, rfl⟩
  rw [hb] at H ⊢
  clear hb
  go_enter Tryd.func107, Tryd.ntmps107
  go_wp2_with fail
  (with_reducible refine H.out.mono ?_)
  rintro e w1 ⟨rfl, rfl⟩
  go_wp2
  go_ret
  exact ⟨rfl, rfl⟩
set_option maxHeartbeats 1000000 in
theorem indexT_any (A : Option Addr) (c : Nat) (xs : List Int) (w : World) (hr : ReadsI w A xs) :
    Calls Tryd.prog 117 #[.slice A xs.length c, .func (.func 107) #[] #[]] w (IxAll (xs.all countB) w) := by
  have HR := Lib.hid hr
  have hn : xs.length ≤ 9223372036854775807 := hr.1
  clear hr
  go_enter Tryd.func117, Tryd.ntmps117
  go_wp2
  go_loopw [5, 8] (fun _ i wr => ∃ k : Nat, k ≤ xs.length ∧ i = .int .i64 k ∧ (∀ j (hj : j < xs.length), j < k → countB xs[j] = true) ∧ Below w.heap.size w wr) (fun _ i _ => xs.length - (intOf i).toNat)
  case atStart => exact ⟨0, Nat.zero_le _, rfl, fun _ _ h => absurd h (Nat.not_lt_zero _), Below.refl _ _⟩
  case round =>
    obtain ⟨k, hk, rfl, hv, hB⟩ := hrel
    have HV := Lib.hid hv
    have HB := Lib.hid hB
    clear hv hB
    by_cases hlt : k < xs.length
    · obtain ⟨ad, rfl, c0⟩ := (HR.out.below HB.out).at_ hlt
      have HN := Lib.hid (badN_any xs[k] wr)
      cases hm : countB xs[k] with
      | true =>
        rw [hm] at HN
        go_wp2_with (go_at_call 107; refine HN.out.mono ?_; rintro e w2 ⟨rfl, rfl⟩)
        go_roundw
        case rel => exact ⟨k + 1, by omega, by go_num, upto_succ HV.out hlt hm, HB.out⟩
        case measure => simp only [intOf]; omega
      | false =>
        rw [hm] at HN
        go_wp2_with (go_at_call 107; refine HN.out.mono ?_; rintro e w2 ⟨rfl, rfl⟩)
        go_ret
        exact ⟨k, rfl, by rw [all_not hlt hm]; simp, HB.out⟩
    · go_wp2
      go_ret
      exact ⟨-1, rfl, by rw [all_upto (by omega) HV.out]; rfl, HB.out⟩
theorem containsT_any (A : Option Addr) (c : Nat) (xs : List Int) (w : World) (hr : ReadsI w A xs) :
    Calls Tryd.prog 106 #[.slice A xs.length c, .func (.func 107) #[] #[]] w (Ret (.bool (!xs.all countB)) w) := by
  have HI := Lib.hid (indexT_any A c xs w hr)
  clear hr
  go_enter Tryd.func106, Tryd.ntmps106
  go_wp2_with fail
  refine HI.out.mono ?_
  rintro e w1 ⟨r, rfl, hr, hB⟩
  go_wp2
  go_ret
  exact ⟨ret_bool (by simp), hB⟩
theorem counts_any (A : Option Addr) (c : Nat) (xs : List Int) (m : Int) (w : World) (hr : ReadsI w A xs) :
    Calls Tryd.prog 82 #[.slice A xs.length c, .int .i64 m] w (Ret (.bool (countsB xs m)) w) := by
  have H := Lib.hid (containsT_any A c xs w hr)
  have hn : xs.length ≤ 9223372036854775807 := hr.1
  obtain ⟨b, hb⟩ : ∃ b, xs.all countB = b := ⟨_, rfl⟩
  have HE := Lib.hid (show countsB xs m = (decide ((xs.length : Int) = m) && b) by unfold countsB; rw [hb])
  rw [hb] at H
  rw [HE.out]
  clear hr hb HE
  by_cases hm : (xs.length : Int) = m
  · have d : ((xs.length : Int) == m) = true := by simpa using hm
    rw [decide_eq_true hm]
    clear hm
    go_enter Tryd.func82, Tryd.ntmps82
    go_wp2_with fail
    (with_reducible refine H.out.mono ?_)
    rintro e w1 ⟨rfl, hB⟩
    go_wp2
    go_ret
    exact ⟨ret_bool (by simp), hB⟩
  · have d : ((xs.length : Int) == m) = false := by simpa using hm
    rw [decide_eq_false hm]
    clear hm
    go_enter Tryd.func82, Tryd.ntmps82
    go_wp2_with fail
    go_ret
    exact ⟨rfl, Below.refl _ _⟩
theorem beq_decI (a b : Int) : (a == b) = decide (a = b) := by by_cases h : a = b <;> simp [h]
set_option maxHeartbeats 1000000 in
theorem badA_any (x : ArgP) (w : World) : Calls Tryd.prog 80 #[.agg #[.int .i64 x.value, .int .i64 x.same, .int .i64 x.other]] w (Ret (.bool (!argB x)) w) := by
  have B := Lib.hid (below_alloc (Below.refl w.heap.size w) (.cells #[.int .i64 x.value, .int .i64 x.same, .int .i64 x.other] 52))
  obtain ⟨v, s, o⟩ := x
  simp only at B ⊢
  have H1 := Lib.hid (is_any v)
  have H2 := Lib.hid (count_any s)
  have H3 := Lib.hid (count_any o)
  have HE := Lib.hid (show argB ⟨v, s, o⟩ = (isNum v && countB s && countB o) from rfl)
  rw [HE.out]
  obtain ⟨b1, h1⟩ : ∃ b, isNum v = b := ⟨_, rfl⟩
  obtain ⟨b2, h2⟩ : ∃ b, countB s = b := ⟨_, rfl⟩
  obtain ⟨b3, h3⟩ : ∃ b, countB o = b := ⟨_, rfl⟩
  rw [h1] at H1 ⊢
  rw [h2] at H2 ⊢
  rw [h3] at H3 ⊢
  clear h1 h2 h3 HE
  go_enter Tryd.func80, Tryd.ntmps80
  cases b1 <;> cases b2 <;> cases b3
  all_goals
    go_wp2_with (first | (go_at_call 75; (with_reducible refine (H1.out _).mono ?_); rintro e w' ⟨rfl, rfl⟩) | (go_at_call 81; (first | (with_reducible refine (H2.out _).mono ?_) | (with_reducible refine (H3.out _).mono ?_)); rintro e w' ⟨rfl, rfl⟩))
    go_ret
    exact ⟨rfl, B.out⟩
set_option maxHeartbeats 1000000 in
theorem indexA_any (A : Option Addr) (c : Nat) (xs : List ArgP) (w : World) (hr : ReadsA w A xs) :
    Calls Tryd.prog 108 #[.slice A xs.length c, .func (.func 80) #[] #[]] w (IxAll (xs.all argB) w) := by
  have HR := Lib.hid hr
  have hn : xs.length ≤ 9223372036854775807 := hr.1
  clear hr
  go_enter Tryd.func108, Tryd.ntmps108
  go_wp2
  go_loopw [5, 8] (fun _ i wr => ∃ k : Nat, k ≤ xs.length ∧ i = .int .i64 k ∧ (∀ j (hj : j < xs.length), j < k → argB xs[j] = true) ∧ Below w.heap.size w wr) (fun _ i _ => xs.length - (intOf i).toNat)
  case atStart => exact ⟨0, Nat.zero_le _, rfl, fun _ _ h => absurd h (Nat.not_lt_zero _), Below.refl _ _⟩
  case round =>
    obtain ⟨k, hk, rfl, hv, hB⟩ := hrel
    have HV := Lib.hid hv
    have HB := Lib.hid hB
    clear hv hB
    by_cases hlt : k < xs.length
    · obtain ⟨ad, rfl, c0, c1, c2⟩ := HR.out.at_ HB.out hlt
      have HN := Lib.hid (badA_any xs[k] wr)
      cases hm : argB xs[k] with
      | true =>
        rw [hm] at HN
        go_wp2_with (go_at_call 80; refine HN.out.mono ?_; rintro e w2 ⟨rfl, hB2⟩)
        go_roundw
        case rel => exact ⟨k + 1, by omega, by go_num, upto_succ HV.out hlt hm, below_trans HB.out hB2⟩
        case measure => simp only [intOf]; omega
      | false =>
        rw [hm] at HN
        go_wp2_with (go_at_call 80; refine HN.out.mono ?_; rintro e w2 ⟨rfl, hB2⟩)
        go_ret
        exact ⟨k, rfl, by rw [all_not hlt hm]; simp, below_trans HB.out hB2⟩
    · go_wp2
      go_ret
      exact ⟨-1, rfl, by rw [all_upto (by omega) HV.out]; rfl, HB.out⟩
theorem containsA_any (A : Option Addr) (c : Nat) (xs : List ArgP) (w : World) (hr : ReadsA w A xs) :
    Calls Tryd.prog 83 #[.slice A xs.length c, .func (.func 80) #[] #[]] w (Ret (.bool (!xs.all argB)) w) := by
  have HI := Lib.hid (indexA_any A c xs w hr)
  clear hr
  go_enter Tryd.func83, Tryd.ntmps83
  go_wp2_with fail
  refine HI.out.mono ?_
  rintro e w1 ⟨r, rfl, hr, hB⟩
  go_wp2
  go_ret
  exact ⟨ret_bool (by simp), hB⟩
set_option maxRecDepth 100000 in
set_option maxHeartbeats 4000000 in
theorem pmay_any (F R : Addr) (f : Fn) (r : FPr) (Ac : Option Addr) (cc : Nat) (w : World) (hF : FnAt w F f Ac cc) (hR : FPrAt w R r) :
    Calls Tryd.prog 50 #[.pointer (some F), .pointer (some R)] w (Ret (.bool (fprB f r)) w) := by
  obtain ⟨calls, jumps, falls, args⟩ := r
  obtain ⟨r0, ⟨A1, n1, r1, i1⟩, ⟨A2, n2, r2, i2⟩, A3, n3, r3, i3⟩ := hR
  simp only at r0 r1 r2 r3 i1 i2 i3
  have HALL := Lib.hid (show ∀ W', Below w.heap.size w W' → W'.cell? F = some (.int .i64 f.args) ∧ W'.cell? ⟨F.block, F.off + 2, none⟩ = some (.slice Ac f.code.length cc) ∧ W'.cell? R = some (.int .i64 calls) ∧ W'.cell? ⟨R.block, R.off + 1, none⟩ = some (.slice A1 jumps.length n1) ∧ W'.cell? ⟨R.block, R.off + 2, none⟩ = some (.slice A2 falls.length n2) ∧ W'.cell? ⟨R.block, R.off + 3, none⟩ = some (.slice A3 args.length n3) ∧ Below w.heap.size w W' from fun W' hb =>
    ⟨(hb.cell (World.block_lt_of_cell? w _ hF.c0)).trans hF.c0, (hb.cell (World.block_lt_of_cell? w _ hF.c2)).trans hF.c2, (hb.cell (World.block_lt_of_cell? w _ r0)).trans r0, (hb.cell (World.block_lt_of_cell? w _ r1)).trans r1, (hb.cell (World.block_lt_of_cell? w _ r2)).trans r2, (hb.cell (World.block_lt_of_cell? w _ r3)).trans r3, hb⟩)
  have hna : args.length ≤ 9223372036854775807 := i3.1
  have H1 := Lib.hid (show ∀ W', Below w.heap.size w W' → Calls Tryd.prog 81 #[.int .i64 calls] W' (Ret (.bool (countB calls)) W') from fun W' _ => (count_any calls W').mono fun e w'' h => ⟨h.1, by rw [h.2]; exact Below.refl _ _⟩)
  have H2 := Lib.hid (show ∀ W', Below w.heap.size w W' → Calls Tryd.prog 82 #[.slice A1 jumps.length n1, .int .i64 f.code.length] W' (Ret (.bool (countsB jumps f.code.length)) W') from fun W' hb => counts_any A1 n1 jumps _ W' (i1.below hb))
  have H3 := Lib.hid (show ∀ W', Below w.heap.size w W' → Calls Tryd.prog 82 #[.slice A2 falls.length n2, .int .i64 f.code.length] W' (Ret (.bool (countsB falls f.code.length)) W') from fun W' hb => counts_any A2 n2 falls _ W' (i2.below hb))
  have H4 := Lib.hid (show ∀ W', Below w.heap.size w W' → Calls Tryd.prog 83 #[.slice A3 args.length n3, .func (.func 80) #[] #[]] W' (Ret (.bool (!args.all argB)) W') from fun W' hb => containsA_any A3 n3 args W' (i3.below hb))
  have HE := Lib.hid (show fprB f ⟨calls, jumps, falls, args⟩ = (countB calls && countsB jumps f.code.length && countsB falls f.code.length && decide ((args.length : Int) = f.args) && args.all argB) from rfl)
  rw [HE.out]
  obtain ⟨b1, h1⟩ : ∃ b, countB calls = b := ⟨_, rfl⟩
  obtain ⟨b2, h2⟩ : ∃ b, countsB jumps f.code.length = b := ⟨_, rfl⟩
  obtain ⟨b3, h3⟩ : ∃ b, countsB falls f.code.length = b := ⟨_, rfl⟩
  obtain ⟨b4, h4⟩ : ∃ b, decide ((args.length : Int) = f.args) = b := ⟨_, rfl⟩
  obtain ⟨b5, h5⟩ : ∃ b, args.all argB = b := ⟨_, rfl⟩
  have d4 : ((args.length : Int) == f.args) = b4 := by rw [← h4]; exact beq_decI _ _
  rw [h1] at H1 ⊢
  rw [h2] at H2 ⊢
  rw [h3] at H3 ⊢
  rw [h4]
  rw [h5] at H4 ⊢
  clear h1 h2 h3 h4 h5 HE hF r0 r1 r2 r3 i1 i2 i3
  have HALLB := Lib.hid (show ∀ W', Bel w W' → _ from fun W' hb => HALL.out W' hb)
  have HB1 := Lib.hid (show ∀ W', Bel w W' → Calls _ _ _ W' (fun e w'' => e = _ ∧ Bel w w'') from fun W' hb => (H1.out W' hb).mono fun e w'' h => ⟨h.1, bel_trans hb h.2⟩)
  have HB2 := Lib.hid (show ∀ W', Bel w W' → Calls _ _ _ W' (fun e w'' => e = _ ∧ Bel w w'') from fun W' hb => (H2.out W' hb).mono fun e w'' h => ⟨h.1, bel_trans hb h.2⟩)
  have HB3 := Lib.hid (show ∀ W', Bel w W' → Calls _ _ _ W' (fun e w'' => e = _ ∧ Bel w w'') from fun W' hb => (H3.out W' hb).mono fun e w'' h => ⟨h.1, bel_trans hb h.2⟩)
  have HB4 := Lib.hid (show ∀ W', Bel w W' → Calls _ _ _ W' (fun e w'' => e = _ ∧ Bel w w'') from fun W' hb => (H4.out W' hb).mono fun e w'' h => ⟨h.1, bel_trans hb h.2⟩)
  obtain rfl | ⟨rfl, rfl⟩ | ⟨rfl, rfl, rfl⟩ | ⟨rfl, rfl, rfl, rfl⟩ | ⟨rfl, rfl, rfl, rfl⟩ : b1 = false ∨ (b1 = true ∧ b2 = false) ∨ (b1 = true ∧ b2 = true ∧ b3 = false) ∨ (b1 = true ∧ b2 = true ∧ b3 = true ∧ b4 = false) ∨ (b1 = true ∧ b2 = true ∧ b3 = true ∧ b4 = true) := by cases b1 <;> cases b2 <;> cases b3 <;> cases b4 <;> simp
  all_goals simp only [Bool.false_and, Bool.true_and, Bool.and_false, Bool.and_true]
  · go_enter Tryd.func50, Tryd.ntmps50
    go_wp2_with fail
    refine wp_region_bel (by kernel_rfl) (by kernel_rfl) ?_
    repeat
      first
        | go_big_quiet_skip
        | (go_big_quiet_want
           apply Exists.intro
           refine ⟨fun W' hW' => ?_, ?_⟩
           · obtain ⟨y0, y1, y2, y3, y4, y5, -⟩ := HALLB.out W' hW'
             go_simp
             first
               | exact rfl
               | (with_reducible exact HB1.out W' hW')
               | (with_reducible exact HB2.out W' hW')
               | (with_reducible exact HB3.out W' hW')
               | (with_reducible exact HB4.out W' hW')
           go_simp
           go_big_quiet_on)
    refine wpQuiet_nil ?_
    intro wq hq
    have HQ := Lib.hid (show Below w.heap.size w wq from hq)
    clear hq
    clear HALL HALLB H1 H2 H3 H4 HB1 HB2 HB3 HB4
    go_wp2_with fail
    go_ret
    exact ⟨rfl, HQ.out⟩
  · go_enter Tryd.func50, Tryd.ntmps50
    go_wp2_with fail
    refine wp_region_bel (by kernel_rfl) (by kernel_rfl) ?_
    repeat
      first
        | go_big_quiet_skip
        | (go_big_quiet_want
           apply Exists.intro
           refine ⟨fun W' hW' => ?_, ?_⟩
           · obtain ⟨y0, y1, y2, y3, y4, y5, -⟩ := HALLB.out W' hW'
             go_simp
             first
               | exact rfl
               | (with_reducible exact HB1.out W' hW')
               | (with_reducible exact HB2.out W' hW')
               | (with_reducible exact HB3.out W' hW')
               | (with_reducible exact HB4.out W' hW')
           go_simp
           go_big_quiet_on)
    refine wpQuiet_nil ?_
    intro wq hq
    have HQ := Lib.hid (show Below w.heap.size w wq from hq)
    clear hq
    clear HALL HALLB H1 H2 H3 H4 HB1 HB2 HB3 HB4
    go_wp2_with fail
    go_ret
    exact ⟨rfl, HQ.out⟩
  · go_enter Tryd.func50, Tryd.ntmps50
    go_wp2_with fail
    refine wp_region_bel (by kernel_rfl) (by kernel_rfl) ?_
    repeat
      first
        | go_big_quiet_skip
        | (go_big_quiet_want
           apply Exists.intro
           refine ⟨fun W' hW' => ?_, ?_⟩
           · obtain ⟨y0, y1, y2, y3, y4, y5, -⟩ := HALLB.out W' hW'
             go_simp
             first
               | exact rfl
               | (with_reducible exact HB1.out W' hW')
               | (with_reducible exact HB2.out W' hW')
               | (with_reducible exact HB3.out W' hW')
               | (with_reducible exact HB4.out W' hW')
           go_simp
           go_big_quiet_on)
    refine wpQuiet_nil ?_
    intro wq hq
    have HQ := Lib.hid (show Below w.heap.size w wq from hq)
    clear hq
    clear HALL HALLB H1 H2 H3 H4 HB1 HB2 HB3 HB4
    go_wp2_with fail
    go_ret
    exact ⟨rfl, HQ.out⟩
  · go_enter Tryd.func50, Tryd.ntmps50
    go_wp2_with fail
    refine wp_region_bel (by kernel_rfl) (by kernel_rfl) ?_
    repeat
      first
        | go_big_quiet_skip
        | (go_big_quiet_want
           apply Exists.intro
           refine ⟨fun W' hW' => ?_, ?_⟩
           · obtain ⟨y0, y1, y2, y3, y4, y5, -⟩ := HALLB.out W' hW'
             go_simp
             first
               | exact rfl
               | (with_reducible exact HB1.out W' hW')
               | (with_reducible exact HB2.out W' hW')
               | (with_reducible exact HB3.out W' hW')
               | (with_reducible exact HB4.out W' hW')
           go_simp
           go_big_quiet_on)
    refine wpQuiet_nil ?_
    intro wq hq
    have HQ := Lib.hid (show Below w.heap.size w wq from hq)
    clear hq
    clear HALL HALLB H1 H2 H3 H4 HB1 HB2 HB3 HB4
    go_wp2_with fail
    go_ret
    exact ⟨rfl, HQ.out⟩
  · go_enter Tryd.func50, Tryd.ntmps50
    go_wp2_with fail
    refine wp_region_bel (by kernel_rfl) (by kernel_rfl) ?_
    repeat
      first
        | go_big_quiet_skip
        | (go_big_quiet_want
           apply Exists.intro
           refine ⟨fun W' hW' => ?_, ?_⟩
           · obtain ⟨y0, y1, y2, y3, y4, y5, -⟩ := HALLB.out W' hW'
             go_simp
             first
               | exact rfl
               | (with_reducible exact HB1.out W' hW')
               | (with_reducible exact HB2.out W' hW')
               | (with_reducible exact HB3.out W' hW')
               | (with_reducible exact HB4.out W' hW')
           go_simp
           go_big_quiet_on)
    refine wpQuiet_nil ?_
    intro wq hq
    have HQ := Lib.hid (show Below w.heap.size w wq from hq)
    clear hq
    clear HALL HALLB H1 H2 H3 H4 HB1 HB2 HB3 HB4
    go_wp2_with fail
    go_ret
    exact ⟨ret_bool (by simp), HQ.out⟩
end Go.Proofs.YtpfgklkdldkajaaDoor

namespace Go.Proofs.YtpfgklkdldkajaaDoor
open Go.RowKit

theorem zipB_yes {p : List Fn} {r : List FPr} (h : ∀ j (hp : j < p.length) (hr : j < r.length), fprB p[j] r[j] = true) : ((p.zip r).all fun x => fprB x.1 x.2) = true := by
  rw [List.all_eq_true]
  intro x hx
  obtain ⟨j, hj, rfl⟩ := List.mem_iff_getElem.1 hx
  rw [List.getElem_zip]
  exact h j (by simp at hj; omega) (by simp at hj; omega)
theorem zipB_no {p : List Fn} {r : List FPr} {k : Nat} (hp : k < p.length) (hr : k < r.length) (h : fprB p[k] r[k] = false) : ((p.zip r).all fun x => fprB x.1 x.2) = false := by
  rw [List.all_eq_false]
  refine ⟨(p[k], r[k]), List.mem_iff_getElem.2 ⟨k, by simp; omega, by rw [List.getElem_zip]⟩, by simp [h]⟩
theorem profB_of {p : List Fn} {r : List FPr} (h : profB p r = true) : verifyOf p = 0 ∧ r.length = p.length ∧ ∀ j (hp : j < p.length) (hr : j < r.length), fprB p[j] r[j] = true := by
  unfold profB at h
  simp only [Bool.and_eq_true, decide_eq_true_eq] at h
  refine ⟨h.1.1, h.1.2, fun j hp hr => ?_⟩
  cases hf : fprB p[j] r[j] with
  | true => rfl
  | false => rw [zipB_no hp hr hf] at h; cases h.2
set_option maxRecDepth 100000 in
set_option maxHeartbeats 4000000 in
theorem mayP_any (p : List Fn) (r : List FPr) (Ap Ar : Option Addr) (cp cr : Nat) (w : World) (hl : Laid w) (hp : ReadsF w Ap p) (hr : ReadsP w Ar r) :
    Calls Tryd.prog 21 #[.agg #[.slice Ap p.length cp], .agg #[.slice Ar r.length cr]] w (Ret (.bool (profB p r)) w) := by
  obtain ⟨w0, hw0⟩ : ∃ w0, w.alloc (.cells #[.slice Ap p.length cp] 24) = w0 := ⟨_, rfl⟩
  obtain ⟨w1, hw1⟩ : ∃ w1, w0.alloc (.cells #[.slice Ar r.length cr] 44) = w1 := ⟨_, rfl⟩
  have b0 : Below w.heap.size w w0 := hw0 ▸ below_alloc (Below.refl _ _) _
  have b01 : Below w0.heap.size w0 w1 := hw1 ▸ below_alloc (Below.refl _ _) _
  have b1 := below_trans b0 b01
  have r0 : RowAt 24 w.heap.size [.slice Ap p.length cp] w1 := (hw0 ▸ RowAt.new _ _ w : RowAt 24 w.heap.size [.slice Ap p.length cp] w0).below b01
  have r1 : RowAt 44 w0.heap.size [.slice Ar r.length cr] w1 := hw1 ▸ RowAt.new _ _ w0
  have k0 := row_cell r0
  have R0 := Lib.hid r0
  have R1 := Lib.hid r1
  have HX := Lib.hid (hp.below b1)
  have HY := Lib.hid (hr.below b1)
  have n1 : p.length ≤ 9223372036854775807 := hp.1
  have n2 : r.length ≤ 9223372036854775807 := hr.1
  have HB1 := Lib.hid b1
  have H := Lib.hid (program_any p Ap cp w1 (hl.below b1) (hp.below b1))
  obtain ⟨vf, hvf⟩ : ∃ vf, verifyOf p = vf := ⟨_, rfl⟩
  have HVF := Lib.hid hvf
  rw [hvf] at H
  clear hl hp hr b0 b01 b1 r0 r1 hvf
  go_enter Tryd.func21, Tryd.ntmps21
  go_wp2_with fail
  (with_reducible refine H.out.mono ?_)
  rintro e w2 ⟨rfl, hB⟩
  have B2 := Lib.hid (below_trans HB1.out hB)
  have B12 := Lib.hid hB
  clear hw0 hw1 k0 hB H
  have k0 := row_cell (R0.out.below B12.out)
  have k1 := row_cell (R1.out.below B12.out)
  by_cases hv : vf = 0
  case neg =>
    have t1 : (vf != 0) = true := by simpa using hv
    have HE := Lib.hid (show profB p r = false by unfold profB; rw [HVF.out, decide_eq_false hv]; rfl)
    clear hv
    go_wp2_with fail
    go_ret
    exact ⟨ret_bool HE.out.symm, B2.out⟩
  have t1 : (vf != 0) = false := by simpa using hv
  have HV := Lib.hid (HVF.out.trans hv)
  clear hv
  by_cases hl : r.length = p.length
  case neg =>
    have dl : (r.length != p.length) = true := by simpa using hl
    have dm : ((r.length : Int) != p.length) = true := by simp; omega
    have HE := Lib.hid (show profB p r = false by unfold profB; rw [decide_eq_false hl, Bool.and_false]; rfl)
    clear hl
    go_wp2_with fail
    go_ret
    exact ⟨ret_bool HE.out.symm, B2.out⟩
  have dl : (r.length != p.length) = false := by simpa using hl
  have dm : ((r.length : Int) != p.length) = false := by simp; omega
  have HL := Lib.hid hl
  have HE := Lib.hid (show profB p r = ((p.zip r).all fun x => fprB x.1 x.2) by unfold profB; rw [HV.out, hl]; simp)
  clear hl
  go_wp2_with fail
  clear dl dm k0 k1 t1
  go_loopw [21] (fun i wr => ∃ k : Nat, k ≤ p.length ∧ i = .int .i64 k ∧ (∀ j (hp : j < p.length) (hr : j < r.length), j < k → fprB p[j] r[j] = true) ∧ Below w2.heap.size w2 wr) (fun i _ => p.length - (intOf i).toNat)
  case atStart => exact ⟨0, Nat.zero_le _, rfl, fun _ _ _ h => absurd h (Nat.not_lt_zero _), Below.refl _ _⟩
  case round =>
    obtain ⟨k, hk, rfl, hv, hB⟩ := hrel
    have HV2 := Lib.hid hv
    have HB := Lib.hid hB
    clear hv hB
    by_cases hlt : k < p.length
    case neg =>
      go_wp2_with fail
      go_ret
      exact ⟨ret_bool (HE.out.trans (zipB_yes fun j hp hr => HV2.out j hp hr (by omega))).symm, below_trans B2.out HB.out⟩
    have hlr : k < r.length := by have := HL.out; omega
    have hb := below_trans B12.out HB.out
    obtain ⟨ad, eA, Ac, cc, hF⟩ := fnAt_of HX.out hb hlt
    obtain ⟨ar, eR, hR⟩ := HY.out.at_ hb hlr
    subst eA eR
    have HALL := Lib.hid (show ∀ W', Below wr.heap.size wr W' → W'.cell? ⟨w.heap.size, 0, none⟩ = some (.slice (some ad) p.length cp) ∧ W'.cell? ⟨w0.heap.size, 0, none⟩ = some (.slice (some ar) r.length cr) ∧ Below wr.heap.size wr W' from fun W' h => ⟨row_cell ((R0.out.below hb).below h), row_cell ((R1.out.below hb).below h), h⟩)
    have H1 := Lib.hid (show ∀ W', Below wr.heap.size wr W' → Calls Tryd.prog 50 #[.pointer (some (ad.add (k * 3))), .pointer (some (ar.add (k * 4)))] W' (Ret (.bool (fprB p[k] r[k])) W') from fun W' h => pmay_any _ _ p[k] r[k] Ac cc W' (hF.below h) (hR.below h))
    obtain ⟨m, hm⟩ : ∃ m, fprB p[k] r[k] = m := ⟨_, rfl⟩
    rw [hm] at H1
    have HM := Lib.hid hm
    have HBB := Lib.hid hb
    clear hm hb hF hR
    go_upto_region 6 with fail
    have HALLB := Lib.hid (show ∀ W', Bel wr W' → _ from fun W' hb => HALL.out W' hb)
    have HB1 := Lib.hid (show ∀ W', Bel wr W' → Calls _ _ _ W' (fun e w'' => e = _ ∧ Bel wr w'') from fun W' hb => (H1.out W' hb).mono fun e w'' h => ⟨h.1, bel_trans hb h.2⟩)
    refine wp_region_bel (by kernel_rfl) (by kernel_rfl) ?_
    repeat
      first
        | go_big_quiet_skip
        | (go_big_quiet_want
           apply Exists.intro
           refine ⟨fun W' hW' => ?_, ?_⟩
           · obtain ⟨y0, y1, -⟩ := HALLB.out W' hW'
             go_simp
             first
               | exact rfl
               | (with_reducible exact HB1.out W' hW')
           go_simp
           go_big_quiet_on)
    refine wpQuiet_nil ?_
    intro wq hq
    have HQ := Lib.hid (show Below wr.heap.size wr wq from hq)
    clear hq
    clear HALL HALLB H1 HB1
    cases m with
    | true =>
      go_wp2_with fail
      go_roundw
      case rel => exact ⟨k + 1, by omega, by go_num, fun j hp hr h => by
        rcases Nat.lt_or_ge j k with h2 | h2
        · exact HV2.out j hp hr h2
        · obtain rfl : j = k := by omega
          exact HM.out, below_trans HB.out HQ.out⟩
      case measure => simp only [intOf]; omega
    | false =>
      go_wp2_with fail
      go_ret
      exact ⟨ret_bool (HE.out.trans (zipB_no hlt hlr HM.out)).symm, below_trans B2.out (below_trans HB.out HQ.out)⟩
end Go.Proofs.YtpfgklkdldkajaaDoor

namespace Go.Proofs.YtpfgklkdldkajaaDoor
open Go.RowKit

def eqArgP (x y : ArgP) : Bool := x.value == y.value && (x.same == y.same && (x.other == y.other))
theorem eqArgP_iff (x y : ArgP) : eqArgP x y = true ↔ x = y := by
  unfold eqArgP
  cases x; cases y
  simp
theorem eqrArgP (d : Nat) (w : World) (x y : ArgP) : (Op.equalIn (d + 2) 52 (.agg #[.int .i64 x.value, .int .i64 x.same, .int .i64 x.other]) (.agg #[.int .i64 y.value, .int .i64 y.same, .int .i64 y.other])).run Tryd.prog w = .ok (eqArgP x y) w := by
  refine eq_struct Tryd.underlying52 (by kernel_rfl) ?_
  unfold eqArgP
  rw [← Bool.and_true (x.other == y.other)]
  refine eq_next (by rfl) (by go_simp; rfl) (by go_simp; rfl) (by go_simp) ?_
  refine eq_next (by rfl) (by go_simp; rfl) (by go_simp; rfl) (by go_simp) ?_
  exact eq_next (by rfl) (by go_simp; rfl) (by go_simp; rfl) (by go_simp) eq_done
set_option maxHeartbeats 1000000 in
theorem sameArgs_any (A B : Option Addr) (ca cb : Nat) (xs ys : List ArgP) (w : World) (hx : ReadsA w A xs) (hy : ReadsA w B ys) :
    Calls Tryd.prog 53 #[.slice A xs.length ca, .slice B ys.length cb] w (RetD (.bool (decide (xs = ys))) w) := by
  have HX := Lib.hid hx
  have HY := Lib.hid hy
  have n1 : xs.length ≤ 9223372036854775807 := hx.1
  have n2 : ys.length ≤ 9223372036854775807 := hy.1
  have hq := fun (W : World) (x y : ArgP) => neq_of (fun d => eqrArgP d W x y)
  clear hx hy
  by_cases hl : xs.length = ys.length
  · have dl : (xs.length != ys.length) = false := by simpa using hl
    have dm : ((xs.length : Int) != ys.length) = false := by simp; omega
    have HL := Lib.hid hl
    clear hl
    go_enter Tryd.func53, Tryd.ntmps53
    go_wp2_with fail
    go_loopw [5] (fun i wr => ∃ k : Nat, k ≤ xs.length ∧ i = .int .i64 k ∧ (∀ j (hx : j < xs.length) (hy : j < ys.length), j < k → xs[j] = ys[j]) ∧ ∃ n, wr = w.drewN n) (fun i _ => xs.length - (intOf i).toNat)
    case atStart => exact ⟨0, Nat.zero_le _, rfl, fun _ _ _ h => absurd h (Nat.not_lt_zero _), 0, rfl⟩
    case round =>
      obtain ⟨k, hk, rfl, hv, n, rfl⟩ := hrel
      have HV := Lib.hid hv
      clear hv
      by_cases hlt : k < xs.length
      · have hly : k < ys.length := by have := HL.out; omega
        obtain ⟨a1, e1, c0, c1, c2⟩ := HX.out.at_ (Below.refl _ _) hlt
        obtain ⟨a2, e2, d0, d1, d2⟩ := HY.out.at_ (Below.refl _ _) hly
        subst e1 e2
        go_upto_region 6 with fail
        by_cases he : xs[k] = ys[k]
        · have he' : eqArgP xs[k] ys[k] = true := (eqArgP_iff _ _).2 he
          have HE := Lib.hid he
          clear he
          go_quiet (fail)
          go_wp2_with fail
          go_roundw
          case rel => exact ⟨k + 1, by omega, by go_num, fun j hx hy h => by
            rcases Nat.lt_or_ge j k with h2 | h2
            · exact HV.out j hx hy h2
            · obtain rfl : j = k := by omega
              exact HE.out, by first | exact ⟨_, rfl⟩ | exact ⟨_, drewN_two _ _ _⟩⟩
          case measure => simp only [intOf]; omega
        · have he' : eqArgP xs[k] ys[k] = false := by
            cases hc : eqArgP xs[k] ys[k] with
            | false => rfl
            | true => exact absurd ((eqArgP_iff _ _).1 hc) he
          have HE := Lib.hid he
          clear he
          go_quiet (fail)
          go_wp2_with fail
          go_ret
          exact ⟨ret_bool (ne_at hlt hly HE.out).symm, by first | exact ⟨_, rfl⟩ | exact ⟨_, drewN_two _ _ _⟩⟩
      · go_wp2_with fail
        go_ret
        exact ⟨ret_bool (eq_all HL.out fun j hx hy => HV.out j hx hy (by omega)).symm, _, rfl⟩
  · have dl : (xs.length != ys.length) = true := by simpa using hl
    have dm : ((xs.length : Int) != ys.length) = true := by simp; omega
    have HL := Lib.hid hl
    clear hl
    go_enter Tryd.func53, Tryd.ntmps53
    go_wp2_with fail
    go_ret
    exact ⟨ret_bool (ne_len HL.out).symm, 0, rfl⟩
theorem below_drwP {w w1 : World} (h : Below w.heap.size w w1) : Below w.heap.size w w1.drew := ⟨h.os, h.tape, h.output, h.size, h.block⟩
set_option maxRecDepth 100000 in
set_option maxHeartbeats 4000000 in
theorem sameProf_any (A B : Option Addr) (ca cb : Nat) (p q : List FPr) (w : World) (hx : ReadsP w A p) (hy : ReadsP w B q) :
    Calls Tryd.prog 24 #[.agg #[.slice A p.length ca], .agg #[.slice B q.length cb]] w (Ret (.bool (decide (p = q))) w) := by
  obtain ⟨w0, hw0⟩ : ∃ w0, w.alloc (.cells #[.slice A p.length ca] 44) = w0 := ⟨_, rfl⟩
  obtain ⟨w1, hw1⟩ : ∃ w1, w0.alloc (.cells #[.slice B q.length cb] 44) = w1 := ⟨_, rfl⟩
  have b0 : Below w.heap.size w w0 := hw0 ▸ below_alloc (Below.refl _ _) _
  have b01 : Below w0.heap.size w0 w1 := hw1 ▸ below_alloc (Below.refl _ _) _
  have b1 := below_trans b0 b01
  have r0 : RowAt 44 w.heap.size [.slice A p.length ca] w1 := (hw0 ▸ RowAt.new _ _ w : RowAt 44 w.heap.size [.slice A p.length ca] w0).below b01
  have r1 : RowAt 44 w0.heap.size [.slice B q.length cb] w1 := hw1 ▸ RowAt.new _ _ w0
  have k0 := row_cell r0
  have k1 := row_cell r1
  have R0 := Lib.hid r0
  have R1 := Lib.hid r1
  have HX := Lib.hid (hx.below b1)
  have HY := Lib.hid (hy.below b1)
  have n1 : p.length ≤ 9223372036854775807 := hx.1
  have n2 : q.length ≤ 9223372036854775807 := hy.1
  have HB1 := Lib.hid b1
  clear hx hy b0 b01 b1 r0 r1
  by_cases hl : p.length = q.length
  case neg =>
    have dl : (p.length != q.length) = true := by simpa using hl
    have dm : ((p.length : Int) != q.length) = true := by simp; omega
    have HL := Lib.hid hl
    clear hl
    go_enter Tryd.func24, Tryd.ntmps24
    go_wp2_with fail
    go_ret
    exact ⟨ret_bool (ne_len HL.out).symm, HB1.out⟩
  have dl : (p.length != q.length) = false := by simpa using hl
  have dm : ((p.length : Int) != q.length) = false := by simp; omega
  have HL := Lib.hid hl
  clear hl
  go_enter Tryd.func24, Tryd.ntmps24
  go_wp2_with fail
  clear hw0 hw1 k0 k1
  go_loopw [5] (fun i wr => ∃ k : Nat, k ≤ p.length ∧ i = .int .i64 k ∧ (∀ j (hx : j < p.length) (hy : j < q.length), j < k → p[j] = q[j]) ∧ Below w1.heap.size w1 wr) (fun i _ => p.length - (intOf i).toNat)
  case atStart => exact ⟨0, Nat.zero_le _, rfl, fun _ _ _ h => absurd h (Nat.not_lt_zero _), Below.refl _ _⟩
  case round =>
    obtain ⟨k, hk, rfl, hv, hB⟩ := hrel
    have HV := Lib.hid hv
    have HB := Lib.hid hB
    have k0 := row_cell (R0.out.below hB)
    have k1 := row_cell (R1.out.below hB)
    clear hv hB
    by_cases hlt : k < p.length
    case neg =>
      go_wp2_with fail
      go_ret
      exact ⟨ret_bool (eq_all HL.out fun j hx hy => HV.out j hx hy (by omega)).symm, below_trans HB1.out HB.out⟩
    have hly : k < q.length := by have := HL.out; omega
    obtain ⟨a1, e1, c0, ⟨J1, m1, c1, s1⟩, ⟨F1, l1, c2, s2⟩, A1, i1, c3, s3⟩ := HX.out.at_ HB.out hlt
    obtain ⟨a2, e2, d0, ⟨J2, m2, d1, t1⟩, ⟨F2, l2, d2, t2⟩, A2, i2, d3, t3⟩ := HY.out.at_ HB.out hly
    subst e1 e2
    have HS2 := Lib.hid (fun (W : World) (hb : Below wr.heap.size wr W) => sameInts_any J1 J2 m1 m2 p[k].jumps q[k].jumps W (s1.below hb) (t1.below hb))
    have HS3 := Lib.hid (fun (W : World) (hb : Below wr.heap.size wr W) => sameInts_any F1 F2 l1 l2 p[k].falls q[k].falls W (s2.below hb) (t2.below hb))
    have HS4 := Lib.hid (fun (W : World) (hb : Below wr.heap.size wr W) => sameArgs_any A1 A2 i1 i2 p[k].args q[k].args W (s3.below hb) (t3.below hb))
    have g1 := fun {a v} (h : wr.cell? a = some v) (o : Obj) => (below_alloc (Below.refl wr.heap.size wr) o).cell (World.block_lt_of_cell? _ a h) |>.trans h
    have g2 := fun {a v} (h : wr.cell? a = some v) (o o' : Obj) => (below_alloc (below_alloc (Below.refl wr.heap.size wr) o) o').cell (World.block_lt_of_cell? _ a h) |>.trans h
    have k0_1 := g1 k0
    have k0_2 := g2 k0
    have k1_1 := g1 k1
    have k1_2 := g2 k1
    have c0_1 := g1 c0
    have c0_2 := g2 c0
    have c1_1 := g1 c1
    have c1_2 := g2 c1
    have c2_1 := g1 c2
    have c2_2 := g2 c2
    have c3_1 := g1 c3
    have c3_2 := g2 c3
    have d0_1 := g1 d0
    have d0_2 := g2 d0
    have d1_1 := g1 d1
    have d1_2 := g2 d1
    have d2_1 := g1 d2
    have d2_2 := g2 d2
    have d3_1 := g1 d3
    have d3_2 := g2 d3
    clear g1 g2 s1 s2 s3 t1 t2 t3
    go_upto_region 6 with fail
    go_region
    all_goals
      by_cases h1 : p[k].calls = q[k].calls
      case neg =>
        have t1 : (p[k].calls != q[k].calls) = true := by simpa using h1
        have NE := Lib.hid (fun e : p[k] = q[k] => h1 (by rw [e]))
        clear h1
        go_wp2_with fail
        go_ret
        exact ⟨ret_bool (ne_at hlt hly NE.out).symm, below_trans HB1.out (below_trans HB.out (by repeat (first | assumption | exact Below.refl _ _ | refine below_drwP ?_ | refine below_drew ?_ _ | refine below_alloc ?_ _)))⟩
      have t1 : (p[k].calls != q[k].calls) = false := by simpa using h1
      have E1 := Lib.hid h1
      clear h1
      by_cases h2 : p[k].jumps = q[k].jumps
      case neg =>
        rw [decide_eq_false h2] at HS2
        have NE := Lib.hid (fun e : p[k] = q[k] => h2 (by rw [e]))
        clear h2
        go_wp2_with fail
        (with_reducible refine (HS2.out _ (by repeat (first | assumption | exact Below.refl _ _ | refine below_drwP ?_ | refine below_drew ?_ _ | refine below_alloc ?_ _))).mono ?_)
        rintro e w2 ⟨rfl, n2, rfl⟩
        go_wp2_with fail
        go_ret
        exact ⟨ret_bool (ne_at hlt hly NE.out).symm, below_trans HB1.out (below_trans HB.out (by repeat (first | assumption | exact Below.refl _ _ | refine below_drwP ?_ | refine below_drew ?_ _ | refine below_alloc ?_ _)))⟩
      rw [decide_eq_true h2] at HS2
      have E2 := Lib.hid h2
      clear h2
      go_wp2_with fail
      (with_reducible refine (HS2.out _ (by repeat (first | assumption | exact Below.refl _ _ | refine below_drwP ?_ | refine below_drew ?_ _ | refine below_alloc ?_ _))).mono ?_)
      rintro e w2 ⟨rfl, n2, rfl⟩
      by_cases h3 : p[k].falls = q[k].falls
      case neg =>
        rw [decide_eq_false h3] at HS3
        have NE := Lib.hid (fun e : p[k] = q[k] => h3 (by rw [e]))
        clear h3
        go_wp2_with fail
        (with_reducible refine (HS3.out _ (by repeat (first | assumption | exact Below.refl _ _ | refine below_drwP ?_ | refine below_drew ?_ _ | refine below_alloc ?_ _))).mono ?_)
        rintro e w3 ⟨rfl, n3, rfl⟩
        go_wp2_with fail
        go_ret
        exact ⟨ret_bool (ne_at hlt hly NE.out).symm, below_trans HB1.out (below_trans HB.out (by repeat (first | assumption | exact Below.refl _ _ | refine below_drwP ?_ | refine below_drew ?_ _ | refine below_alloc ?_ _)))⟩
      rw [decide_eq_true h3] at HS3
      have E3 := Lib.hid h3
      clear h3
      go_wp2_with fail
      (with_reducible refine (HS3.out _ (by repeat (first | assumption | exact Below.refl _ _ | refine below_drwP ?_ | refine below_drew ?_ _ | refine below_alloc ?_ _))).mono ?_)
      rintro e w3 ⟨rfl, n3, rfl⟩
      by_cases h4 : p[k].args = q[k].args
      case neg =>
        rw [decide_eq_false h4] at HS4
        have NE := Lib.hid (fun e : p[k] = q[k] => h4 (by rw [e]))
        clear h4
        go_wp2_with fail
        (with_reducible refine (HS4.out _ (by repeat (first | assumption | exact Below.refl _ _ | refine below_drwP ?_ | refine below_drew ?_ _ | refine below_alloc ?_ _))).mono ?_)
        rintro e w4 ⟨rfl, n4, rfl⟩
        go_wp2_with fail
        go_ret
        exact ⟨ret_bool (ne_at hlt hly NE.out).symm, below_trans HB1.out (below_trans HB.out (by repeat (first | assumption | exact Below.refl _ _ | refine below_drwP ?_ | refine below_drew ?_ _ | refine below_alloc ?_ _)))⟩
      rw [decide_eq_true h4] at HS4
      have E4 := Lib.hid h4
      clear h4
      go_wp2_with fail
      (with_reducible refine (HS4.out _ (by repeat (first | assumption | exact Below.refl _ _ | refine below_drwP ?_ | refine below_drew ?_ _ | refine below_alloc ?_ _))).mono ?_)
      rintro e w4 ⟨rfl, n4, rfl⟩
      go_wp2_with fail
      go_roundw
      case rel => exact ⟨k + 1, by omega, by go_num, fun j hx hy h => by
        rcases Nat.lt_or_ge j k with h2 | h2
        · exact HV.out j hx hy h2
        · obtain rfl : j = k := by omega
          exact fpr_ext E1.out E2.out E3.out E4.out, below_trans HB.out (by repeat (first | assumption | exact Below.refl _ _ | refine below_drwP ?_ | refine below_drew ?_ _ | refine below_alloc ?_ _))⟩
      case measure => simp only [intOf]; omega
end Go.Proofs.YtpfgklkdldkajaaDoor

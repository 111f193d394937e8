/- 'step.One' on a frame at a place, whatever its instruction. Conditions: the frame is the call's own and may be; the program lies in older memory. A region that draws its order, whose operations read and whose callees leave all that is old: walked once, in the order of the text. Plain lemmas. A region that draws its order, by what holds behind any of its operations: each operation is walked once. No condition. -/
import Derived.Test.YtjghibdlmmjobaaGreatDoorGZ19
import Derived.Test.YtjghibdlmmjobaaGreatDoorGZ01
import Derived.Deep.Quiet
import Derived.Deep.QuietTactic
import Derived.BigQuiet
import Derived.Test.YtjghibdlmmjobaaGreatDoorGZ13
import Derived.Deep.RegionHeld3
namespace Go.Proofs.YtjghibdlmmjobaaGreatDoor
open Go.RowKit

def excOf (r : Res) (fuel : Int) : Exc := match r with
  | .next => ⟨0, 0, fuel, 0, [], 0, false, 0, false⟩
  | .print v => ⟨0, 0, fuel, 0, [], v, true, 0, false⟩
  | .call fn args => ⟨1, 0, fuel, fn, args, 0, false, 0, false⟩
  | .ret v => ⟨2, 0, fuel, 0, [], v, false, 0, false⟩
  | .over d => ⟨d + 1, 0, fuel, 0, [], 0, false, 0, false⟩
def oneF (p : List Fn) (f : Frm) (fuel : Int) (d : Nat) : Frm := if fuel = 0 then f else (oneI p f (insAt p f) d).1
def oneX (p : List Fn) (f : Frm) (fuel : Int) (d : Nat) : Exc := if fuel = 0 then ⟨5, 0, 0, 0, [], 0, false, 0, false⟩ else excOf (oneI p f (insAt p f) d).2 (fuel - 1)
def oneJ (p : List Fn) (f : Frm) (fuel : Int) : Bool := if fuel = 0 then false else decide ((insAt p f).kind = 13) && decide (lastN f.stack = 0)
theorem simX (b : Bool) (fuel : Int) : excOf (if b = true then .over 2 else .next) fuel = ⟨if b = true then 3 else 0, 0, fuel, 0, [], 0, false, 0, false⟩ := by cases b <;> rfl
theorem one_any {w W0 : World} {base g off cp : Nat} {P : Addr} {p : List Fn} {Ap : Option Addr} {f : Frm} {v1 v2 : Value} (h : FAt w base g off f v1 v2) (hb : base ≤ w.heap.size) (hbs : W0.heap.size ≤ base) (hW : Below W0.heap.size W0 w) (hP : W0.cell? P = some (.slice Ap p.length cp)) (hr : ReadsF W0 Ap p)
    (hv : verifyOf p = 0) (hf : frameB p f 0 = true) {fuel : Int} (h0 : 0 ≤ fuel) (h1 : fuel ≤ 100000) (d : Nat) :
    Calls Tryz.prog 129 #[.pointer (some P), .pointer (some ⟨g, off, none⟩), .int .i64 fuel, .int .i64 d] w (OneE (oneF p f fuel d) (oneX p f fuel d) (oneJ p f fuel) base g off v1 v2 w) := by
  by_cases hz : fuel = 0
  · subst hz
    have e1 : oneF p f 0 d = f := if_pos rfl
    have e2 : oneX p f 0 d = ⟨5, 0, 0, 0, [], 0, false, 0, false⟩ := if_pos rfl
    have e3 : oneJ p f 0 = false := if_pos rfl
    rw [e1, e2, e3]
    exact loneF h d
  have hfu : 0 < fuel := by omega
  obtain ⟨f1, f2, f3, f4, f5⟩ := frameB_of hf
  obtain ⟨fn, pc, ha⟩ := At.of hv f1
  obtain ⟨x, hx, hfn, hpc, ex⟩ := At.finds hv ha
  have e1 : oneF p f fuel d = (oneI p f x d).1 := by unfold oneF; rw [if_neg hz, hx.ins]
  have e2 : oneX p f fuel d = excOf (oneI p f x d).2 (fuel - 1) := by unfold oneX; rw [if_neg hz, hx.ins]
  have e3 : oneJ p f fuel = (decide (x.kind = 13) && decide (lastN f.stack = 0)) := by unfold oneJ; rw [if_neg hz, hx.ins]
  rw [e1, e2, e3]
  clear e1 e2 e3
  have hp := verifyOf_packs hv
  have hm := (fnMay_of (packs_fn hp hfn)).2.2.2.2
  have hcl : p[fn].code.length ≤ 1000 := by have := (codeMay_len hm).2; omega
  obtain ⟨k0, k16, hab⟩ := may_of hx.may
  have hrg := hx.ranged hfn
  have hst : f.stack.length ≤ 1000 := by
    obtain ⟨_, e, h⟩ := heightAt_in hv hfn hpc
    rw [ha.efn, ha.epc] at f3
    rcases h with h | h <;> omega
  have ht := hx.takes
  have hlo : (f.locals.length : Int) = p[fn].locals := by
    rw [f2, ha.efn]; unfold localsAt; rw [Int.toNat_natCast, List.getElem?_eq_getElem hfn]
  have E := ha.efn
  have F := ha.epc
  obtain ⟨k, a⟩ := x
  simp only at k0 k16 hab hrg ht ex
  have exs := ex.symm
  have sim : ∀ (hk : ¬ (12 ≤ k ∧ k ≤ 16)), OneE (simF ⟨f.fn, (pc : Int) + 1, f.locals, f.stack⟩ ⟨k, a⟩).1 ⟨if (simF ⟨f.fn, (pc : Int) + 1, f.locals, f.stack⟩ ⟨k, a⟩).2 = true then 3 else 0, 0, fuel - 1, 0, [], 0, false, 0, false⟩ false base g off v1 v2 w =
      OneE (oneI p f ⟨k, a⟩ d).1 (excOf (oneI p f ⟨k, a⟩ d).2 (fuel - 1)) (decide (k = 13) && decide (lastN f.stack = 0)) base g off v1 v2 w := fun hk => by
    rw [one_sim hk, F]
    simp only
    rw [simX, decide_eq_false (show ¬ k = 13 by omega)]
    rfl
  have hL : ∀ n : Int, takesOf k (argsOf p ⟨k, a⟩) = n → n ≤ f.stack.length := fun n e => by rw [e] at ht; omega
  by_cases c0 : k = 0
  · subst c0
    rw [← sim (by omega)]
    exact lone0 h hb hW hP hr E F hfn hpc exs fuel d hfu h1 hcl hst
  by_cases c1 : k = 1 ∨ k = 2
  · have ha0 : 0 ≤ a := (hab (by simp; omega)).1
    obtain ⟨j, rfl⟩ := Int.eq_ofNat_of_zero_le ha0
    have hj : j < f.locals.length := by
      unfold rangedB at hrg
      rw [if_pos (by simpa using c1)] at hrg
      simp only [decide_eq_true_eq] at hrg
      omega
    rcases c1 with c1 | c1
    · subst c1
      rw [← sim (by omega)]
      exact lone1 h hb hW hP hr E F hfn hpc exs fuel d hfu h1 hcl hst hj
    · subst c1
      have := hL 1 (by simp [takesOf])
      rw [← sim (by omega)]
      exact lone2 h hb hW hP hr E F hfn hpc exs fuel d hfu h1 hcl hj (by omega)
  by_cases c10 : k = 10
  · subst c10
    have := hL 1 (by simp [takesOf])
    rw [← sim (by omega)]
    exact lone10 h hb hW hP hr E F hfn hpc exs fuel d hfu h1 hcl hst (by omega)
  by_cases c11 : k = 11
  · subst c11
    have := hL 1 (by simp [takesOf])
    rw [← sim (by omega)]
    exact lone11 h hb hW hP hr E F hfn hpc exs fuel d hfu h1 hcl (by omega)
  by_cases c12 : k = 12
  · subst c12
    exact lone12 h hb hW hP hr E F hfn hpc exs fuel d hfu h1 hcl
  by_cases c13 : k = 13
  · subst c13
    have := hL 1 (by simp [takesOf])
    by_cases hl : lastN f.stack = 0
    · have e : (oneI p f ⟨13, a⟩ d) = (⟨f.fn, a, f.locals, f.stack.dropLast⟩, .next) := by unfold oneI; simp [hl]
      rw [e, decide_eq_true hl]
      exact lone13y h hb hW hP hr E F hfn hpc exs fuel d hfu h1 hcl (by omega) hl
    · have e : (oneI p f ⟨13, a⟩ d) = (⟨f.fn, (pc : Int) + 1, f.locals, f.stack.dropLast⟩, .next) := by unfold oneI; simp [hl, F]
      rw [e, decide_eq_false hl]
      exact lone13n h hb hW hP hr E F hfn hpc exs fuel d hfu h1 hcl (by omega) hl
  by_cases c14 : k = 14
  · subst c14
    by_cases hd : 12 ≤ d
    · have e : (oneI p f ⟨14, a⟩ d) = (⟨f.fn, (pc : Int) + 1, f.locals, f.stack⟩, .over 3) := by unfold oneI; simp [hd, F]
      rw [e]
      exact lone14d h hb hW hP hr E F hfn hpc exs fuel d hfu h1 hcl (by omega)
    · have ha0 : 0 ≤ a := (hab (by simp)).1
      obtain ⟨m, rfl⟩ := Int.eq_ofNat_of_zero_le ha0
      have hml : m < p.length := by
        unfold rangedB at hrg
        rw [if_neg (by simp), if_neg (by simp), if_pos rfl] at hrg
        simp only [decide_eq_true_eq] at hrg
        omega
      have ea : argsOf p ⟨14, m⟩ = p[m].args := by
        unfold argsOf; rw [if_pos rfl]; simp only; rw [Int.toNat_natCast, List.getElem?_eq_getElem hml]
      have hax := argsOf_in hp ⟨14, m⟩
      obtain ⟨M, hM⟩ := Int.eq_ofNat_of_zero_le hax.1
      have := hL M (by simp [takesOf, hM])
      have e : (oneI p f ⟨14, m⟩ d) = (⟨f.fn, (pc : Int) + 1, f.locals, f.stack.take (f.stack.length - M)⟩, .call m (f.stack.drop (f.stack.length - M))) := by unfold oneI; simp [hd, F, hM]
      rw [e]
      exact lone14 h hb hW hP hr E F hfn hpc exs fuel d hfu h1 hcl (by omega) hbs hml (by rw [← ea, hM]) (by omega) hst
  by_cases c15 : k = 15
  · subst c15
    have := hL 1 (by simp [takesOf])
    have e : (oneI p f ⟨15, a⟩ d) = (⟨f.fn, (pc : Int) + 1, f.locals, f.stack.dropLast⟩, .print (lastN f.stack)) := by unfold oneI; simp [F]
    rw [e]
    exact lone15 h hb hW hP hr E F hfn hpc exs fuel d hfu h1 hcl (by omega)
  by_cases c16 : k = 16
  · subst c16
    have := hL 1 (by simp [takesOf])
    have e : (oneI p f ⟨16, a⟩ d) = (⟨f.fn, (pc : Int) + 1, f.locals, f.stack.dropLast⟩, .ret (lastN f.stack)) := by unfold oneI; simp [F]
    rw [e]
    exact lone16 h hb hW hP hr E F hfn hpc exs fuel d hfu h1 hcl (by omega)
  have := hL 2 (by unfold takesOf; rw [if_neg (by omega), if_neg (by omega), if_neg (by omega)])
  rw [← sim (by omega)]
  exact loneD h hb hW hP hr E F hfn hpc exs fuel d hfu h1 hcl hst (by omega) (by omega) (by omega) f5
end Go.Proofs.YtjghibdlmmjobaaGreatDoor

namespace Go.Proofs.YtjghibdlmmjobaaGreatDoor
open Go.RowKit

/-- A world in which all that is old is as it was. -/
def Bel (w w' : World) : Prop := Below w.heap.size w w'
theorem wp_region_bel {P : Program} {id : Nat} {Q : Exit → Act → World → Prop} {a : Act} {w : World} {l : List Oper} (hm : P.follows .mixedOrders = true) (hB : Region.lexB .any l.toArray = true)
    (h : wpQuiet P l.toArray (Bel w) (fun a' => ∀ w', Bel w w' → Q .normal a' w') l a) : (Code.region id l.toArray true).wp P Q a w :=
  wp_region_quiet (C := Bel w) hm hB ⟨rfl, rfl, rfl, Nat.le_refl _, fun _ _ => rfl⟩ (by simpa using h)
theorem bel_trans {w w1 w2 : World} (h : Bel w w1) (k : Below w1.heap.size w1 w2) : Bel w w2 := below_trans h k
theorem bel_refl (w : World) : Bel w w := Below.refl _ _
end Go.Proofs.YtjghibdlmmjobaaGreatDoor

namespace Go.Proofs.YtjghibdlmmjobaaGreatDoor
open Go.RowKit

section
variable {P : Program} {ops : Array Oper} {Q : Exit → Act → World → Prop} {md : Region.Mode}
theorem unlisted_lt {l : Array Bool} {j : Nat} (h : l.getD j true = false) : ∃ hj : j < l.size, l[j] = false := by
  by_cases hj : j < l.size
  · exact ⟨hj, by simpa [Array.getD, hj] using h⟩
  · simp [Array.getD, hj] at h
theorem wpAny_inv (J : Array Bool → Act → World → Prop) (hend : ∀ l a w, J l a w → Region.ready md ops l = [] → Q .normal a w)
    (hstep : ∀ l a w i, J l a w → i ∈ Region.ready md ops l → wpOp P ops Q i (fun a' w' => J (l.setIfInBounds i true) a' w') a w) :
    ∀ (fuel : Nat) (l : Array Bool) (a : Act) (w : World), J l a w → l.toList.count false ≤ fuel → wpAny P md ops Q fuel l a w := by
  have none : ∀ l : Array Bool, l.toList.count false = 0 → Region.ready md ops l = [] := fun l hc => by
    refine List.eq_nil_iff_forall_not_mem.2 fun j hj => ?_
    obtain ⟨hj, e⟩ := unlisted_lt (mem_ready.1 hj).1
    exact absurd (List.count_eq_zero.1 hc) (by simpa using (Array.mem_of_getElem e))
  intro fuel
  induction fuel with
  | zero => exact fun l a w h hc => ⟨none l (by omega), hend l a w h (none l (by omega))⟩
  | succ fuel ih =>
    refine fun l a w h hc => ⟨hend l a w h, fun i hi => wpOp_mono (fun a' w' h' => ih _ a' w' h' ?_) (hstep l a w i h hi)⟩
    obtain ⟨hj, e⟩ := unlisted_lt (mem_ready.1 hi).1
    have hj' : i < l.toList.length := by simpa using hj
    rw [Array.toList_setIfInBounds, List.count_set hj']
    have : 0 < l.toList.count false := List.count_pos_iff.2 (by simpa using (Array.mem_of_getElem e))
    have e2 : l.toList[i] = false := by simpa using e
    rw [e2]
    simp only [beq_self_eq_true, if_true, show (true == false) = false from rfl, Bool.false_eq_true, if_false]
    omega
/-- The region, by what holds behind any of its operations. -/
theorem wp_region_inv {id : Nat} {a : Act} {w : World} (hm : P.follows .mixedOrders = true) (J : Array Bool → Act → World → Prop) (h0 : J (Array.replicate ops.size false) a w.drew)
    (hend : ∀ l a w, J l a w → Region.ready .any ops l = [] → Q .normal a w)
    (hstep : ∀ l a w i, J l a w → i ∈ Region.ready .any ops l → wpOp P ops Q i (fun a' w' => J (l.setIfInBounds i true) a' w') a w) : (Code.region id ops true).wp P Q a w :=
  wp_region_any hm (wpAny_inv J hend hstep _ _ _ _ h0 (by simp))
theorem wp_region_inv_of {id : Nat} {a : Act} {w : World} (J : Act → Array Bool → Act → World → Prop) (hm : P.follows .mixedOrders = true) (h0 : J a (Array.replicate ops.size false) a w.drew)
    (hend : ∀ l a' w, J a l a' w → Region.ready .any ops l = [] → Q .normal a' w)
    (hstep : ∀ l a' w i, J a l a' w → i ∈ Region.ready .any ops l → wpOp P ops Q i (fun a' w' => J a (l.setIfInBounds i true) a' w') a' w) : (Code.region id ops true).wp P Q a w :=
  wp_region_inv hm (J a) h0 hend hstep
/-- Nothing may come up: what waits for no one has come up. -/
theorem all_listed {l : Array Bool} {i : Nat} {o : Oper} (h : Region.ready md ops l = []) (ho : ops[i]? = some o) (ha : o.after.toList.all (fun e => !Region.binds md e || l.getD e.on false) = true) : l.getD i true = true := by
  cases hl : l.getD i true
  · have : i ∈ Region.ready md ops l := mem_ready.2 ⟨hl, o, ho, fun e he hb => by
      have := List.all_eq_true.1 ha e (by simpa using he)
      simpa [hb] using this⟩
    rw [h] at this; cases this
  · rfl
end

/-- What holds, and goes on holding while none of the blocks S is written. -/
def Stays (S : Nat → Prop) (I : World → Prop) (w : World) : Prop := ∀ T w', Chg T w w' → (∀ b, T b → ¬ S b) → I w'
theorem Stays.now {S : Nat → Prop} {I : World → Prop} {w : World} (h : Stays S I w) : I w := h (fun _ => False) w (Chg.of_below (Below.refl _ _)) (fun _ h => h.elim)
theorem Stays.chg {S T : Nat → Prop} {I : World → Prop} {w w' : World} (h : Stays S I w) (hk : Chg T w w') (hd : ∀ b, T b → ¬ S b) : Stays S I w' := fun T' w'' hk' hd' =>
  h (fun b => T b ∨ T' b) w'' ((hk.mono (fun _ h => .inl h)).trans hk' (fun _ _ h => .inr h)) (fun b hb => hb.elim (hd b) (hd' b))
theorem Stays.below {S : Nat → Prop} {I : World → Prop} {w w' : World} (h : Stays S I w) (hb : Below w.heap.size w w') : Stays S I w' := h.chg (T := fun _ => False) (Chg.of_below hb) (fun _ h => h.elim)
theorem Chg.cut {S : Nat → Prop} {w w' : World} (h : Chg S w w') : Chg (fun b => S b ∧ b < w.heap.size) w w' := ⟨h.os, h.tape, h.output, h.size, fun k hk hn => h.block k hk (fun hs => hn ⟨hs, hk⟩)⟩
/-- The blocks that a call has made. -/
def Made (lo hi : Nat) (b : Nat) : Prop := lo ≤ b ∧ b < hi
theorem OwnF.stays {w : World} {base : Nat} {v : Value} {p : List Fn} (h : OwnF w base v p) : Stays (Made base w.heap.size) (fun w' => OwnF w' base v p) w := fun _ _ hk hd => h.chg hk.cut (fun k hk => by
  have h1 := hd k hk.1
  have h2 := hk.2
  unfold Made at h1; omega)
theorem OwnS.stays {w : World} {base : Nat} {s : Stt} {fv ov : Value} {vss : List (List Value)} (h : OwnS w base s fv ov vss) : Stays (Made base w.heap.size) (fun w' => OwnS w' base s fv ov vss) w := fun _ _ hk hd =>
  ⟨OwnG.chg h.fr hk.cut (fun u hu b hb hT => hd b hT.1 ⟨(OwnG.lo h.fr u hu b hb).1, hT.2⟩), h.out.chg hk.cut (fun b hb hT => hd b hT.1 ⟨(h.out.in_ b hb).1, hT.2⟩), h.sep⟩

/-- Two calls that make their answers, two variables for them: what holds while they come up in any order. -/
structure Two2 (w0 : World) (tX tY : Nat) (zX zY : List Value) (cX cY : Value → List Value) (I1 I2 : Value → World → Prop) (r1 r2 x y : Value) (b1 b3 b4 b5 b6 b7 : Bool) (l1 h1 l2 h2 bx bz : Nat) (w : World) : Prop where
  below : Below w0.heap.size w0 w
  got1 : b1 = true → h1 ≤ w.heap.size ∧ w0.heap.size ≤ l1 ∧ Stays (Made l1 h1) (I1 r1) w
  got2 : b3 = true → h2 ≤ w.heap.size ∧ w0.heap.size ≤ l2 ∧ Stays (Made l2 h2) (I2 r2) w
  isX : b4 = true → x = .pointer (some ⟨bx, 0, none⟩) ∧ w0.heap.size ≤ bx ∧ bx < w.heap.size ∧ RowAt tX bx (if b6 = true then cX r1 else zX) w
  isY : b5 = true → y = .pointer (some ⟨bz, 0, none⟩) ∧ w0.heap.size ≤ bz ∧ bz < w.heap.size ∧ RowAt tY bz (if b7 = true then cY r2 else zY) w
  ne : b4 = true → b5 = true → bx ≠ bz
  n1 : b1 = true → b4 = true → ¬ Made l1 h1 bx
  n2 : b1 = true → b5 = true → ¬ Made l1 h1 bz
  n3 : b3 = true → b4 = true → ¬ Made l2 h2 bx
  n4 : b3 = true → b5 = true → ¬ Made l2 h2 bz
  late6 : b6 = true → b1 = true ∧ b3 = true ∧ b4 = true ∧ b5 = true
  late7 : b7 = true → b1 = true ∧ b3 = true ∧ b4 = true ∧ b5 = true
section
variable {w0 w w' : World} {tX tY : Nat} {zX zY : List Value} {cX cY : Value → List Value} {I1 I2 : Value → World → Prop} {r1 r2 x y : Value} {b1 b3 b4 b5 b6 b7 : Bool} {l1 h1 l2 h2 bx bz : Nat}
theorem Two2.start (w0 w : World) (tX tY : Nat) (zX zY : List Value) (cX cY : Value → List Value) (I1 I2 : Value → World → Prop) (r1 r2 x y : Value) (hb : Below w0.heap.size w0 w) : Two2 w0 tX tY zX zY cX cY I1 I2 r1 r2 x y false false false false false false 0 0 0 0 0 0 w := by
  constructor <;> first | exact hb | (intro h; cases h)
theorem Two2.call1 (h : Two2 w0 tX tY zX zY cX cY I1 I2 r1 r2 x y false b3 b4 b5 b6 b7 l1 h1 l2 h2 bx bz w) {r : Value} (hb : Below w.heap.size w w') (hr : Stays (Made w.heap.size w'.heap.size) (I1 r) w') :
    Two2 w0 tX tY zX zY cX cY I1 I2 r r2 x y true b3 b4 b5 b6 b7 w.heap.size w'.heap.size l2 h2 bx bz w' := by
  have hs := hb.size
  have e6 : b6 = false := by cases b6; rfl; cases (h.late6 rfl).1
  have e7 : b7 = false := by cases b7; rfl; cases (h.late7 rfl).1
  subst e6 e7
  refine ⟨below_trans h.below hb, fun _ => ⟨Nat.le_refl _, h.below.size, hr⟩, fun e => ?_, fun e => ?_, fun e => ?_, h.ne, fun _ e hm => ?_, fun _ e hm => ?_, h.n3, h.n4, (fun e => by cases e), (fun e => by cases e)⟩
  · obtain ⟨g1, g2, g3⟩ := h.got2 e; exact ⟨by omega, g2, g3.below hb⟩
  · obtain ⟨g1, g2, g3, g4⟩ := h.isX e; exact ⟨g1, g2, by omega, g4.below hb⟩
  · obtain ⟨g1, g2, g3, g4⟩ := h.isY e; exact ⟨g1, g2, by omega, g4.below hb⟩
  · have := (h.isX e).2.2.1; unfold Made at hm; omega
  · have := (h.isY e).2.2.1; unfold Made at hm; omega
theorem Two2.call2 (h : Two2 w0 tX tY zX zY cX cY I1 I2 r1 r2 x y b1 false b4 b5 b6 b7 l1 h1 l2 h2 bx bz w) {r : Value} (hb : Below w.heap.size w w') (hr : Stays (Made w.heap.size w'.heap.size) (I2 r) w') :
    Two2 w0 tX tY zX zY cX cY I1 I2 r1 r x y b1 true b4 b5 b6 b7 l1 h1 w.heap.size w'.heap.size bx bz w' := by
  have hs := hb.size
  have e6 : b6 = false := by cases b6; rfl; cases (h.late6 rfl).2.1
  have e7 : b7 = false := by cases b7; rfl; cases (h.late7 rfl).2.1
  subst e6 e7
  refine ⟨below_trans h.below hb, fun e => ?_, fun _ => ⟨Nat.le_refl _, h.below.size, hr⟩, fun e => ?_, fun e => ?_, h.ne, h.n1, h.n2, fun _ e hm => ?_, fun _ e hm => ?_, (fun e => by cases e), (fun e => by cases e)⟩
  · obtain ⟨g1, g2, g3⟩ := h.got1 e; exact ⟨by omega, g2, g3.below hb⟩
  · obtain ⟨g1, g2, g3, g4⟩ := h.isX e; exact ⟨g1, g2, by omega, g4.below hb⟩
  · obtain ⟨g1, g2, g3, g4⟩ := h.isY e; exact ⟨g1, g2, by omega, g4.below hb⟩
  · have := (h.isX e).2.2.1; unfold Made at hm; omega
  · have := (h.isY e).2.2.1; unfold Made at hm; omega
theorem Two2.newX (h : Two2 w0 tX tY zX zY cX cY I1 I2 r1 r2 x y b1 b3 false b5 b6 b7 l1 h1 l2 h2 bx bz w) :
    Two2 w0 tX tY zX zY cX cY I1 I2 r1 r2 (.pointer (some ⟨w.heap.size, 0, none⟩)) y b1 b3 true b5 b6 b7 l1 h1 l2 h2 w.heap.size bz (w.alloc (.cells zX.toArray tX)) := by
  have hb := below_alloc (Below.refl w.heap.size w) (.cells zX.toArray tX)
  have hs : w.heap.size < (w.alloc (.cells zX.toArray tX)).heap.size := blk_lt (RowAt.new tX zX w)
  have e6 : b6 = false := by cases b6; rfl; cases (h.late6 rfl).2.2.1
  have e7 : b7 = false := by cases b7; rfl; cases (h.late7 rfl).2.2.1
  subst e6 e7
  refine ⟨below_trans h.below hb, fun e => ?_, fun e => ?_, fun _ => ⟨rfl, h.below.size, hs, RowAt.new _ _ _⟩, fun e => ?_, fun _ e => ?_, fun e _ hm => ?_, h.n2, fun e _ hm => ?_, h.n4, (fun e => by cases e), (fun e => by cases e)⟩
  · obtain ⟨g1, g2, g3⟩ := h.got1 e; exact ⟨by omega, g2, g3.below hb⟩
  · obtain ⟨g1, g2, g3⟩ := h.got2 e; exact ⟨by omega, g2, g3.below hb⟩
  · obtain ⟨g1, g2, g3, g4⟩ := h.isY e; exact ⟨g1, g2, by omega, g4.below hb⟩
  · have := (h.isY e).2.2.1; omega
  · have := (h.got1 e).1; unfold Made at hm; omega
  · have := (h.got2 e).1; unfold Made at hm; omega
theorem Two2.newY (h : Two2 w0 tX tY zX zY cX cY I1 I2 r1 r2 x y b1 b3 b4 false b6 b7 l1 h1 l2 h2 bx bz w) :
    Two2 w0 tX tY zX zY cX cY I1 I2 r1 r2 x (.pointer (some ⟨w.heap.size, 0, none⟩)) b1 b3 b4 true b6 b7 l1 h1 l2 h2 bx w.heap.size (w.alloc (.cells zY.toArray tY)) := by
  have hb := below_alloc (Below.refl w.heap.size w) (.cells zY.toArray tY)
  have hs : w.heap.size < (w.alloc (.cells zY.toArray tY)).heap.size := blk_lt (RowAt.new tY zY w)
  have e6 : b6 = false := by cases b6; rfl; cases (h.late6 rfl).2.2.2
  have e7 : b7 = false := by cases b7; rfl; cases (h.late7 rfl).2.2.2
  subst e6 e7
  refine ⟨below_trans h.below hb, fun e => ?_, fun e => ?_, fun e => ?_, fun _ => ⟨rfl, h.below.size, hs, RowAt.new _ _ _⟩, fun e _ => ?_, h.n1, fun e _ hm => ?_, h.n3, fun e _ hm => ?_, (fun e => by cases e), (fun e => by cases e)⟩
  · obtain ⟨g1, g2, g3⟩ := h.got1 e; exact ⟨by omega, g2, g3.below hb⟩
  · obtain ⟨g1, g2, g3⟩ := h.got2 e; exact ⟨by omega, g2, g3.below hb⟩
  · obtain ⟨g1, g2, g3, g4⟩ := h.isX e; exact ⟨g1, g2, by omega, g4.below hb⟩
  · have := (h.isX e).2.2.1; omega
  · have := (h.got1 e).1; unfold Made at hm; omega
  · have := (h.got2 e).1; unfold Made at hm; omega
theorem Two2.putX (h : Two2 w0 tX tY zX zY cX cY I1 I2 r1 r2 x y true true true true false b7 l1 h1 l2 h2 bx bz w) (hk : Chg (fun b => b = bx) w w') (hr : RowAt tX bx (cX r1) w') :
    Two2 w0 tX tY zX zY cX cY I1 I2 r1 r2 x y true true true true true b7 l1 h1 l2 h2 bx bz w' := by
  have hs := hk.size
  refine ⟨Chg.below h.below hk (fun k e => by subst e; exact (h.isX rfl).2.1), fun e => ?_, fun e => ?_, fun e => ?_, fun e => ?_, h.ne, h.n1, h.n2, h.n3, h.n4, fun _ => ⟨rfl, rfl, rfl, rfl⟩, fun _ => ⟨rfl, rfl, rfl, rfl⟩⟩
  · obtain ⟨g1, g2, g3⟩ := h.got1 e; exact ⟨by omega, g2, g3.chg hk (fun b e2 => by subst e2; exact h.n1 rfl rfl)⟩
  · obtain ⟨g1, g2, g3⟩ := h.got2 e; exact ⟨by omega, g2, g3.chg hk (fun b e2 => by subst e2; exact h.n3 rfl rfl)⟩
  · obtain ⟨g1, g2, g3, g4⟩ := h.isX e; exact ⟨g1, g2, by omega, hr⟩
  · obtain ⟨g1, g2, g3, g4⟩ := h.isY e; exact ⟨g1, g2, by omega, g4.chg hk (fun e2 => h.ne rfl rfl e2.symm)⟩
theorem Two2.putY (h : Two2 w0 tX tY zX zY cX cY I1 I2 r1 r2 x y true true true true b6 false l1 h1 l2 h2 bx bz w) (hk : Chg (fun b => b = bz) w w') (hr : RowAt tY bz (cY r2) w') :
    Two2 w0 tX tY zX zY cX cY I1 I2 r1 r2 x y true true true true b6 true l1 h1 l2 h2 bx bz w' := by
  have hs := hk.size
  refine ⟨Chg.below h.below hk (fun k e => by subst e; exact (h.isY rfl).2.1), fun e => ?_, fun e => ?_, fun e => ?_, fun e => ?_, h.ne, h.n1, h.n2, h.n3, h.n4, fun _ => ⟨rfl, rfl, rfl, rfl⟩, fun _ => ⟨rfl, rfl, rfl, rfl⟩⟩
  · obtain ⟨g1, g2, g3⟩ := h.got1 e; exact ⟨by omega, g2, g3.chg hk (fun b e2 => by subst e2; exact h.n2 rfl rfl)⟩
  · obtain ⟨g1, g2, g3⟩ := h.got2 e; exact ⟨by omega, g2, g3.chg hk (fun b e2 => by subst e2; exact h.n4 rfl rfl)⟩
  · obtain ⟨g1, g2, g3, g4⟩ := h.isX e; exact ⟨g1, g2, by omega, g4.chg hk (fun e2 => h.ne rfl rfl e2)⟩
  · obtain ⟨g1, g2, g3, g4⟩ := h.isY e; exact ⟨g1, g2, by omega, hr⟩
end
end Go.Proofs.YtjghibdlmmjobaaGreatDoor

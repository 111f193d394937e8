/- A region that draws its order, whose last operations come one behind the other behind all others: its head by what holds behind any of its operations, its tail as it stands. No condition. A state of the call's own at a place of its own: its five cells, its frames, its trace. Plain definitions and lemmas. 'step.Copy': a state of the call's own, the same. Conditions: the state lies in memory; no list is longer than the reach. -/
import Derived.Test.YtjghibdlmmjobaaGreatDoorGZ20
import Derived.StillTail
import Derived.Test.YtjghibdlmmjobaaGreatDoorGZ17
import Derived.Test.YtjghibdlmmjobaaGreatDoorGZ15
namespace Go.Proofs.YtjghibdlmmjobaaGreatDoor
open Go.RowKit

section
variable {P : Program} {Q : Exit → Act → World → Prop}
/-- Each operation of the head waits for earlier ones alone. -/
def backB (md : Region.Mode) (ops : Array Oper) (n : Nat) : Bool := (List.range n).all fun i => match ops[i]? with | some o => o.after.all fun e => !Region.binds md e || decide (e.on < i) | none => false
theorem some_ready {md : Region.Mode} {ops : Array Oper} {n : Nat} (hb : backB md ops n = true) {l : Array Bool} (hl : l.size = ops.size) (hn : n ≤ ops.size) : ∀ i, i < n → l.getD i true = false → Region.ready md ops l ≠ [] := by
  intro i
  induction i using Nat.strongRecOn with
  | _ i ih =>
    intro hi hu
    have hB := List.all_eq_true.1 hb i (List.mem_range.2 hi)
    have hio : i < ops.size := by omega
    rw [Array.getElem?_eq_getElem hio] at hB
    simp only at hB
    by_cases hall : ∀ e ∈ ops[i].after, Region.binds md e = true → l.getD e.on false = true
    · have hm : i ∈ Region.ready md ops l := mem_ready.2 ⟨hu, ops[i], Array.getElem?_eq_getElem hio, hall⟩
      exact fun h0 => by rw [h0] at hm; cases hm
    · have hex : ∃ e, e ∈ ops[i].after ∧ Region.binds md e = true ∧ ¬ l.getD e.on false = true := Classical.byContradiction fun hne => hall fun e he hb2 => Classical.byContradiction fun hf => hne ⟨e, he, hb2, hf⟩
      obtain ⟨e, he, hbe, hf⟩ := hex
      have h2 := Array.all_eq_true'.1 hB e he
      rw [hbe] at h2
      simp only [Bool.not_true, Bool.false_or, decide_eq_true_eq] at h2
      have hel : e.on < l.size := by omega
      exact ih e.on h2 (by omega) (getD_in hel (by simpa using hf))
theorem wpAny_inv_tail {md : Region.Mode} {ops : Array Oper} {n g : Nat} (hn : n < ops.size) (hs : Region.sinkB md ops n = true) (hc : Region.chainB md ops n = true) (hk : backB md ops n = true) (J : Array Bool → Act → World → Prop)
    (hend : ∀ l a w, J l a w → (∀ i, i < n → l.getD i false = true) → HeadInv md ops n l → wpAny P md ops Q g l a w)
    (hstep : ∀ l a w i, J l a w → i < n → i ∈ Region.ready md ops l → wpOp P ops Q i (fun a' w' => J (l.setIfInBounds i true) a' w') a w) :
    ∀ (f : Nat) (l : Array Bool) (a : Act) (w : World), J l a w → HeadInv md ops n l → ((l.toList.take n).count false) = f → wpAny P md ops Q (f + g) l a w := by
  intro f
  induction f with
  | zero =>
    intro l a w hJ inv hcn
    rw [Nat.zero_add]
    refine hend l a w hJ (fun i hi => ?_) inv
    have hil : i < l.size := by rw [inv.size]; omega
    cases hb : l.getD i false with
    | true => rfl
    | false =>
      have e : l[i] = false := by simpa [Array.getD, hil] using hb
      have hm : false ∈ l.toList.take n := by
        rw [List.mem_iff_getElem]
        exact ⟨i, by simp; omega, by simpa using e⟩
      exact absurd (List.count_eq_zero.1 hcn) (by simpa using hm)
  | succ f ih =>
    intro l a w hJ inv hcn
    have hun : ∃ i, i < n ∧ l.getD i true = false := by
      have hm : false ∈ l.toList.take n := List.count_pos_iff.1 (by omega)
      obtain ⟨i, hi, e⟩ := List.mem_iff_getElem.1 hm
      have hi' : i < n ∧ i < l.size := by simp at hi; omega
      exact ⟨i, hi'.1, by simp [Array.getD, hi'.2]; simpa using e⟩
    obtain ⟨i0, hi0, hu0⟩ := hun
    have hw := tail_waits hs hc hn inv (n - i0) i0 rfl hi0 hu0
    have hready : Region.ready md ops l ≠ [] := some_ready hk inv.size (by omega) i0 hi0 hu0
    rw [show f + 1 + g = (f + g) + 1 by omega]
    refine ⟨fun h0 => absurd h0 hready, fun i hi => ?_⟩
    have hin : i < n := Nat.lt_of_not_le fun h => hw i h hi
    refine wpOp_mono (fun a' w' h' => ih _ a' w' h' (inv.set hi hin) ?_) (hstep l a w i hJ hin hi)
    have hu := (mem_ready.1 hi).1
    have hil : i < l.size := by rw [inv.size]; omega
    have e : l.toList[i]'(by simpa using hil) = false := by simpa [Array.getD, hil] using hu
    rw [Array.toList_setIfInBounds, List.take_set]
    have hit : i < (l.toList.take n).length := by simp; omega
    rw [List.count_set hit]
    have e2 : (l.toList.take n)[i] = false := by rw [List.getElem_take]; exact e
    have : 0 < (l.toList.take n).count false := List.count_pos_iff.2 (e2 ▸ List.getElem_mem hit)
    rw [e2]
    simp only [beq_self_eq_true, if_true, show (true == false) = false from rfl, Bool.false_eq_true, if_false]
    omega
theorem ready_needs {md : Region.Mode} {ops : Array Oper} {l : Array Bool} {i k : Nat} (h : i ∈ Region.ready md ops l) (hk : Region.waitsFor md ops i k = true) : l.getD k false = true := by
  obtain ⟨_, o, ho, hall⟩ := mem_ready.1 h
  obtain ⟨o', ho', e, he, hb, hon⟩ := Region.waitsFor_spec hk
  obtain rfl : o' = o := Option.some.inj (ho'.symm.trans ho)
  exact hon ▸ hall e he hb
theorem ready_not {md : Region.Mode} {ops : Array Oper} {l : Array Bool} {i : Nat} (h : i ∈ Region.ready md ops l) : ¬ l.getD i false = true := by
  rw [getD_both (mem_ready.1 h).1]; exact fun h => by cases h
theorem wpOp_via {P : Program} {ops : Array Oper} {Q : Exit → Act → World → Prop} {i : Nat} {K : Act → World → Prop} {a : Act} {w : World} (h : ∀ K' : Act → World → Prop, (∀ a w, K a w → K' a w) → wpOp P ops Q i K' a w) : wpOp P ops Q i K a w := h K (fun _ _ h => h)
theorem set_back {l : Array Bool} {i j : Nat} (hij : i ≠ j) (h : (l.setIfInBounds i true).getD j false = true) : l.getD j false = true := by rwa [getD_set_ne false hij] at h
/-- The region: its head by an invariant, its tail as a list. -/
theorem wp_region_inv_tail {id : Nat} {a : Act} {w : World} {l : List Oper} (n : Nat) (hm : P.follows .mixedOrders = true) (hB : (decide (n < l.length) && Region.sinkB .any l.toArray n && Region.chainB .any l.toArray n && backB .any l.toArray n && Region.seqB .any l.toArray (l.length - n) n ((List.replicate n true) ++ List.replicate (l.length - n) false).toArray) = true)
    (J : Array Bool → Act → World → Prop) (h0 : J (Array.replicate l.length false) a w.drew) (hstep : ∀ lst a w i, J lst a w → i < n → i ∈ Region.ready .any l.toArray lst → wpOp P l.toArray Q i (fun a' w' => J (lst.setIfInBounds i true) a' w') a w)
    (hend : ∀ a w, J ((List.replicate n true) ++ List.replicate (l.length - n) false).toArray a w → wpList P l.toArray Q (l.drop n) a w) : (Code.region id l.toArray true).wp P Q a w := by
  simp only [Bool.and_eq_true, decide_eq_true_eq] at hB
  obtain ⟨⟨⟨⟨hn, hs⟩, hc⟩, hk⟩, hseq⟩ := hB
  have hn' : n < l.toArray.size := by simpa using hn
  refine wp_region_any hm ?_
  have inv0 : HeadInv .any l.toArray n (Array.replicate l.toArray.size false) :=
    ⟨by simp, fun j oj _ hl => (by rw [getD_replicate_false] at hl; cases hl), fun t _ ht => getD_in (by simpa using ht) (getD_replicate_false _ _)⟩
  have H := wpAny_inv_tail (P := P) (Q := Q) (g := l.length - n) hn' hs hc hk J (fun lst a w hJ hall inv => by
    have e : lst = ((List.replicate n true) ++ List.replicate (l.length - n) false).toArray := by
      apply Array.ext
      · rw [inv.size]; simp; omega
      · intro i h1 h2
        have hil : i < l.length := by rw [inv.size] at h1; simpa using h1
        by_cases hi : i < n
        · have := hall i hi
          simp only [Array.getD, h1, dite_true] at this
          simp only [List.getElem_toArray]
          rw [List.getElem_append_left (by simpa using hi)]
          simpa using this
        · have := inv.tail i (by omega) (by simpa using hil)
          simp only [Array.getD, h1, dite_true] at this
          simp only [List.getElem_toArray]
          rw [List.getElem_append_right (by simp; omega)]
          simpa using this
    rw [e] at hJ ⊢
    have := wpAny_of_seq (md := .any) (Q' := Q) (l.drop n) n _ a w (fun j => by simp [List.getElem?_drop]) (by rw [List.length_drop]; exact hseq) (hend a w hJ)
    rwa [List.length_drop] at this) hstep n (Array.replicate l.toArray.size false) a w.drew (by simpa using h0) inv0 (by simp [List.take_replicate]; omega)
  rw [show n + (l.length - n) = l.toArray.size by simp; omega] at H
  exact H
end
end Go.Proofs.YtjghibdlmmjobaaGreatDoor

namespace Go.Proofs.YtjghibdlmmjobaaGreatDoor
open Go.RowKit

def sttC (s : Stt) (fv ov : Value) : List Value := [fv, .int .i64 s.fuel, ov, .int .i64 s.done, .int .i64 s.value]
structure StAt (w : World) (base sb : Nat) (s : Stt) (fv ov : Value) (vss : List (List Value)) : Prop where
  row : RowAt 57 sb (sttC s fv ov) w
  own : OwnS w base s fv ov vss
  ns : ¬ FrB fv vss sb
  no : ob ov ≠ some sb
/-- The blocks of a state. -/
def StB (sb : Nat) (fv ov : Value) (vss : List (List Value)) (b : Nat) : Prop := b = sb ∨ FrB fv vss b ∨ ob ov = some b
section
variable {w w1 w2 : World} {base sb : Nat} {s s' : Stt} {fv ov fv' ov' : Value} {vss vss' : List (List Value)}
theorem StAt.lt (h : StAt w base sb s fv ov vss) : sb < w.heap.size := blk_lt h.row
theorem StAt.old (h : StAt w base sb s fv ov vss) : ∀ b, StB sb fv ov vss b → b < w.heap.size := fun b hb => by
  rcases hb with e | ⟨u, hu, e⟩ | e
  · exact e ▸ h.lt
  · exact (OwnG.lo h.own.fr u hu b e).2
  · exact (h.own.out.in_ b e).2
theorem StAt.chg {S : Nat → Prop} (h : StAt w base sb s fv ov vss) (hk : Chg S w w1) (hn : ∀ b, StB sb fv ov vss b → ¬ S b) : StAt w1 base sb s fv ov vss :=
  ⟨h.row.chg hk (hn _ (.inl rfl)), ⟨OwnG.chg h.own.fr hk (fun u hu b hb => hn b (.inr (.inl ⟨u, hu, hb⟩))), h.own.out.chg hk (fun b hb => hn b (.inr (.inr hb))), h.own.sep⟩, h.ns, h.no⟩
theorem StAt.below (h : StAt w base sb s fv ov vss) (hb : Below w.heap.size w w1) : StAt w1 base sb s fv ov vss := h.chg (S := fun _ => False) (Chg.of_below hb) (fun _ _ h => h)
theorem StAt.cells (h : StAt w base sb s fv ov vss) : w.cell? ⟨sb, 0, none⟩ = some fv ∧ w.cell? ⟨sb, 1, none⟩ = some (.int .i64 s.fuel) ∧ w.cell? ⟨sb, 2, none⟩ = some ov ∧ w.cell? ⟨sb, 3, none⟩ = some (.int .i64 s.done) ∧ w.cell? ⟨sb, 4, none⟩ = some (.int .i64 s.value) ∧ ∀ k, w.frozen? ⟨sb, k, none⟩ = false :=
  ⟨h.row.cell (k := 0) (by simp [sttC]), h.row.cell (k := 1) (by simp [sttC]), h.row.cell (k := 2) (by simp [sttC]), h.row.cell (k := 3) (by simp [sttC]), h.row.cell (k := 4) (by simp [sttC]), fun k => h.row.free k⟩
theorem StAt.put (h : StAt w base sb s fv ov vss) (k : Nat) (x : Value) (s' : Stt) (hr : sttC s' fv ov = (sttC s fv ov).set k x) (hf : s'.frames = s.frames) (ho : s'.out = s.out) : StAt (w.setCell ⟨sb, k, none⟩ x) base sb s' fv ov vss := by
  have kc : Chg (fun b => b = sb) w (w.setCell ⟨sb, k, none⟩ x) := Chg.put (S := fun b => b = sb) (Chg.refl _ w) (a := ⟨sb, k, none⟩) rfl x
  have hp := h.row.put k x
  rw [← hr] at hp
  refine ⟨hp, ⟨?_, ?_, h.own.sep⟩, h.ns, h.no⟩
  · rw [hf]; exact OwnG.chg h.own.fr kc (fun u hu b hb e => h.ns (e ▸ ⟨u, hu, hb⟩))
  · rw [ho]; exact h.own.out.chg kc (fun b hb e => h.no (e ▸ hb))
/-- Other frames in its frames' place. -/
theorem StAt.fr (h : StAt w base sb s fv ov vss) {fs : List Frm} (ho : OwnFr w1 base fv' fs vss') (hk : Chg (FrB fv vss) w w1) (hn : ∀ b, FrB fv' vss' b → FrB fv vss b ∨ w.heap.size ≤ b) : StAt (w1.setCell ⟨sb, 0, none⟩ fv') base sb ⟨fs, s.fuel, s.out, s.done, s.value⟩ fv' ov vss' := by
  have kc : Chg (fun b => b = sb) w1 (w1.setCell ⟨sb, 0, none⟩ fv') := Chg.put (S := fun b => b = sb) (Chg.refl _ w1) (a := ⟨sb, 0, none⟩) rfl fv'
  have hp := (h.row.chg hk h.ns).put 0 fv'
  have ns : ¬ FrB fv' vss' sb := fun e => (hn sb e).elim h.ns (fun e => by have := h.lt; omega)
  have ho1 := h.own.out.chg hk (fun b hb ⟨u, hu, e⟩ => h.own.sep u hu b e hb)
  refine ⟨hp, ⟨OwnG.chg ho kc (fun u hu b hb e => ns (e ▸ ⟨u, hu, hb⟩)), ho1.chg kc (fun b hb e => h.no (e ▸ hb)), fun u hu b hb e => ?_⟩, ns, h.no⟩
  rcases hn b ⟨u, hu, hb⟩ with ⟨u', hu', e'⟩ | e'
  · exact h.own.sep u' hu' b e' e
  · have := (h.own.out.in_ b e).2; omega
/-- Its frames turned where they lie. -/
theorem StAt.fr0 (h : StAt w base sb s fv ov vss) {fs : List Frm} (ho : OwnFr w1 base fv fs vss') (hk : Chg (FrB fv vss) w w1) (hn : ∀ b, FrB fv vss' b → FrB fv vss b ∨ w.heap.size ≤ b) : StAt w1 base sb ⟨fs, s.fuel, s.out, s.done, s.value⟩ fv ov vss' := by
  have ns : ¬ FrB fv vss' sb := fun e => (hn sb e).elim h.ns (fun e => by have := h.lt; omega)
  refine ⟨h.row.chg hk h.ns, ⟨ho, h.own.out.chg hk (fun b hb ⟨u, hu, e⟩ => h.own.sep u hu b e hb), fun u hu b hb e => ?_⟩, ns, h.no⟩
  rcases hn b ⟨u, hu, hb⟩ with ⟨u', hu', e'⟩ | e'
  · exact h.own.sep u' hu' b e' e
  · have := (h.own.out.in_ b e).2; omega
/-- Another trace in its trace's place. -/
theorem StAt.trace (h : StAt w base sb s fv ov vss) {out : List Int} (ho : CRow w1 base 3 1 ov' out.length (intsV out)) (hk : Chg (fun b => ob ov = some b) w w1) (hn : ∀ b, ob ov' = some b → ob ov = some b ∨ w.heap.size ≤ b) : StAt (w1.setCell ⟨sb, 2, none⟩ ov') base sb ⟨s.frames, s.fuel, out, s.done, s.value⟩ fv ov' vss := by
  have kc : Chg (fun b => b = sb) w1 (w1.setCell ⟨sb, 2, none⟩ ov') := Chg.put (S := fun b => b = sb) (Chg.refl _ w1) (a := ⟨sb, 2, none⟩) rfl ov'
  have hp := (h.row.chg hk h.no).put 2 ov'
  have no : ob ov' ≠ some sb := fun e => (hn sb e).elim h.no (fun e => by have := h.lt; omega)
  have hf := OwnG.chg h.own.fr hk (fun u hu b hb e => h.own.sep u hu b hb e)
  refine ⟨hp, ⟨OwnG.chg hf kc (fun u hu b hb e => h.ns (e ▸ ⟨u, hu, hb⟩)), ho.chg kc (fun b hb e => no (e ▸ hb)), fun u hu b hb e => ?_⟩, h.ns, no⟩
  rcases hn b e with e' | e'
  · exact h.own.sep u hu b hb e'
  · have := (OwnG.lo h.own.fr u hu b hb).2; omega
/-- No frames any more. -/
theorem StAt.none (h : StAt w base sb s fv ov vss) : StAt (w.setCell ⟨sb, 0, none⟩ (.slice none 0 0)) base sb ⟨[], s.fuel, s.out, s.done, s.value⟩ (.slice none 0 0) ov [] :=
  h.fr (OwnG.nil _ _ _) (Chg.refl _ _) (fun b ⟨u, hu, e⟩ => by
    simp at hu
    subst hu; cases e)
/-- A call that turns a state. -/
def RunE (s' : Stt) (base sb : Nat) (fv ov : Value) (vss : List (List Value)) (w : World) (e : Ending) (w' : World) : Prop :=
  ∃ fv' ov' vss', e = .returned (.tuple #[]) ∧ StAt w' base sb s' fv' ov' vss' ∧ Chg (StB sb fv ov vss) w w' ∧ ∀ b, StB sb fv' ov' vss' b → StB sb fv ov vss b ∨ w.heap.size ≤ b
theorem StB.new {N : Nat} (hf : ∀ b, FrB fv' vss' b → FrB fv vss b ∨ N ≤ b) (ho : ∀ b, ob ov' = some b → ob ov = some b ∨ N ≤ b) : ∀ b, StB sb fv' ov' vss' b → StB sb fv ov vss b ∨ N ≤ b := fun b hb => by
  rcases hb with e | e | e
  · exact .inl (.inl e)
  · exact (hf b e).imp (fun h => .inr (.inl h)) id
  · exact (ho b e).imp (fun h => .inr (.inr h)) id
theorem FrB.nil {b : Nat} (h : FrB (.slice none 0 0) [] b) : False := by
  obtain ⟨x, hx, e⟩ := h
  simp at hx
  subst hx; cases e
end
theorem wp_region_inv_n {P : Program} {ops : Array Oper} {Q : Exit → Act → World → Prop} {id : Nat} {a : Act} {w : World} (n : Nat) (hn : ops.size = n) (hm : P.follows .mixedOrders = true) (J : Array Bool → Act → World → Prop) (h0 : J (Array.replicate n false) a w.drew)
    (hend : ∀ l a w, J l a w → Region.ready .any ops l = [] → Q .normal a w)
    (hstep : ∀ l a w i, J l a w → i ∈ Region.ready .any ops l → wpOp P ops Q i (fun a' w' => J (l.setIfInBounds i true) a' w') a w) : (Code.region id ops true).wp P Q a w := by
  subst hn
  exact wp_region_inv hm J h0 hend hstep
/-- 'append' at a step of a region that draws its order, by its run. -/
theorem step_append_run {P : Program} {ops : Array Oper} {o : Oper} {a : Act} {w : World} {K : Act → World → Prop} {Q : Exit → Act → World → Prop} {E : Prop} (hgd : o.guard = none) (s x : Operand) (ts tx : TypeId)
    (ho : o.op = .call { callee := .builtin .append, args := #[s, x], argTypes := #[ts, tx] }) (v xv : Value) (hs : a.eval s = v) (hx : a.eval x = xv) {v' : Value} {w' : World} (hrun : (Builtin.append_ #[ts, tx] o.type #[v, xv]).run P w = .ok v' w') (h : K (a.put o.dst v') w') :
    if Region.wanted o (yielded ops a.tmps) = true then Oper.wp P o a w K Q else E := by
  have hw : Region.wanted o (yielded ops a.tmps) = true := by simp [Region.wanted, hgd]
  rw [if_pos hw]
  unfold Oper.wp
  simp [execOp, ho, resolve, invoke, builtin, hs, hx, hrun, Result.andThen]
  exact h
theorem ready_no {md : Region.Mode} {ops : Array Oper} {l : Array Bool} {i : Nat} (h : i ∈ Region.ready md ops l) : l.getD i false = false := by
  cases hb : l.getD i false with
  | false => rfl
  | true => exact absurd hb (ready_not h)
theorem getD_set_is {l : Array Bool} {i : Nat} (h : i < l.size) : (l.setIfInBounds i true).getD i false = true := by simp [Array.getD, h]
theorem all_come {md : Region.Mode} {ops : Array Oper} {n : Nat} {l : Array Bool} (hn : ops.size = n) (hl : l.size = n) (hb : backB md ops n = true) (h : Region.ready md ops l = []) : ∀ i, i < n → l.getD i false = true := fun i hi => by
  have hil : i < l.size := by omega
  cases ht : l.getD i true with
  | true => simpa [Array.getD, hil] using ht
  | false => exact absurd h (some_ready hb (by omega) (by omega) i hi ht)
theorem wp_region_via {P : Program} {ops : Array Oper} {Q : Exit → Act → World → Prop} {id : Nat} {a : Act} {w : World} (R : Act → World → Prop) (h : ∀ Q' : Exit → Act → World → Prop, (∀ a' w', R a' w' → Q' .normal a' w') → (Code.region id ops true).wp P Q' a w) (hR : ∀ a' w', R a' w' → Q .normal a' w') : (Code.region id ops true).wp P Q a w := h Q hR
/-- A call that turns a frame, beside a new place for what it tells: what holds while they come up in any order. -/
def RunPh (w : World) (base g off : Nat) (F : Frm) (v1 v2 : Value) (args : List Int) (z : List Value) (bc ba : Bool) (u va : Value) (xb : Nat) (W : World) : Prop :=
  (bc = false → Below w.heap.size w W) ∧ (bc = true → FTurn w W base g off F v1 v2 u ∧ InnAt W w.heap.size va (innI args) ∧ ∀ b, ob va = some b → ob u ≠ some b) ∧
    (ba = true → RowAt 95 xb z W ∧ w.heap.size ≤ xb ∧ (bc = true → ob u ≠ some xb ∧ ob va ≠ some xb))
section
variable {w W W' : World} {base g off xb : Nat} {f F : Frm} {v1 v2 u va u' va' : Value} {args : List Int} {z z' : List Value} {bc ba : Bool}
theorem RunPh.start (hb : Below w.heap.size w W) : RunPh w base g off F v1 v2 args z false false u va xb W := ⟨fun _ => hb, (fun e => by cases e), (fun e => by cases e)⟩
theorem RunPh.call (h : RunPh w base g off F v1 v2 args z false ba u va xb W) (hf : FAt w base g off f v1 v2) (ht : FTurn W W' base g off F v1 v2 u') (hi : InnAt W' W.heap.size va' (innI args)) (hd : ∀ b, ob va' = some b → ob u' ≠ some b) : RunPh w base g off F v1 v2 args z true ba u' va' xb W' := by
  have hb := h.1 rfl
  refine ⟨(fun e => by cases e), fun _ => ⟨FTurn.before hf hb ht, CRow.mono hi hb.size, hd⟩, fun e => ?_⟩
  obtain ⟨hr, hx, _⟩ := h.2.2 e
  have ap := hf.apart hx
  refine ⟨ht.row hr ap.1 ap.2.1 ap.2.2, hx, fun _ => ⟨fun e => ?_, fun e => ?_⟩⟩
  · rcases ht.new _ e with e | e
    · exact ap.2.2 e
    · have := blk_lt hr; omega
  · have := (CRow.in_ hi _ e).1; have := blk_lt hr; omega
theorem RunPh.alloc (h : RunPh w base g off F v1 v2 args z bc false u va xb W) : RunPh w base g off F v1 v2 args z bc true u va W.heap.size (W.alloc (.cells z.toArray 95)) := by
  have b := below_alloc (Below.refl W.heap.size W) (.cells z.toArray 95)
  refine ⟨fun e => below_trans (h.1 e) b, fun e => ?_, fun _ => ⟨RowAt.new _ _ _, ?_, fun e => ⟨fun e2 => ?_, fun e2 => ?_⟩⟩⟩
  · obtain ⟨h1, h2, h3⟩ := h.2.1 e
    exact ⟨h1.after b, CRow.below h2 b, h3⟩
  · cases bc with
    | false => exact (h.1 rfl).size
    | true => exact (h.2.1 rfl).1.chg.size
  · have := ((h.2.1 e).1.at_.lo2 _ e2).2; omega
  · have := (CRow.in_ (h.2.1 e).2.1 _ e2).2; omega
theorem RunPh.store (h : RunPh w base g off F v1 v2 args z true true u va xb W) (hf : FAt w base g off f v1 v2) (hk : Chg (fun b => b = xb) W W') (hr : RowAt 95 xb z' W') : RunPh w base g off F v1 v2 args z' true true u va xb W' := by
  obtain ⟨h1, h2, h3⟩ := h.2.1 rfl
  obtain ⟨h4, h5, h6⟩ := h.2.2 rfl
  obtain ⟨n1, n2⟩ := h6 rfl
  have ap := hf.apart h5
  exact ⟨(fun e => by cases e), fun _ => ⟨h1.past hk h5 ap.1 ap.2.1 n1, h2.chg1 hk n2, h3⟩, fun _ => ⟨hr, h5, fun _ => ⟨n1, n2⟩⟩⟩
theorem RunPh.row {t b : Nat} {cs : List Value} (h : RunPh w base g off F v1 v2 args z bc ba u va xb W) (hr : RowAt t b cs w) (hg : b ≠ g) (h1 : ob v1 ≠ some b) (h2 : ob v2 ≠ some b) : RowAt t b cs W := by
  cases bc with
  | false => exact hr.below (h.1 rfl)
  | true => exact (h.2.1 rfl).1.row hr hg h1 h2
end
end Go.Proofs.YtjghibdlmmjobaaGreatDoor

namespace Go.Proofs.YtjghibdlmmjobaaGreatDoor
open Go.RowKit

/-- A frame, with rows of its own from here on. -/
theorem OwnFrU.step {w wa : World} {base g off n cap k : Nat} {r : List Frm} {vs : List (List Value)} (h : OwnU KFr w base (.slice (some ⟨g, off, none⟩) n cap) r vs k) (hk : k < r.length) (hb : Below w.heap.size w wa) {u1 u2 : Value} (hB : Build wa w.heap.size [u1, u2] (KFr.rows r[k])) (hbase : base ≤ w.heap.size) :
    OwnU KFr ((((wa.setCell ⟨g, off + k * 4, none⟩ (.int .i64 r[k].fn)).setCell ⟨g, off + k * 4 + 1, none⟩ (.int .i64 r[k].pc)).setCell ⟨g, off + k * 4 + 2, none⟩ u1).setCell ⟨g, off + k * 4 + 3, none⟩ u2) base (.slice (some ⟨g, off, none⟩) n cap) r (vs.set k [u1, u2]) (k + 1) := by
  have hl := h.len
  have hzl : (List.zipWith KFr.cells r vs).length = r.length := by simp [hl]
  obtain ⟨_, _, e2, hnc, _⟩ := h.row.shape
  injection e2 with _ e2 e3
  subst e2 e3
  have hob : ob (.slice (some ⟨g, off, none⟩) r.length cap) = some g := ob_some (by omega)
  have hgl := (h.row.in_ g hob).2
  have r0 := h.row.below hb
  have hki : k < (List.zipWith KFr.cells r vs).length := by omega
  rw [show List.zipWith KFr.cells r vs = (List.zipWith KFr.cells r vs).set k ((List.zipWith KFr.cells r vs)[k]) from (List.set_getElem_self _).symm] at r0
  have hL := zip_len KFr r vs
  have l0 : ((List.zipWith KFr.cells r vs)[k]).length = 4 := hL _ (List.getElem_mem hki)
  have r1 := CRow.elt_put' hL hki l0 r0 (j := 0) (by decide) (.int .i64 r[k].fn)
  have r2 := CRow.elt_put' hL hki (by rw [List.length_set]; exact l0) r1 (j := 1) (by decide) (.int .i64 r[k].pc)
  have r3 := CRow.elt_put' hL hki (by rw [List.length_set, List.length_set]; exact l0) r2 (j := 2) (by decide) u1
  have r4 := CRow.elt_put' hL hki (by rw [List.length_set, List.length_set, List.length_set]; exact l0) r3 (j := 3) (by decide) u2
  have e : (((((List.zipWith KFr.cells r vs)[k]).set 0 (.int .i64 r[k].fn)).set 1 (.int .i64 r[k].pc)).set 2 u1).set 3 u2 = KFr.cells r[k] [u1, u2] := by
    rw [List.getElem_zipWith]; rfl
  rw [e, zip_set KFr hk hl, List.set_getElem_self] at r4
  have c1 : Chg (fun b => b = g) wa ((((wa.setCell ⟨g, off + k * 4, none⟩ (.int .i64 r[k].fn)).setCell ⟨g, off + k * 4 + 1, none⟩ (.int .i64 r[k].pc)).setCell ⟨g, off + k * 4 + 2, none⟩ u1).setCell ⟨g, off + k * 4 + 3, none⟩ u2) :=
    ((((Chg.refl (fun b => b = g) wa).put (a := ⟨g, off + k * 4, none⟩) rfl _).put (a := ⟨g, off + k * 4 + 1, none⟩) rfl _).put (a := ⟨g, off + k * 4 + 2, none⟩) rfl _).put (a := ⟨g, off + k * 4 + 3, none⟩) rfl _
  exact OwnU.step h hk ((Chg.of_below (S := fun b => ob (.slice (some ⟨g, off, none⟩) r.length cap) = some b) hb).trans c1 (fun i _ e => by subst e; exact hob)) (hB.chg c1 (fun b e => by omega)) (Nat.le_refl _) hbase r4
set_option maxRecDepth 100000 in
set_option maxHeartbeats 8000000 in
theorem scopy_any {w : World} {sb c co : Nat} {s : Stt} {A Ao : Option Addr} (hS : RowAt 57 sb (sttC s (.slice A s.frames.length c) (.slice Ao s.out.length co)) w) (hr : ReadsS w s A Ao) (hz : FitS s) :
    Calls Tryz.prog 80 #[.pointer (some ⟨sb, 0, none⟩)] w (CopyE s w) := by
  obtain ⟨fs, fuel, out, done, value⟩ := s
  obtain ⟨hf, ho⟩ := hr
  obtain ⟨z1, z2, z3⟩ := hz
  unfold sttC at hS
  simp only at hS hf ho z1 z2 z3
  obtain ⟨vss, hl, hv, hc⟩ := frm_rows hf
  have hn := hf.1
  have hno := ho.1
  obtain ⟨w1, hw1⟩ : ∃ w1, w.alloc (.cells #[.slice none 0 0, .int .i64 0, .slice none 0 0, .int .i64 0, .int .i64 0] 57) = w1 := ⟨_, rfl⟩
  obtain ⟨w2, hw2⟩ : ∃ w2, w1.alloc (.cells #[.slice A fs.length c, .int .i64 fuel, .slice Ao out.length co, .int .i64 done, .int .i64 value] 57) = w2 := ⟨_, rfl⟩
  have b1 : Below w.heap.size w w1 := hw1 ▸ below_alloc (Below.refl _ _) _
  have b2 : Below w1.heap.size w1 w2 := hw2 ▸ below_alloc (Below.refl _ _) _
  have y1 : w1.heap.size = w.heap.size + 1 := by rw [← hw1]; simp
  have y2 : w2.heap.size = w.heap.size + 2 := by rw [← hw2]; simp [y1]
  have r1 : RowAt 57 w.heap.size [.slice none 0 0, .int .i64 0, .slice none 0 0, .int .i64 0, .int .i64 0] w2 := (hw1 ▸ RowAt.new _ _ w : RowAt 57 w.heap.size _ w1).below b2
  have r2 : RowAt 57 w1.heap.size [.slice A fs.length c, .int .i64 fuel, .slice Ao out.length co, .int .i64 done, .int .i64 value] w2 := hw2 ▸ RowAt.new _ _ w1
  have b02 := below_trans b1 b2
  have s1 := hS.below b1
  have p0 := s1.cell (k := 0) (by simp)
  have p1 := s1.cell (k := 1) (by simp)
  have p2 := s1.cell (k := 2) (by simp)
  have p3 := s1.cell (k := 3) (by simp)
  have p4 := s1.cell (k := 4) (by simp)
  have s2 := s1.below b2
  have d0 := s2.cell (k := 0) (by simp)
  have d2 := s2.cell (k := 2) (by simp)
  simp only [List.getElem_cons_zero, List.getElem_cons_succ] at p0 p1 p2 p3 p4 d0 d2
  have HC1 := Lib.hid (show ∀ W', Below w2.heap.size w2 W' → Calls Tryz.prog 127 #[.slice A fs.length c] W' (CloneF fs vss W') from fun W' h => cloneF_any A c fs vss W' z1 hl (fun k hk hk' => by
    obtain ⟨A1, n1, A2, n2, e, _⟩ := hv k hk hk'
    exact ⟨A1, n1, A2, n2, e⟩) (fun h0 => by
    obtain ⟨ad, e, hcc⟩ := hc h0
    exact ⟨ad, e, fun j u hu => cell_below (below_trans b02 h) (hcc j u hu)⟩))
  have HC2 := Lib.hid (show ∀ W', Below w2.heap.size w2 W' → Calls Tryz.prog 103 #[.slice Ao out.length co] W' (CloneE 3 1 out.length (intsV out) W') from fun W' h => cloneI_any Ao co out W' (ho.below (below_trans b02 h)) z2)
  have R1 := Lib.hid r1
  have R2 := Lib.hid r2
  have Y1 := Lib.hid y1
  have Y2 := Lib.hid y2
  have B02 := Lib.hid b02
  have HV := Lib.hid hv
  have HL := Lib.hid hl
  have Z3 := Lib.hid z3
  clear hS hf ho hc hv hl z1 z2 z3 b1 b2 y1 y2 r1 r2 b02 s1 s2
  go_enter Tryz.func80, Tryz.ntmps80
  go_upto_region 2 with fail
  clear hw1 hw2
  go_region_with
    (first | ((go_at_call 127; (with_reducible refine (HC1.out _ (below_drw (Below.refl _ _))).mono ?_); rintro e wj ⟨aj, cj, rfl, hcj, hbj⟩; have HCJ := Lib.hid hcj; have HBJ := Lib.hid hbj; have HWJ := Lib.hid (below_trans (below_drw (Below.refl w2.heap.size w2)) hbj); have t0 := cell_below HWJ.out d0; have t2 := cell_below HWJ.out d2; clear hcj hbj)) | ((go_at_call 103; (with_reducible refine (HC2.out _ HWJ.out).mono ?_); rintro e wf ⟨af, cf, rfl, hcf, hbf⟩; have HCF := Lib.hid hcf; have HBF := Lib.hid hbf; have HWF := Lib.hid (below_trans HWJ.out hbf); have u0 := cell_below HWF.out d0; have u2 := cell_below HWF.out d2; have v0 : wf.cell? ⟨w1.heap.size, 0, none⟩ = some (.slice A fs.length c) := (R2.out.below HWF.out).cell (k := 0) (by simp); have v2 : wf.cell? ⟨w1.heap.size, 2, none⟩ = some (.slice Ao out.length co) := (R2.out.below HWF.out).cell (k := 2) (by simp); have x0 : wf.frozen? ⟨w1.heap.size, 0, none⟩ = false := (R2.out.below HWF.out).free 0; have x2 : wf.frozen? ⟨w1.heap.size, 2, none⟩ = false := (R2.out.below HWF.out).free 2; clear hcf hbf)))
  all_goals
    have rf := R2.out.below HWF.out
    have q3 := (rf.put 0 (.slice aj fs.length cj)).put 2 (.slice af out.length cf)
    simp only [List.set_cons_zero, List.set_cons_succ] at q3
    have kc : Chg (fun b => b = w1.heap.size) wf ((wf.setCell ⟨w1.heap.size, 0, none⟩ (.slice aj fs.length cj)).setCell ⟨w1.heap.size, 2, none⟩ (.slice af out.length cf)) := ((Chg.refl (fun b => b = w1.heap.size) wf).put (a := ⟨w1.heap.size, 0, none⟩) rfl _).put (a := ⟨w1.heap.size, 2, none⟩) rfl _
    obtain ⟨wg, hwg⟩ : ∃ wg, (wf.setCell ⟨w1.heap.size, 0, none⟩ (.slice aj fs.length cj)).setCell ⟨w1.heap.size, 2, none⟩ (.slice af out.length cf) = wg := ⟨_, rfl⟩
    rw [hwg] at q3 kc ⊢
    have hzj := HWJ.out.size
    have hzd : w2.drew.heap.size = w2.heap.size := rfl
    have OU := Lib.hid (show OwnU KFr wg w2.heap.size (.slice aj fs.length cj) fs vss 0 from ⟨HL.out, ((HCJ.out.mono (Nat.le_refl _)).below HBF.out).chg kc (fun b hb e => by have := (HCJ.out.in_ b hb).1; have := Y2.out; have := Y1.out; omega), fun _ _ _ h => absurd h (Nat.not_lt_zero _), fun _ _ _ _ _ h => absurd h (Nat.not_lt_zero _), fun _ _ _ _ _ _ _ _ h => absurd h (Nat.not_lt_zero _)⟩)
    have CO := Lib.hid (show CRow wg wj.heap.size 3 1 (.slice af out.length cf) out.length (intsV out) from HCF.out.chg kc (fun b hb e => by have := (HCF.out.in_ b hb).1; have := Y2.out; have := Y1.out; omega))
    have AJ := Lib.hid (show ∀ b, ob (.slice aj fs.length cj) = some b → b < wj.heap.size from fun b hb => (HCJ.out.in_ b hb).2)
    have R1G := Lib.hid ((R1.out.below HWF.out).chg kc (by have := Y1.out; omega))
    have R2G := Lib.hid q3
    have BG := Lib.hid (Chg.below (below_trans B02.out HWF.out) kc (fun b e => by have := Y1.out; omega))
    have SG := Lib.hid (show w2.heap.size ≤ wj.heap.size ∧ wj.heap.size ≤ wg.heap.size from ⟨hzj, by have := HBF.out.size; have := kc.size; omega⟩)
    have g0 := q3.cell (k := 0) (by simp)
    simp only [List.getElem_cons_zero] at g0
    clear rf q3 kc hwg hzj hzd d0 d2 t0 t2 u0 u2 v0 v2 x0 x2 p0 p1 p2 p3 p4 HCJ HBJ HCF HBF HWF HWJ
    go_wp2_with fail
    clear g0
    go_loopw [23] (fun i wr => ∃ (k : Nat) (vs : List (List Value)), i = .int .i64 k ∧ k ≤ fs.length ∧ OwnU KFr wr w2.heap.size (.slice aj fs.length cj) fs vs k ∧ (∀ j (h : j < vss.length) (h' : j < vs.length), k ≤ j → vs[j] = vss[j]) ∧ RowAt 57 w.heap.size [.slice none 0 0, .int .i64 0, .slice none 0 0, .int .i64 0, .int .i64 0] wr ∧ RowAt 57 w1.heap.size [.slice aj fs.length cj, .int .i64 fuel, .slice af out.length cf, .int .i64 done, .int .i64 value] wr ∧
      CRow wr wj.heap.size 3 1 (.slice af out.length cf) out.length (intsV out) ∧ (∀ j (h : j < vs.length), j < k → ∀ u ∈ vs[j], ∀ b, ob u = some b → ob (.slice af out.length cf) ≠ some b) ∧ Below w.heap.size w wr ∧ wg.heap.size ≤ wr.heap.size) (fun i _ => fs.length - (intOf i).toNat)
    case atStart => exact ⟨0, vss, rfl, Nat.zero_le _, OU.out, fun _ _ _ _ => rfl, R1G.out, R2G.out, CO.out, fun _ _ h => absurd h (Nat.not_lt_zero _), BG.out, Nat.le_refl _⟩
    case round =>
      obtain ⟨k, vs, rfl, hk, hu, hsame, h0, h2, hco, hsep, hb, hsz⟩ := hrel
      have q0 := h2.cell (k := 0) (by simp)
      simp only [List.getElem_cons_zero] at q0
      have HU := Lib.hid hu
      have HSM := Lib.hid hsame
      have H0 := Lib.hid h0
      have H2 := Lib.hid h2
      have HCO := Lib.hid hco
      have HSP := Lib.hid hsep
      have HB := Lib.hid hb
      have HSZ := Lib.hid hsz
      clear OU R1G R2G BG CO hu hsame h0 h2 hb hsz hco hsep
      by_cases hlt : k < fs.length
      case neg =>
        obtain rfl : k = fs.length := by omega
        have g1 := H2.out.cell (k := 1) (by simp)
        have g2 := H2.out.cell (k := 2) (by simp)
        have g3 := H2.out.cell (k := 3) (by simp)
        have g4 := H2.out.cell (k := 4) (by simp)
        simp only [List.getElem_cons_zero, List.getElem_cons_succ] at g1 g2 g3 g4
        have m0 := H0.out.cell (k := 0) (by simp)
        have m1 := H0.out.cell (k := 1) (by simp)
        have m2 := H0.out.cell (k := 2) (by simp)
        have m3 := H0.out.cell (k := 3) (by simp)
        have m4 := H0.out.cell (k := 4) (by simp)
        simp only [List.getElem_cons_zero, List.getElem_cons_succ] at m0 m1 m2 m3 m4
        have n0 := H0.out.free 0
        have n1 := H0.out.free 1
        have n2 := H0.out.free 2
        have n3 := H0.out.free 3
        have n4 := H0.out.free 4
        have e0 := H0.out.put 0 (.slice aj fs.length cj)
        have e1 := e0.put 1 (.int .i64 fuel)
        have e2 := e1.put 2 (.slice af out.length cf)
        have e3 := e2.put 3 (.int .i64 done)
        have e4 := e3.put 4 (.int .i64 value)
        have kd := (((((Chg.refl (fun b => b = w.heap.size) wr).put (a := ⟨w.heap.size, 0, none⟩) rfl (.slice aj fs.length cj)).put (a := ⟨w.heap.size, 1, none⟩) rfl (.int .i64 fuel)).put (a := ⟨w.heap.size, 2, none⟩) rfl (.slice af out.length cf)).put (a := ⟨w.heap.size, 3, none⟩) rfl (.int .i64 done)).put (a := ⟨w.heap.size, 4, none⟩) rfl (.int .i64 value)
        have EE := Lib.hid (And.intro (e0.cell (k := 0) (by simp)) (And.intro (e1.cell (k := 1) (by simp)) (And.intro (e2.cell (k := 2) (by simp)) (And.intro (e3.cell (k := 3) (by simp)) (e4.cell (k := 4) (by simp))))))
        have hg := OwnU.done HU.out
        have FIN := Lib.hid (show CopyE ⟨fs, fuel, out, done, value⟩ w (.returned (.agg #[.slice aj fs.length cj, .int .i64 fuel, .slice af out.length cf, .int .i64 done, .int .i64 value])) _ from
          ⟨.slice aj fs.length cj, .slice af out.length cf, vs, rfl, ⟨OwnG.mono (OwnG.chg hg kd (fun u hu b hb e => by have := (OwnG.lo hg u hu b hb).1; have := Y2.out; omega)) (by have := Y2.out; omega), (HCO.out.mono (by have := SG.out.1; have := Y2.out; omega)).chg kd (fun b hb e => by have := (HCO.out.in_ b hb).1; have := SG.out.1; have := Y2.out; omega), fun u hu b hb => by
            rcases List.mem_cons.1 hu with rfl | hu
            · intro e
              have := AJ.out b hb
              have := (HCO.out.in_ b e).1
              omega
            · obtain ⟨l, hl, hul⟩ := List.mem_flatten.1 hu
              obtain ⟨j, hj, rfl⟩ := List.mem_iff_getElem.1 hl
              exact HSP.out j hj (by have := HU.out.len; omega) u hul b hb⟩, Chg.below HB.out kd (fun b e => by omega)⟩)
        clear e0 e1 e2 e3 e4 kd hg
        go_wp2_with fail
        exact bodyPost_ret (v := .agg #[.slice aj fs.length cj, .int .i64 fuel, .slice af out.length cf, .int .i64 done, .int .i64 value]) (by simp [results, Tryz.results80, go_sem, EE.out.1, EE.out.2.1, EE.out.2.2.1, EE.out.2.2.2.1, EE.out.2.2.2.2]) rfl FIN.out
      have hvl := HU.out.len
      have hkv : k < vs.length := by omega
      have hkv0 : k < vss.length := by have := HL.out; omega
      obtain ⟨A1, n1, A2, n2, ev, s1, s2⟩ := HV.out k hlt hkv0
      have ev' := (HSM.out k hkv0 hkv (Nat.le_refl _)).trans ev
      obtain ⟨g, off, eA, hg1, hg2, hob, hcc⟩ := HU.out.cell (by decide) hlt
      subst eA
      have cc := fun j (hj : j < 4) => hcc k hlt hkv j hj
      have d0 : wr.cell? ⟨g, off + k * 4, none⟩ = _ := (cc 0 (by decide)).1
      have d1 : wr.cell? ⟨g, off + k * 4 + 1, none⟩ = _ := (cc 1 (by decide)).1
      have d2 : wr.cell? ⟨g, off + k * 4 + 2, none⟩ = _ := (cc 2 (by decide)).1
      have d3 : wr.cell? ⟨g, off + k * 4 + 3, none⟩ = _ := (cc 3 (by decide)).1
      simp only [KFr, ev', List.getElem_cons_zero, List.getElem_cons_succ, List.getD_cons_zero, List.getD_cons_succ] at d0 d1 d2 d3
      obtain ⟨y1, y2⟩ := Z3.out _ (List.getElem_mem hlt)
      obtain ⟨f, hf⟩ : ∃ f, fs[k] = f := ⟨_, rfl⟩
      rw [hf] at d0 d1 d2 d3 s1 s2 y1 y2 ev'
      have HF := Lib.hid hf
      have HC := Lib.hid (show ∀ W', Below wr.heap.size wr W' → Calls Tryz.prog 128 #[.agg #[.int .i64 f.fn, .int .i64 f.pc, .slice A1 f.locals.length n1, .slice A2 f.stack.length n2]] W' (FCopyE f W') from fun W' h => fcopy_any A1 A2 n1 n2 f W' (s1.below (below_trans HB.out h)) (s2.below (below_trans HB.out h)) y1 y2)
      have OB := Lib.hid hob
      have CC := Lib.hid cc
      have HG2 := Lib.hid hg2
      clear ev ev' s1 s2 y1 y2 hf hcc cc hg1 hg2 hob hvl
      go_upto_region 6 with fail
      go_region_with
        (go_at_call 128; (with_reducible refine (HC.out _ (below_drw (Below.refl _ _))).mono ?_); rintro e wa ⟨a1, k1, a2, k2, rfl, hBd, hba⟩; have HBD := Lib.hid hBd; have HBA := Lib.hid hba; have HWA := Lib.hid (below_trans (below_drw (Below.refl wr.heap.size wr)) hba); have t0 := cell_below HWA.out q0; have x0 := cell_below HWA.out d0; have x1 := cell_below HWA.out d1; have x2 := cell_below HWA.out d2; have x3 := cell_below HWA.out d3; have l0 : wa.frozen? ⟨g, off + k * 4, none⟩ = false := (by rw [HWA.out.frozen (p := ⟨g, off + k * 4, none⟩) HG2.out]; exact (CC.out 0 (by decide)).2); have l1 : wa.frozen? ⟨g, off + k * 4 + 1, none⟩ = false := (by rw [HWA.out.frozen (p := ⟨g, off + k * 4 + 1, none⟩) HG2.out]; exact (CC.out 1 (by decide)).2); have l2 : wa.frozen? ⟨g, off + k * 4 + 2, none⟩ = false := (by rw [HWA.out.frozen (p := ⟨g, off + k * 4 + 2, none⟩) HG2.out]; exact (CC.out 2 (by decide)).2); have l3 : wa.frozen? ⟨g, off + k * 4 + 3, none⟩ = false := (by rw [HWA.out.frozen (p := ⟨g, off + k * 4 + 3, none⟩) HG2.out]; exact (CC.out 3 (by decide)).2); clear hBd hba)
      all_goals
        have hst := OwnFrU.step HU.out hlt HWA.out (by rw [HF.out]; exact HBD.out) (by have := HSZ.out; have := SG.out; omega)
        rw [HF.out] at hst
        have gl := AJ.out g OB.out
        have g0 : w2.heap.size ≤ g := (HU.out.row.in_ g OB.out).1
        have kc : Chg (fun b => b = g) wa ((((wa.setCell ⟨g, off + k * 4, none⟩ (.int .i64 f.fn)).setCell ⟨g, off + k * 4 + 1, none⟩ (.int .i64 f.pc)).setCell ⟨g, off + k * 4 + 2, none⟩ (.slice a1 f.locals.length k1)).setCell ⟨g, off + k * 4 + 3, none⟩ (.slice a2 f.stack.length k2)) :=
          ((((Chg.refl (fun b => b = g) wa).put (a := ⟨g, off + k * 4, none⟩) rfl _).put (a := ⟨g, off + k * 4 + 1, none⟩) rfl _).put (a := ⟨g, off + k * 4 + 2, none⟩) rfl _).put (a := ⟨g, off + k * 4 + 3, none⟩) rfl _
        obtain ⟨wz, hwz⟩ : ∃ wz, (((wa.setCell ⟨g, off + k * 4, none⟩ (.int .i64 f.fn)).setCell ⟨g, off + k * 4 + 1, none⟩ (.int .i64 f.pc)).setCell ⟨g, off + k * 4 + 2, none⟩ (.slice a1 f.locals.length k1)).setCell ⟨g, off + k * 4 + 3, none⟩ (.slice a2 f.stack.length k2) = wz := ⟨_, rfl⟩
        rw [hwz] at hst kc ⊢
        have FF := Lib.hid (show (∀ j (h : j < vss.length) (h' : j < (vs.set k [.slice a1 f.locals.length k1, .slice a2 f.stack.length k2]).length), k + 1 ≤ j → (vs.set k [.slice a1 f.locals.length k1, .slice a2 f.stack.length k2])[j] = vss[j]) ∧ RowAt 57 w.heap.size [.slice none 0 0, .int .i64 0, .slice none 0 0, .int .i64 0, .int .i64 0] wz ∧ RowAt 57 w1.heap.size [.slice (some ⟨g, off, none⟩) fs.length cj, .int .i64 fuel, .slice af out.length cf, .int .i64 done, .int .i64 value] wz ∧
            CRow wz wj.heap.size 3 1 (.slice af out.length cf) out.length (intsV out) ∧ (∀ j (h : j < (vs.set k [.slice a1 f.locals.length k1, .slice a2 f.stack.length k2]).length), j < k + 1 → ∀ u ∈ (vs.set k [.slice a1 f.locals.length k1, .slice a2 f.stack.length k2])[j], ∀ b, ob u = some b → ob (.slice af out.length cf) ≠ some b) ∧ Below w.heap.size w wz ∧ wg.heap.size ≤ wz.heap.size from
          ⟨fun j h h' hj => by
            rw [List.getElem_set_ne (by omega)]
            exact HSM.out j h (by simpa using h') (by omega), (H0.out.below HWA.out).chg kc (by have := Y2.out; omega), (H2.out.below HWA.out).chg kc (by have := Y2.out; have := Y1.out; omega), (HCO.out.below HWA.out).chg kc (fun b hb e => by have := (HCO.out.in_ b hb).1; omega),
            fun j h hj u hu b hb e => by
              by_cases hjk : j = k
              · subst hjk
                rw [List.getElem_set_self] at hu
                have hlo := (HCO.out.in_ b e).2
                obtain ⟨q, hq, rfl⟩ := List.mem_iff_getElem.1 hu
                have hq2 : q < (KFr.rows f).length := by simpa [KFr] using hq
                have := (CRow.in_ (HBD.out.inn q hq hq2) b hb).1
                have hd : wr.drew.heap.size = wr.heap.size := rfl
                omega
              · rw [List.getElem_set_ne (fun e => hjk e.symm)] at hu
                exact HSP.out j (by simpa using h) (by omega) u hu b hb e,
            Chg.below (below_trans HB.out HWA.out) kc (fun b e => by have := Y2.out; omega), by have := HSZ.out; have := HWA.out.size; have := kc.size; omega⟩)
        have HST := Lib.hid hst
        clear hst kc gl g0 q0 t0 x0 x1 x2 x3 l0 l1 l2 l3 d0 d1 d2 d3 hwz
        go_wp2_with fail
        go_roundw
        case rel => exact ⟨k + 1, _, by go_num, by omega, HST.out, FF.out.1, FF.out.2.1, FF.out.2.2.1, FF.out.2.2.2.1, FF.out.2.2.2.2.1, FF.out.2.2.2.2.2.1, FF.out.2.2.2.2.2.2⟩
        case measure => simp only [intOf]; omega
end Go.Proofs.YtjghibdlmmjobaaGreatDoor

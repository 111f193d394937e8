/- A region that draws its order, whose last operations come one behind the other behind all others: its head by what holds behind any of its operations, its tail as it stands. No condition. A state of the call's own at a place of its own: its five cells, its frames, its trace. Plain definitions and lemmas. -/
import Derived.Test.YtpfgklkdldkajaaDoorGE20
import Derived.StillTail
import Derived.Test.YtpfgklkdldkajaaDoorGE16
namespace Go.Proofs.YtpfgklkdldkajaaDoor
open Go.RowKit

section
variable {P : Program} {Q : Exit → Act → World → Prop}
/-- Each operation of the head waits for earlier ones alone. -/
def backB (md : Region.Mode) (ops : Array Oper) (n : Nat) : Bool := (List.range n).all fun i => match ops[i]? with | some o => o.after.all fun e => !Region.binds md e || decide (e.on < i) | none => false
theorem some_ready {md : Region.Mode} {ops : Array Oper} {n : Nat} (hb : backB md ops n = true) {l : Array Bool} (hl : l.size = ops.size) (hn : n ≤ ops.size) : ∀ i, i < n → l.getD i true = false → Region.ready md ops l ≠ [] := by
  intro i
  induction i using Nat.strongRecOn with
  | _ i ih =>
    intro hi hu
    have hB := List.all_eq_true.1 hb i (List.mem_range.2 hi)
    have hio : i < ops.size := by omega
    rw [Array.getElem?_eq_getElem hio] at hB
    simp only at hB
    by_cases hall : ∀ e ∈ ops[i].after, Region.binds md e = true → l.getD e.on false = true
    · have hm : i ∈ Region.ready md ops l := mem_ready.2 ⟨hu, ops[i], Array.getElem?_eq_getElem hio, hall⟩
      exact fun h0 => by rw [h0] at hm; cases hm
    · have hex : ∃ e, e ∈ ops[i].after ∧ Region.binds md e = true ∧ ¬ l.getD e.on false = true := Classical.byContradiction fun hne => hall fun e he hb2 => Classical.byContradiction fun hf => hne ⟨e, he, hb2, hf⟩
      obtain ⟨e, he, hbe, hf⟩ := hex
      have h2 := Array.all_eq_true'.1 hB e he
      rw [hbe] at h2
      simp only [Bool.not_true, Bool.false_or, decide_eq_true_eq] at h2
      have hel : e.on < l.size := by omega
      exact ih e.on h2 (by omega) (getD_in hel (by simpa using hf))
theorem wpAny_inv_tail {md : Region.Mode} {ops : Array Oper} {n g : Nat} (hn : n < ops.size) (hs : Region.sinkB md ops n = true) (hc : Region.chainB md ops n = true) (hk : backB md ops n = true) (J : Array Bool → Act → World → Prop)
    (hend : ∀ l a w, J l a w → (∀ i, i < n → l.getD i false = true) → HeadInv md ops n l → wpAny P md ops Q g l a w)
    (hstep : ∀ l a w i, J l a w → i < n → i ∈ Region.ready md ops l → wpOp P ops Q i (fun a' w' => J (l.setIfInBounds i true) a' w') a w) :
    ∀ (f : Nat) (l : Array Bool) (a : Act) (w : World), J l a w → HeadInv md ops n l → ((l.toList.take n).count false) = f → wpAny P md ops Q (f + g) l a w := by
  intro f
  induction f with
  | zero =>
    intro l a w hJ inv hcn
    rw [Nat.zero_add]
    refine hend l a w hJ (fun i hi => ?_) inv
    have hil : i < l.size := by rw [inv.size]; omega
    cases hb : l.getD i false with
    | true => rfl
    | false =>
      have e : l[i] = false := by simpa [Array.getD, hil] using hb
      have hm : false ∈ l.toList.take n := by
        rw [List.mem_iff_getElem]
        exact ⟨i, by simp; omega, by simpa using e⟩
      exact absurd (List.count_eq_zero.1 hcn) (by simpa using hm)
  | succ f ih =>
    intro l a w hJ inv hcn
    have hun : ∃ i, i < n ∧ l.getD i true = false := by
      have hm : false ∈ l.toList.take n := List.count_pos_iff.1 (by omega)
      obtain ⟨i, hi, e⟩ := List.mem_iff_getElem.1 hm
      have hi' : i < n ∧ i < l.size := by simp at hi; omega
      exact ⟨i, hi'.1, by simp [Array.getD, hi'.2]; simpa using e⟩
    obtain ⟨i0, hi0, hu0⟩ := hun
    have hw := tail_waits hs hc hn inv (n - i0) i0 rfl hi0 hu0
    have hready : Region.ready md ops l ≠ [] := some_ready hk inv.size (by omega) i0 hi0 hu0
    rw [show f + 1 + g = (f + g) + 1 by omega]
    refine ⟨fun h0 => absurd h0 hready, fun i hi => ?_⟩
    have hin : i < n := Nat.lt_of_not_le fun h => hw i h hi
    refine wpOp_mono (fun a' w' h' => ih _ a' w' h' (inv.set hi hin) ?_) (hstep l a w i hJ hin hi)
    have hu := (mem_ready.1 hi).1
    have hil : i < l.size := by rw [inv.size]; omega
    have e : l.toList[i]'(by simpa using hil) = false := by simpa [Array.getD, hil] using hu
    rw [Array.toList_setIfInBounds, List.take_set]
    have hit : i < (l.toList.take n).length := by simp; omega
    rw [List.count_set hit]
    have e2 : (l.toList.take n)[i] = false := by rw [List.getElem_take]; exact e
    have : 0 < (l.toList.take n).count false := List.count_pos_iff.2 (e2 ▸ List.getElem_mem hit)
    rw [e2]
    simp only [beq_self_eq_true, if_true, show (true == false) = false from rfl, Bool.false_eq_true, if_false]
    omega
theorem ready_needs {md : Region.Mode} {ops : Array Oper} {l : Array Bool} {i k : Nat} (h : i ∈ Region.ready md ops l) (hk : Region.waitsFor md ops i k = true) : l.getD k false = true := by
  obtain ⟨_, o, ho, hall⟩ := mem_ready.1 h
  obtain ⟨o', ho', e, he, hb, hon⟩ := Region.waitsFor_spec hk
  obtain rfl : o' = o := Option.some.inj (ho'.symm.trans ho)
  exact hon ▸ hall e he hb
theorem ready_not {md : Region.Mode} {ops : Array Oper} {l : Array Bool} {i : Nat} (h : i ∈ Region.ready md ops l) : ¬ l.getD i false = true := by
  rw [getD_both (mem_ready.1 h).1]; exact fun h => by cases h
theorem wpOp_via {P : Program} {ops : Array Oper} {Q : Exit → Act → World → Prop} {i : Nat} {K : Act → World → Prop} {a : Act} {w : World} (h : ∀ K' : Act → World → Prop, (∀ a w, K a w → K' a w) → wpOp P ops Q i K' a w) : wpOp P ops Q i K a w := h K (fun _ _ h => h)
theorem set_back {l : Array Bool} {i j : Nat} (hij : i ≠ j) (h : (l.setIfInBounds i true).getD j false = true) : l.getD j false = true := by rwa [getD_set_ne false hij] at h
/-- The region: its head by an invariant, its tail as a list. -/
theorem wp_region_inv_tail {id : Nat} {a : Act} {w : World} {l : List Oper} (n : Nat) (hm : P.follows .mixedOrders = true) (hB : (decide (n < l.length) && Region.sinkB .any l.toArray n && Region.chainB .any l.toArray n && backB .any l.toArray n && Region.seqB .any l.toArray (l.length - n) n ((List.replicate n true) ++ List.replicate (l.length - n) false).toArray) = true)
    (J : Array Bool → Act → World → Prop) (h0 : J (Array.replicate l.length false) a w.drew) (hstep : ∀ lst a w i, J lst a w → i < n → i ∈ Region.ready .any l.toArray lst → wpOp P l.toArray Q i (fun a' w' => J (lst.setIfInBounds i true) a' w') a w)
    (hend : ∀ a w, J ((List.replicate n true) ++ List.replicate (l.length - n) false).toArray a w → wpList P l.toArray Q (l.drop n) a w) : (Code.region id l.toArray true).wp P Q a w := by
  simp only [Bool.and_eq_true, decide_eq_true_eq] at hB
  obtain ⟨⟨⟨⟨hn, hs⟩, hc⟩, hk⟩, hseq⟩ := hB
  have hn' : n < l.toArray.size := by simpa using hn
  refine wp_region_any hm ?_
  have inv0 : HeadInv .any l.toArray n (Array.replicate l.toArray.size false) :=
    ⟨by simp, fun j oj _ hl => (by rw [getD_replicate_false] at hl; cases hl), fun t _ ht => getD_in (by simpa using ht) (getD_replicate_false _ _)⟩
  have H := wpAny_inv_tail (P := P) (Q := Q) (g := l.length - n) hn' hs hc hk J (fun lst a w hJ hall inv => by
    have e : lst = ((List.replicate n true) ++ List.replicate (l.length - n) false).toArray := by
      apply Array.ext
      · rw [inv.size]; simp; omega
      · intro i h1 h2
        have hil : i < l.length := by rw [inv.size] at h1; simpa using h1
        by_cases hi : i < n
        · have := hall i hi
          simp only [Array.getD, h1, dite_true] at this
          simp only [List.getElem_toArray]
          rw [List.getElem_append_left (by simpa using hi)]
          simpa using this
        · have := inv.tail i (by omega) (by simpa using hil)
          simp only [Array.getD, h1, dite_true] at this
          simp only [List.getElem_toArray]
          rw [List.getElem_append_right (by simp; omega)]
          simpa using this
    rw [e] at hJ ⊢
    have := wpAny_of_seq (md := .any) (Q' := Q) (l.drop n) n _ a w (fun j => by simp [List.getElem?_drop]) (by rw [List.length_drop]; exact hseq) (hend a w hJ)
    rwa [List.length_drop] at this) hstep n (Array.replicate l.toArray.size false) a w.drew (by simpa using h0) inv0 (by simp [List.take_replicate]; omega)
  rw [show n + (l.length - n) = l.toArray.size by simp; omega] at H
  exact H
end
end Go.Proofs.YtpfgklkdldkajaaDoor

namespace Go.Proofs.YtpfgklkdldkajaaDoor
open Go.RowKit

def sttC (s : Stt) (fv ov : Value) : List Value := [fv, .int .i64 s.fuel, ov, .int .i64 s.done, .int .i64 s.value]
structure StAt (w : World) (base sb : Nat) (s : Stt) (fv ov : Value) (vss : List (List Value)) : Prop where
  row : RowAt 74 sb (sttC s fv ov) w
  own : OwnS w base s fv ov vss
  ns : ¬ FrB fv vss sb
  no : ob ov ≠ some sb
/-- The blocks of a state. -/
def StB (sb : Nat) (fv ov : Value) (vss : List (List Value)) (b : Nat) : Prop := b = sb ∨ FrB fv vss b ∨ ob ov = some b
section
variable {w w1 w2 : World} {base sb : Nat} {s s' : Stt} {fv ov fv' ov' : Value} {vss vss' : List (List Value)}
theorem StAt.lt (h : StAt w base sb s fv ov vss) : sb < w.heap.size := blk_lt h.row
theorem StAt.old (h : StAt w base sb s fv ov vss) : ∀ b, StB sb fv ov vss b → b < w.heap.size := fun b hb => by
  rcases hb with e | ⟨u, hu, e⟩ | e
  · exact e ▸ h.lt
  · exact (OwnG.lo h.own.fr u hu b e).2
  · exact (h.own.out.in_ b e).2
theorem StAt.chg {S : Nat → Prop} (h : StAt w base sb s fv ov vss) (hk : Chg S w w1) (hn : ∀ b, StB sb fv ov vss b → ¬ S b) : StAt w1 base sb s fv ov vss :=
  ⟨h.row.chg hk (hn _ (.inl rfl)), ⟨OwnG.chg h.own.fr hk (fun u hu b hb => hn b (.inr (.inl ⟨u, hu, hb⟩))), h.own.out.chg hk (fun b hb => hn b (.inr (.inr hb))), h.own.sep⟩, h.ns, h.no⟩
theorem StAt.below (h : StAt w base sb s fv ov vss) (hb : Below w.heap.size w w1) : StAt w1 base sb s fv ov vss := h.chg (S := fun _ => False) (Chg.of_below hb) (fun _ _ h => h)
theorem StAt.cells (h : StAt w base sb s fv ov vss) : w.cell? ⟨sb, 0, none⟩ = some fv ∧ w.cell? ⟨sb, 1, none⟩ = some (.int .i64 s.fuel) ∧ w.cell? ⟨sb, 2, none⟩ = some ov ∧ w.cell? ⟨sb, 3, none⟩ = some (.int .i64 s.done) ∧ w.cell? ⟨sb, 4, none⟩ = some (.int .i64 s.value) ∧ ∀ k, w.frozen? ⟨sb, k, none⟩ = false :=
  ⟨h.row.cell (k := 0) (by simp [sttC]), h.row.cell (k := 1) (by simp [sttC]), h.row.cell (k := 2) (by simp [sttC]), h.row.cell (k := 3) (by simp [sttC]), h.row.cell (k := 4) (by simp [sttC]), fun k => h.row.free k⟩
theorem StAt.put (h : StAt w base sb s fv ov vss) (k : Nat) (x : Value) (s' : Stt) (hr : sttC s' fv ov = (sttC s fv ov).set k x) (hf : s'.frames = s.frames) (ho : s'.out = s.out) : StAt (w.setCell ⟨sb, k, none⟩ x) base sb s' fv ov vss := by
  have kc : Chg (fun b => b = sb) w (w.setCell ⟨sb, k, none⟩ x) := Chg.put (S := fun b => b = sb) (Chg.refl _ w) (a := ⟨sb, k, none⟩) rfl x
  have hp := h.row.put k x
  rw [← hr] at hp
  refine ⟨hp, ⟨?_, ?_, h.own.sep⟩, h.ns, h.no⟩
  · rw [hf]; exact OwnG.chg h.own.fr kc (fun u hu b hb e => h.ns (e ▸ ⟨u, hu, hb⟩))
  · rw [ho]; exact h.own.out.chg kc (fun b hb e => h.no (e ▸ hb))
/-- Other frames in its frames' place. -/
theorem StAt.fr (h : StAt w base sb s fv ov vss) {fs : List Frm} (ho : OwnFr w1 base fv' fs vss') (hk : Chg (FrB fv vss) w w1) (hn : ∀ b, FrB fv' vss' b → FrB fv vss b ∨ w.heap.size ≤ b) : StAt (w1.setCell ⟨sb, 0, none⟩ fv') base sb ⟨fs, s.fuel, s.out, s.done, s.value⟩ fv' ov vss' := by
  have kc : Chg (fun b => b = sb) w1 (w1.setCell ⟨sb, 0, none⟩ fv') := Chg.put (S := fun b => b = sb) (Chg.refl _ w1) (a := ⟨sb, 0, none⟩) rfl fv'
  have hp := (h.row.chg hk h.ns).put 0 fv'
  have ns : ¬ FrB fv' vss' sb := fun e => (hn sb e).elim h.ns (fun e => by have := h.lt; omega)
  have ho1 := h.own.out.chg hk (fun b hb ⟨u, hu, e⟩ => h.own.sep u hu b e hb)
  refine ⟨hp, ⟨OwnG.chg ho kc (fun u hu b hb e => ns (e ▸ ⟨u, hu, hb⟩)), ho1.chg kc (fun b hb e => h.no (e ▸ hb)), fun u hu b hb e => ?_⟩, ns, h.no⟩
  rcases hn b ⟨u, hu, hb⟩ with ⟨u', hu', e'⟩ | e'
  · exact h.own.sep u' hu' b e' e
  · have := (h.own.out.in_ b e).2; omega
/-- Its frames turned where they lie. -/
theorem StAt.fr0 (h : StAt w base sb s fv ov vss) {fs : List Frm} (ho : OwnFr w1 base fv fs vss') (hk : Chg (FrB fv vss) w w1) (hn : ∀ b, FrB fv vss' b → FrB fv vss b ∨ w.heap.size ≤ b) : StAt w1 base sb ⟨fs, s.fuel, s.out, s.done, s.value⟩ fv ov vss' := by
  have ns : ¬ FrB fv vss' sb := fun e => (hn sb e).elim h.ns (fun e => by have := h.lt; omega)
  refine ⟨h.row.chg hk h.ns, ⟨ho, h.own.out.chg hk (fun b hb ⟨u, hu, e⟩ => h.own.sep u hu b e hb), fun u hu b hb e => ?_⟩, ns, h.no⟩
  rcases hn b ⟨u, hu, hb⟩ with ⟨u', hu', e'⟩ | e'
  · exact h.own.sep u' hu' b e' e
  · have := (h.own.out.in_ b e).2; omega
/-- Another trace in its trace's place. -/
theorem StAt.trace (h : StAt w base sb s fv ov vss) {out : List Int} (ho : CRow w1 base 3 1 ov' out.length (intsV out)) (hk : Chg (fun b => ob ov = some b) w w1) (hn : ∀ b, ob ov' = some b → ob ov = some b ∨ w.heap.size ≤ b) : StAt (w1.setCell ⟨sb, 2, none⟩ ov') base sb ⟨s.frames, s.fuel, out, s.done, s.value⟩ fv ov' vss := by
  have kc : Chg (fun b => b = sb) w1 (w1.setCell ⟨sb, 2, none⟩ ov') := Chg.put (S := fun b => b = sb) (Chg.refl _ w1) (a := ⟨sb, 2, none⟩) rfl ov'
  have hp := (h.row.chg hk h.no).put 2 ov'
  have no : ob ov' ≠ some sb := fun e => (hn sb e).elim h.no (fun e => by have := h.lt; omega)
  have hf := OwnG.chg h.own.fr hk (fun u hu b hb e => h.own.sep u hu b hb e)
  refine ⟨hp, ⟨OwnG.chg hf kc (fun u hu b hb e => h.ns (e ▸ ⟨u, hu, hb⟩)), ho.chg kc (fun b hb e => no (e ▸ hb)), fun u hu b hb e => ?_⟩, h.ns, no⟩
  rcases hn b e with e' | e'
  · exact h.own.sep u hu b hb e'
  · have := (OwnG.lo h.own.fr u hu b hb).2; omega
/-- No frames any more. -/
theorem StAt.none (h : StAt w base sb s fv ov vss) : StAt (w.setCell ⟨sb, 0, none⟩ (.slice none 0 0)) base sb ⟨[], s.fuel, s.out, s.done, s.value⟩ (.slice none 0 0) ov [] :=
  h.fr (OwnG.nil _ _ _) (Chg.refl _ _) (fun b ⟨u, hu, e⟩ => by
    simp at hu
    subst hu; cases e)
/-- A call that turns a state. -/
def RunE (s' : Stt) (base sb : Nat) (fv ov : Value) (vss : List (List Value)) (w : World) (e : Ending) (w' : World) : Prop :=
  ∃ fv' ov' vss', e = .returned (.tuple #[]) ∧ StAt w' base sb s' fv' ov' vss' ∧ Chg (StB sb fv ov vss) w w' ∧ ∀ b, StB sb fv' ov' vss' b → StB sb fv ov vss b ∨ w.heap.size ≤ b
theorem StB.new {N : Nat} (hf : ∀ b, FrB fv' vss' b → FrB fv vss b ∨ N ≤ b) (ho : ∀ b, ob ov' = some b → ob ov = some b ∨ N ≤ b) : ∀ b, StB sb fv' ov' vss' b → StB sb fv ov vss b ∨ N ≤ b := fun b hb => by
  rcases hb with e | e | e
  · exact .inl (.inl e)
  · exact (hf b e).imp (fun h => .inr (.inl h)) id
  · exact (ho b e).imp (fun h => .inr (.inr h)) id
theorem FrB.nil {b : Nat} (h : FrB (.slice none 0 0) [] b) : False := by
  obtain ⟨x, hx, e⟩ := h
  simp at hx
  subst hx; cases e
end
theorem wp_region_inv_n {P : Program} {ops : Array Oper} {Q : Exit → Act → World → Prop} {id : Nat} {a : Act} {w : World} (n : Nat) (hn : ops.size = n) (hm : P.follows .mixedOrders = true) (J : Array Bool → Act → World → Prop) (h0 : J (Array.replicate n false) a w.drew)
    (hend : ∀ l a w, J l a w → Region.ready .any ops l = [] → Q .normal a w)
    (hstep : ∀ l a w i, J l a w → i ∈ Region.ready .any ops l → wpOp P ops Q i (fun a' w' => J (l.setIfInBounds i true) a' w') a w) : (Code.region id ops true).wp P Q a w := by
  subst hn
  exact wp_region_inv hm J h0 hend hstep
/-- 'append' at a step of a region that draws its order, by its run. -/
theorem step_append_run {P : Program} {ops : Array Oper} {o : Oper} {a : Act} {w : World} {K : Act → World → Prop} {Q : Exit → Act → World → Prop} {E : Prop} (hgd : o.guard = none) (s x : Operand) (ts tx : TypeId)
    (ho : o.op = .call { callee := .builtin .append, args := #[s, x], argTypes := #[ts, tx] }) (v xv : Value) (hs : a.eval s = v) (hx : a.eval x = xv) {v' : Value} {w' : World} (hrun : (Builtin.append_ #[ts, tx] o.type #[v, xv]).run P w = .ok v' w') (h : K (a.put o.dst v') w') :
    if Region.wanted o (yielded ops a.tmps) = true then Oper.wp P o a w K Q else E := by
  have hw : Region.wanted o (yielded ops a.tmps) = true := by simp [Region.wanted, hgd]
  rw [if_pos hw]
  unfold Oper.wp
  simp [execOp, ho, resolve, invoke, builtin, hs, hx, hrun, Result.andThen]
  exact h
theorem ready_no {md : Region.Mode} {ops : Array Oper} {l : Array Bool} {i : Nat} (h : i ∈ Region.ready md ops l) : l.getD i false = false := by
  cases hb : l.getD i false with
  | false => rfl
  | true => exact absurd hb (ready_not h)
theorem getD_set_is {l : Array Bool} {i : Nat} (h : i < l.size) : (l.setIfInBounds i true).getD i false = true := by simp [Array.getD, h]
theorem all_come {md : Region.Mode} {ops : Array Oper} {n : Nat} {l : Array Bool} (hn : ops.size = n) (hl : l.size = n) (hb : backB md ops n = true) (h : Region.ready md ops l = []) : ∀ i, i < n → l.getD i false = true := fun i hi => by
  have hil : i < l.size := by omega
  cases ht : l.getD i true with
  | true => simpa [Array.getD, hil] using ht
  | false => exact absurd h (some_ready hb (by omega) (by omega) i hi ht)
theorem wp_region_via {P : Program} {ops : Array Oper} {Q : Exit → Act → World → Prop} {id : Nat} {a : Act} {w : World} (R : Act → World → Prop) (h : ∀ Q' : Exit → Act → World → Prop, (∀ a' w', R a' w' → Q' .normal a' w') → (Code.region id ops true).wp P Q' a w) (hR : ∀ a' w', R a' w' → Q .normal a' w') : (Code.region id ops true).wp P Q a w := h Q hR
/-- A call that turns a frame, beside a new place for what it tells: what holds while they come up in any order. -/
def RunPh (w : World) (base g off : Nat) (F : Frm) (v1 v2 : Value) (args : List Int) (z : List Value) (bc ba : Bool) (u va : Value) (xb : Nat) (W : World) : Prop :=
  (bc = false → Below w.heap.size w W) ∧ (bc = true → FTurn w W base g off F v1 v2 u ∧ InnAt W w.heap.size va (innI args) ∧ ∀ b, ob va = some b → ob u ≠ some b) ∧
    (ba = true → RowAt 158 xb z W ∧ w.heap.size ≤ xb ∧ (bc = true → ob u ≠ some xb ∧ ob va ≠ some xb))
section
variable {w W W' : World} {base g off xb : Nat} {f F : Frm} {v1 v2 u va u' va' : Value} {args : List Int} {z z' : List Value} {bc ba : Bool}
theorem RunPh.start (hb : Below w.heap.size w W) : RunPh w base g off F v1 v2 args z false false u va xb W := ⟨fun _ => hb, (fun e => by cases e), (fun e => by cases e)⟩
theorem RunPh.call (h : RunPh w base g off F v1 v2 args z false ba u va xb W) (hf : FAt w base g off f v1 v2) (ht : FTurn W W' base g off F v1 v2 u') (hi : InnAt W' W.heap.size va' (innI args)) (hd : ∀ b, ob va' = some b → ob u' ≠ some b) : RunPh w base g off F v1 v2 args z true ba u' va' xb W' := by
  have hb := h.1 rfl
  refine ⟨(fun e => by cases e), fun _ => ⟨FTurn.before hf hb ht, CRow.mono hi hb.size, hd⟩, fun e => ?_⟩
  obtain ⟨hr, hx, _⟩ := h.2.2 e
  have ap := hf.apart hx
  refine ⟨ht.row hr ap.1 ap.2.1 ap.2.2, hx, fun _ => ⟨fun e => ?_, fun e => ?_⟩⟩
  · rcases ht.new _ e with e | e
    · exact ap.2.2 e
    · have := blk_lt hr; omega
  · have := (CRow.in_ hi _ e).1; have := blk_lt hr; omega
theorem RunPh.alloc (h : RunPh w base g off F v1 v2 args z bc false u va xb W) : RunPh w base g off F v1 v2 args z bc true u va W.heap.size (W.alloc (.cells z.toArray 158)) := by
  have b := below_alloc (Below.refl W.heap.size W) (.cells z.toArray 158)
  refine ⟨fun e => below_trans (h.1 e) b, fun e => ?_, fun _ => ⟨RowAt.new _ _ _, ?_, fun e => ⟨fun e2 => ?_, fun e2 => ?_⟩⟩⟩
  · obtain ⟨h1, h2, h3⟩ := h.2.1 e
    exact ⟨h1.after b, CRow.below h2 b, h3⟩
  · cases bc with
    | false => exact (h.1 rfl).size
    | true => exact (h.2.1 rfl).1.chg.size
  · have := ((h.2.1 e).1.at_.lo2 _ e2).2; omega
  · have := (CRow.in_ (h.2.1 e).2.1 _ e2).2; omega
theorem RunPh.store (h : RunPh w base g off F v1 v2 args z true true u va xb W) (hf : FAt w base g off f v1 v2) (hk : Chg (fun b => b = xb) W W') (hr : RowAt 158 xb z' W') : RunPh w base g off F v1 v2 args z' true true u va xb W' := by
  obtain ⟨h1, h2, h3⟩ := h.2.1 rfl
  obtain ⟨h4, h5, h6⟩ := h.2.2 rfl
  obtain ⟨n1, n2⟩ := h6 rfl
  have ap := hf.apart h5
  exact ⟨(fun e => by cases e), fun _ => ⟨h1.past hk h5 ap.1 ap.2.1 n1, h2.chg1 hk n2, h3⟩, fun _ => ⟨hr, h5, fun _ => ⟨n1, n2⟩⟩⟩
theorem RunPh.row {t b : Nat} {cs : List Value} (h : RunPh w base g off F v1 v2 args z bc ba u va xb W) (hr : RowAt t b cs w) (hg : b ≠ g) (h1 : ob v1 ≠ some b) (h2 : ob v2 ≠ some b) : RowAt t b cs W := by
  cases bc with
  | false => exact hr.below (h.1 rfl)
  | true => exact (h.2.1 rfl).1.row hr hg h1 h2
end
end Go.Proofs.YtpfgklkdldkajaaDoor

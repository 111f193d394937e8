/- A region that draws its order, by what holds behind any of its operations: each operation is walked once. No condition. -/
import Derived.Test.YtpfgklkdldkajaaDoorQuietB
import Derived.Test.YtpfgklkdldkajaaDoorCopyS
import Derived.Test.YtpfgklkdldkajaaDoorStart
import Derived.Deep.RegionHeld3
namespace Go.Proofs.YtpfgklkdldkajaaDoor
open Go.RowKit

section
variable {P : Program} {ops : Array Oper} {Q : Exit → Act → World → Prop} {md : Region.Mode}
theorem unlisted_lt {l : Array Bool} {j : Nat} (h : l.getD j true = false) : ∃ hj : j < l.size, l[j] = false := by
  by_cases hj : j < l.size
  · exact ⟨hj, by simpa [Array.getD, hj] using h⟩
  · simp [Array.getD, hj] at h
theorem wpAny_inv (J : Array Bool → Act → World → Prop) (hend : ∀ l a w, J l a w → Region.ready md ops l = [] → Q .normal a w)
    (hstep : ∀ l a w i, J l a w → i ∈ Region.ready md ops l → wpOp P ops Q i (fun a' w' => J (l.setIfInBounds i true) a' w') a w) :
    ∀ (fuel : Nat) (l : Array Bool) (a : Act) (w : World), J l a w → l.toList.count false ≤ fuel → wpAny P md ops Q fuel l a w := by
  have none : ∀ l : Array Bool, l.toList.count false = 0 → Region.ready md ops l = [] := fun l hc => by
    refine List.eq_nil_iff_forall_not_mem.2 fun j hj => ?_
    obtain ⟨hj, e⟩ := unlisted_lt (mem_ready.1 hj).1
    exact absurd (List.count_eq_zero.1 hc) (by simpa using (Array.mem_of_getElem e))
  intro fuel
  induction fuel with
  | zero => exact fun l a w h hc => ⟨none l (by omega), hend l a w h (none l (by omega))⟩
  | succ fuel ih =>
    refine fun l a w h hc => ⟨hend l a w h, fun i hi => wpOp_mono (fun a' w' h' => ih _ a' w' h' ?_) (hstep l a w i h hi)⟩
    obtain ⟨hj, e⟩ := unlisted_lt (mem_ready.1 hi).1
    have hj' : i < l.toList.length := by simpa using hj
    rw [Array.toList_setIfInBounds, List.count_set hj']
    have : 0 < l.toList.count false := List.count_pos_iff.2 (by simpa using (Array.mem_of_getElem e))
    have e2 : l.toList[i] = false := by simpa using e
    rw [e2]
    simp only [beq_self_eq_true, if_true, show (true == false) = false from rfl, Bool.false_eq_true, if_false]
    omega
/-- The region, by what holds behind any of its operations. -/
theorem wp_region_inv {id : Nat} {a : Act} {w : World} (hm : P.follows .mixedOrders = true) (J : Array Bool → Act → World → Prop) (h0 : J (Array.replicate ops.size false) a w.drew)
    (hend : ∀ l a w, J l a w → Region.ready .any ops l = [] → Q .normal a w)
    (hstep : ∀ l a w i, J l a w → i ∈ Region.ready .any ops l → wpOp P ops Q i (fun a' w' => J (l.setIfInBounds i true) a' w') a w) : (Code.region id ops true).wp P Q a w :=
  wp_region_any hm (wpAny_inv J hend hstep _ _ _ _ h0 (by simp))
theorem wp_region_inv_of {id : Nat} {a : Act} {w : World} (J : Act → Array Bool → Act → World → Prop) (hm : P.follows .mixedOrders = true) (h0 : J a (Array.replicate ops.size false) a w.drew)
    (hend : ∀ l a' w, J a l a' w → Region.ready .any ops l = [] → Q .normal a' w)
    (hstep : ∀ l a' w i, J a l a' w → i ∈ Region.ready .any ops l → wpOp P ops Q i (fun a' w' => J a (l.setIfInBounds i true) a' w') a' w) : (Code.region id ops true).wp P Q a w :=
  wp_region_inv hm (J a) h0 hend hstep
/-- Nothing may come up: what waits for no one has come up. -/
theorem all_listed {l : Array Bool} {i : Nat} {o : Oper} (h : Region.ready md ops l = []) (ho : ops[i]? = some o) (ha : o.after.toList.all (fun e => !Region.binds md e || l.getD e.on false) = true) : l.getD i true = true := by
  cases hl : l.getD i true
  · have : i ∈ Region.ready md ops l := mem_ready.2 ⟨hl, o, ho, fun e he hb => by
      have := List.all_eq_true.1 ha e (by simpa using he)
      simpa [hb] using this⟩
    rw [h] at this; cases this
  · rfl
end

/-- What holds, and goes on holding while none of the blocks S is written. -/
def Stays (S : Nat → Prop) (I : World → Prop) (w : World) : Prop := ∀ T w', Chg T w w' → (∀ b, T b → ¬ S b) → I w'
theorem Stays.now {S : Nat → Prop} {I : World → Prop} {w : World} (h : Stays S I w) : I w := h (fun _ => False) w (Chg.of_below (Below.refl _ _)) (fun _ h => h.elim)
theorem Stays.chg {S T : Nat → Prop} {I : World → Prop} {w w' : World} (h : Stays S I w) (hk : Chg T w w') (hd : ∀ b, T b → ¬ S b) : Stays S I w' := fun T' w'' hk' hd' =>
  h (fun b => T b ∨ T' b) w'' ((hk.mono (fun _ h => .inl h)).trans hk' (fun _ _ h => .inr h)) (fun b hb => hb.elim (hd b) (hd' b))
theorem Stays.below {S : Nat → Prop} {I : World → Prop} {w w' : World} (h : Stays S I w) (hb : Below w.heap.size w w') : Stays S I w' := h.chg (T := fun _ => False) (Chg.of_below hb) (fun _ h => h.elim)
theorem Chg.cut {S : Nat → Prop} {w w' : World} (h : Chg S w w') : Chg (fun b => S b ∧ b < w.heap.size) w w' := ⟨h.os, h.tape, h.output, h.size, fun k hk hn => h.block k hk (fun hs => hn ⟨hs, hk⟩)⟩
/-- The blocks that a call has made. -/
def Made (lo hi : Nat) (b : Nat) : Prop := lo ≤ b ∧ b < hi
theorem OwnF.stays {w : World} {base : Nat} {v : Value} {p : List Fn} (h : OwnF w base v p) : Stays (Made base w.heap.size) (fun w' => OwnF w' base v p) w := fun _ _ hk hd => h.chg hk.cut (fun k hk => by
  have h1 := hd k hk.1
  have h2 := hk.2
  unfold Made at h1; omega)
theorem OwnS.stays {w : World} {base : Nat} {s : Stt} {fv ov : Value} {vss : List (List Value)} (h : OwnS w base s fv ov vss) : Stays (Made base w.heap.size) (fun w' => OwnS w' base s fv ov vss) w := fun _ _ hk hd =>
  ⟨OwnG.chg h.fr hk.cut (fun u hu b hb hT => hd b hT.1 ⟨(OwnG.lo h.fr u hu b hb).1, hT.2⟩), h.out.chg hk.cut (fun b hb hT => hd b hT.1 ⟨(h.out.in_ b hb).1, hT.2⟩), h.sep⟩

/-- Two calls that make their answers, two variables for them: what holds while they come up in any order. -/
structure Two2 (w0 : World) (tX tY : Nat) (zX zY : List Value) (cX cY : Value → List Value) (I1 I2 : Value → World → Prop) (r1 r2 x y : Value) (b1 b3 b4 b5 b6 b7 : Bool) (l1 h1 l2 h2 bx bz : Nat) (w : World) : Prop where
  below : Below w0.heap.size w0 w
  got1 : b1 = true → h1 ≤ w.heap.size ∧ w0.heap.size ≤ l1 ∧ Stays (Made l1 h1) (I1 r1) w
  got2 : b3 = true → h2 ≤ w.heap.size ∧ w0.heap.size ≤ l2 ∧ Stays (Made l2 h2) (I2 r2) w
  isX : b4 = true → x = .pointer (some ⟨bx, 0, none⟩) ∧ w0.heap.size ≤ bx ∧ bx < w.heap.size ∧ RowAt tX bx (if b6 = true then cX r1 else zX) w
  isY : b5 = true → y = .pointer (some ⟨bz, 0, none⟩) ∧ w0.heap.size ≤ bz ∧ bz < w.heap.size ∧ RowAt tY bz (if b7 = true then cY r2 else zY) w
  ne : b4 = true → b5 = true → bx ≠ bz
  n1 : b1 = true → b4 = true → ¬ Made l1 h1 bx
  n2 : b1 = true → b5 = true → ¬ Made l1 h1 bz
  n3 : b3 = true → b4 = true → ¬ Made l2 h2 bx
  n4 : b3 = true → b5 = true → ¬ Made l2 h2 bz
  late6 : b6 = true → b1 = true ∧ b3 = true ∧ b4 = true ∧ b5 = true
  late7 : b7 = true → b1 = true ∧ b3 = true ∧ b4 = true ∧ b5 = true
section
variable {w0 w w' : World} {tX tY : Nat} {zX zY : List Value} {cX cY : Value → List Value} {I1 I2 : Value → World → Prop} {r1 r2 x y : Value} {b1 b3 b4 b5 b6 b7 : Bool} {l1 h1 l2 h2 bx bz : Nat}
theorem Two2.start (w0 w : World) (tX tY : Nat) (zX zY : List Value) (cX cY : Value → List Value) (I1 I2 : Value → World → Prop) (r1 r2 x y : Value) (hb : Below w0.heap.size w0 w) : Two2 w0 tX tY zX zY cX cY I1 I2 r1 r2 x y false false false false false false 0 0 0 0 0 0 w := by
  constructor <;> first | exact hb | (intro h; cases h)
theorem Two2.call1 (h : Two2 w0 tX tY zX zY cX cY I1 I2 r1 r2 x y false b3 b4 b5 b6 b7 l1 h1 l2 h2 bx bz w) {r : Value} (hb : Below w.heap.size w w') (hr : Stays (Made w.heap.size w'.heap.size) (I1 r) w') :
    Two2 w0 tX tY zX zY cX cY I1 I2 r r2 x y true b3 b4 b5 b6 b7 w.heap.size w'.heap.size l2 h2 bx bz w' := by
  have hs := hb.size
  have e6 : b6 = false := by cases b6; rfl; cases (h.late6 rfl).1
  have e7 : b7 = false := by cases b7; rfl; cases (h.late7 rfl).1
  subst e6 e7
  refine ⟨below_trans h.below hb, fun _ => ⟨Nat.le_refl _, h.below.size, hr⟩, fun e => ?_, fun e => ?_, fun e => ?_, h.ne, fun _ e hm => ?_, fun _ e hm => ?_, h.n3, h.n4, (fun e => by cases e), (fun e => by cases e)⟩
  · obtain ⟨g1, g2, g3⟩ := h.got2 e; exact ⟨by omega, g2, g3.below hb⟩
  · obtain ⟨g1, g2, g3, g4⟩ := h.isX e; exact ⟨g1, g2, by omega, g4.below hb⟩
  · obtain ⟨g1, g2, g3, g4⟩ := h.isY e; exact ⟨g1, g2, by omega, g4.below hb⟩
  · have := (h.isX e).2.2.1; unfold Made at hm; omega
  · have := (h.isY e).2.2.1; unfold Made at hm; omega
theorem Two2.call2 (h : Two2 w0 tX tY zX zY cX cY I1 I2 r1 r2 x y b1 false b4 b5 b6 b7 l1 h1 l2 h2 bx bz w) {r : Value} (hb : Below w.heap.size w w') (hr : Stays (Made w.heap.size w'.heap.size) (I2 r) w') :
    Two2 w0 tX tY zX zY cX cY I1 I2 r1 r x y b1 true b4 b5 b6 b7 l1 h1 w.heap.size w'.heap.size bx bz w' := by
  have hs := hb.size
  have e6 : b6 = false := by cases b6; rfl; cases (h.late6 rfl).2.1
  have e7 : b7 = false := by cases b7; rfl; cases (h.late7 rfl).2.1
  subst e6 e7
  refine ⟨below_trans h.below hb, fun e => ?_, fun _ => ⟨Nat.le_refl _, h.below.size, hr⟩, fun e => ?_, fun e => ?_, h.ne, h.n1, h.n2, fun _ e hm => ?_, fun _ e hm => ?_, (fun e => by cases e), (fun e => by cases e)⟩
  · obtain ⟨g1, g2, g3⟩ := h.got1 e; exact ⟨by omega, g2, g3.below hb⟩
  · obtain ⟨g1, g2, g3, g4⟩ := h.isX e; exact ⟨g1, g2, by omega, g4.below hb⟩
  · obtain ⟨g1, g2, g3, g4⟩ := h.isY e; exact ⟨g1, g2, by omega, g4.below hb⟩
  · have := (h.isX e).2.2.1; unfold Made at hm; omega
  · have := (h.isY e).2.2.1; unfold Made at hm; omega
theorem Two2.newX (h : Two2 w0 tX tY zX zY cX cY I1 I2 r1 r2 x y b1 b3 false b5 b6 b7 l1 h1 l2 h2 bx bz w) :
    Two2 w0 tX tY zX zY cX cY I1 I2 r1 r2 (.pointer (some ⟨w.heap.size, 0, none⟩)) y b1 b3 true b5 b6 b7 l1 h1 l2 h2 w.heap.size bz (w.alloc (.cells zX.toArray tX)) := by
  have hb := below_alloc (Below.refl w.heap.size w) (.cells zX.toArray tX)
  have hs : w.heap.size < (w.alloc (.cells zX.toArray tX)).heap.size := blk_lt (RowAt.new tX zX w)
  have e6 : b6 = false := by cases b6; rfl; cases (h.late6 rfl).2.2.1
  have e7 : b7 = false := by cases b7; rfl; cases (h.late7 rfl).2.2.1
  subst e6 e7
  refine ⟨below_trans h.below hb, fun e => ?_, fun e => ?_, fun _ => ⟨rfl, h.below.size, hs, RowAt.new _ _ _⟩, fun e => ?_, fun _ e => ?_, fun e _ hm => ?_, h.n2, fun e _ hm => ?_, h.n4, (fun e => by cases e), (fun e => by cases e)⟩
  · obtain ⟨g1, g2, g3⟩ := h.got1 e; exact ⟨by omega, g2, g3.below hb⟩
  · obtain ⟨g1, g2, g3⟩ := h.got2 e; exact ⟨by omega, g2, g3.below hb⟩
  · obtain ⟨g1, g2, g3, g4⟩ := h.isY e; exact ⟨g1, g2, by omega, g4.below hb⟩
  · have := (h.isY e).2.2.1; omega
  · have := (h.got1 e).1; unfold Made at hm; omega
  · have := (h.got2 e).1; unfold Made at hm; omega
theorem Two2.newY (h : Two2 w0 tX tY zX zY cX cY I1 I2 r1 r2 x y b1 b3 b4 false b6 b7 l1 h1 l2 h2 bx bz w) :
    Two2 w0 tX tY zX zY cX cY I1 I2 r1 r2 x (.pointer (some ⟨w.heap.size, 0, none⟩)) b1 b3 b4 true b6 b7 l1 h1 l2 h2 bx w.heap.size (w.alloc (.cells zY.toArray tY)) := by
  have hb := below_alloc (Below.refl w.heap.size w) (.cells zY.toArray tY)
  have hs : w.heap.size < (w.alloc (.cells zY.toArray tY)).heap.size := blk_lt (RowAt.new tY zY w)
  have e6 : b6 = false := by cases b6; rfl; cases (h.late6 rfl).2.2.2
  have e7 : b7 = false := by cases b7; rfl; cases (h.late7 rfl).2.2.2
  subst e6 e7
  refine ⟨below_trans h.below hb, fun e => ?_, fun e => ?_, fun e => ?_, fun _ => ⟨rfl, h.below.size, hs, RowAt.new _ _ _⟩, fun e _ => ?_, h.n1, fun e _ hm => ?_, h.n3, fun e _ hm => ?_, (fun e => by cases e), (fun e => by cases e)⟩
  · obtain ⟨g1, g2, g3⟩ := h.got1 e; exact ⟨by omega, g2, g3.below hb⟩
  · obtain ⟨g1, g2, g3⟩ := h.got2 e; exact ⟨by omega, g2, g3.below hb⟩
  · obtain ⟨g1, g2, g3, g4⟩ := h.isX e; exact ⟨g1, g2, by omega, g4.below hb⟩
  · have := (h.isX e).2.2.1; omega
  · have := (h.got1 e).1; unfold Made at hm; omega
  · have := (h.got2 e).1; unfold Made at hm; omega
theorem Two2.putX (h : Two2 w0 tX tY zX zY cX cY I1 I2 r1 r2 x y true true true true false b7 l1 h1 l2 h2 bx bz w) (hk : Chg (fun b => b = bx) w w') (hr : RowAt tX bx (cX r1) w') :
    Two2 w0 tX tY zX zY cX cY I1 I2 r1 r2 x y true true true true true b7 l1 h1 l2 h2 bx bz w' := by
  have hs := hk.size
  refine ⟨Chg.below h.below hk (fun k e => by subst e; exact (h.isX rfl).2.1), fun e => ?_, fun e => ?_, fun e => ?_, fun e => ?_, h.ne, h.n1, h.n2, h.n3, h.n4, fun _ => ⟨rfl, rfl, rfl, rfl⟩, fun _ => ⟨rfl, rfl, rfl, rfl⟩⟩
  · obtain ⟨g1, g2, g3⟩ := h.got1 e; exact ⟨by omega, g2, g3.chg hk (fun b e2 => by subst e2; exact h.n1 rfl rfl)⟩
  · obtain ⟨g1, g2, g3⟩ := h.got2 e; exact ⟨by omega, g2, g3.chg hk (fun b e2 => by subst e2; exact h.n3 rfl rfl)⟩
  · obtain ⟨g1, g2, g3, g4⟩ := h.isX e; exact ⟨g1, g2, by omega, hr⟩
  · obtain ⟨g1, g2, g3, g4⟩ := h.isY e; exact ⟨g1, g2, by omega, g4.chg hk (fun e2 => h.ne rfl rfl e2.symm)⟩
theorem Two2.putY (h : Two2 w0 tX tY zX zY cX cY I1 I2 r1 r2 x y true true true true b6 false l1 h1 l2 h2 bx bz w) (hk : Chg (fun b => b = bz) w w') (hr : RowAt tY bz (cY r2) w') :
    Two2 w0 tX tY zX zY cX cY I1 I2 r1 r2 x y true true true true b6 true l1 h1 l2 h2 bx bz w' := by
  have hs := hk.size
  refine ⟨Chg.below h.below hk (fun k e => by subst e; exact (h.isY rfl).2.1), fun e => ?_, fun e => ?_, fun e => ?_, fun e => ?_, h.ne, h.n1, h.n2, h.n3, h.n4, fun _ => ⟨rfl, rfl, rfl, rfl⟩, fun _ => ⟨rfl, rfl, rfl, rfl⟩⟩
  · obtain ⟨g1, g2, g3⟩ := h.got1 e; exact ⟨by omega, g2, g3.chg hk (fun b e2 => by subst e2; exact h.n2 rfl rfl)⟩
  · obtain ⟨g1, g2, g3⟩ := h.got2 e; exact ⟨by omega, g2, g3.chg hk (fun b e2 => by subst e2; exact h.n4 rfl rfl)⟩
  · obtain ⟨g1, g2, g3, g4⟩ := h.isX e; exact ⟨g1, g2, by omega, g4.chg hk (fun e2 => h.ne rfl rfl e2)⟩
  · obtain ⟨g1, g2, g3, g4⟩ := h.isY e; exact ⟨g1, g2, by omega, hr⟩
end
end Go.Proofs.YtpfgklkdldkajaaDoor

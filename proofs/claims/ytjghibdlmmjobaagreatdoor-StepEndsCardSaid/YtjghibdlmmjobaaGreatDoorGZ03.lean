/- Which pcs come next: 'flow.next', 'flow.Next' and the document's 'Next' answer one list. Conditions: the function lies in memory as it is said; the pc is one of its code. Which pcs are come to: the two ways of finding them answer one list. Plain law; no program in sight. Which pcs are come to, computed. Plain law; no program in sight. -/
import Derived.Test.YtjghibdlmmjobaaGreatDoorGZ02
namespace Go.Proofs.YtjghibdlmmjobaaGreatDoor
open Go.RowKit

def nextOf (L : Nat) (pc : Nat) (x : Ins) : List Int :=
  let s : List Int := if x.kind ≠ 16 ∧ x.kind ≠ 12 ∧ pc + 1 < L then [(pc : Int) + 1] else []
  s ++ (if (x.kind = 12 ∨ x.kind = 13) ∧ x.a < L ∧ s ≠ [x.a] then [x.a] else [])
/-- A call that answers a list of ints; nothing old turns. -/
def Lists (l : List Int) (w : World) (e : Ending) (w' : World) : Prop := ∃ A c, e = .returned (.slice A l.length c) ∧ ReadsI w' A l ∧ Below w.heap.size w w' ∧ ∀ a, A = some a → w.heap.size ≤ a.block
theorem Left.lists {b d : Nat} {r : List Int} {w w1 w2 : World} {e : Ending} (h : Left b d r w1 e w2) (hb : Below w.heap.size w w1) (hl : w.heap.size ≤ b) (hr : r.length ≤ 100) : Lists r w e w2 := by
  obtain ⟨he, ⟨vs, hv⟩, hk⟩ := h
  exact ⟨_, _, he, ints_reads hv (by omega), below_keep hb hk hl, fun a e => by cases e; exact hl⟩
theorem reads_nil (w : World) (A : Option Addr) : ReadsI w A [] := ⟨by simp, fun h => absurd h (by simp)⟩

set_option maxRecDepth 100000 in
set_option maxHeartbeats 2000000 in
theorem next_any (F : Addr) (f : Fn) (A : Option Addr) (c : Nat) (pc : Nat) (w : World) (h : FnAt w F f A c) (hpc : pc < f.code.length) :
    Calls Tryz.prog 214 #[.pointer (some F), .int .i64 pc] w (Lists (nextOf f.code.length pc f.code[pc]) w) := by
  have b1 : Below w.heap.size w (w.alloc (.cells #[.pointer (some F)] 143)) := below_alloc (Below.refl _ _) _
  have hn : f.code.length ≤ 9223372036854775807 := h.r.1
  obtain ⟨ad, rfl, i0, i1⟩ := h.r.at_ b1 hpc
  have h2 := h.below b1
  have c2 := h2.c2
  obtain ⟨x, hx⟩ : ∃ x, f.code[pc] = x := ⟨_, rfl⟩
  rw [hx] at i0 i1 ⊢
  obtain ⟨k, a⟩ := x
  have b2 := below_alloc b1 (.cells #[.int .i64 k, .int .i64 a] 48)
  have hP2 : ((w.alloc (.cells #[.pointer (some F)] 143)).alloc (.cells #[.int .i64 k, .int .i64 a] 48)).cell? ⟨w.heap.size, 0, none⟩ = some (.pointer (some F)) :=
    Lib.cell?_alloc_some _ ((blk_cell (blk_new w _) 0).trans rfl)
  go_enter Tryz.func214, Tryz.ntmps214
  by_cases k16 : k = 16
  · subst k16
    have HD := Lib.hid (del_same ⟨w.heap.size, 0, none⟩ F f _ c none 0 [] _ hP2 (h.below b2) (reads_nil _ _) rfl)
    clear hP2
    go_wp2_with fail
    refine HD.out.mono ?_
    rintro e w4 ⟨rfl, rfl⟩
    go_wp2_with fail
    refine (comp_short _ _ _ _ (by simp)).mono ?_
    rintro e w5 ⟨rfl, rfl⟩
    go_wp2
    go_ret
    have el : nextOf f.code.length pc ⟨16, a⟩ = [] := by unfold nextOf; simp
    rw [el]
    exact ⟨_, _, rfl, reads_nil _ _, b2, fun a e => by cases e⟩
  have d16 : (k == 16) = false := by simpa using k16
  by_cases k12 : k = 12
  · subst k12
    have hb0 : RowAt 3 (w.heap.size + 1 + 1) (intsV [a]) (((w.alloc (.cells #[.pointer (some F)] 143)).alloc (.cells #[.int .i64 12, .int .i64 a] 48)).alloc (.cells #[.int .i64 (a)] 3)) := by
      have := RowAt.new 3 (intsV [a]) ((w.alloc (.cells #[.pointer (some F)] 143)).alloc (.cells #[.int .i64 12, .int .i64 a] 48))
      simpa [intsV] using this
    have b3 := below_alloc b2 (.cells #[.int .i64 (a)] 3)
    have hF3 := h.below b3
    have hP3 : (((w.alloc (.cells #[.pointer (some F)] 143)).alloc (.cells #[.int .i64 12, .int .i64 a] 48)).alloc (.cells #[.int .i64 (a)] 3)).cell? ⟨w.heap.size, 0, none⟩ = some (.pointer (some F)) := Lib.cell?_alloc_some _ hP2
    by_cases hx : (f.code.length : Int) ≤ a
    · have HD := Lib.hid (del_one ⟨w.heap.size, 0, none⟩ F f _ c _ (a) _ hP3 hF3 hb0 hx)
      clear hb0 hF3 hP3 hP2
      go_wp2_with fail
      refine HD.out.mono ?_
      rintro e w4 ⟨rfl, ⟨vs, r4⟩, k4⟩
      go_wp2_with fail
      refine (comp_short _ _ _ _ (by simp)).mono ?_
      rintro e w5 ⟨rfl, rfl⟩
      go_wp2
      go_ret
      have el : nextOf f.code.length pc ⟨12, a⟩ = [] := by unfold nextOf; first | (simp; omega) | (simp; done) | (simp_all; omega) | (simp_all; done)
      rw [el]
      exact ⟨_, _, rfl, reads_nil _ _, below_keep b3 k4 (by omega), fun a e => by cases e; show _ ≤ w.heap.size + 1 + 1; omega⟩
    · have HD := Lib.hid (del_same ⟨w.heap.size, 0, none⟩ F f _ c _ 1 [a] _ hP3 hF3 (ints_reads (vs := []) (by simpa using hb0) (by simp)) (by simp [idxI, List.findIdx?_cons, hx]))
      clear hF3 hP3 hP2
      go_wp2_with fail
      refine HD.out.mono ?_
      rintro e w4 ⟨rfl, rfl⟩
      go_wp2_with fail
      refine (comp_short _ _ _ _ (by simp)).mono ?_
      rintro e w5 ⟨rfl, rfl⟩
      go_wp2
      go_ret
      have el : nextOf f.code.length pc ⟨12, a⟩ = [a] := by unfold nextOf; first | (simp; omega) | (simp; done) | (simp_all; omega) | (simp_all; done)
      rw [el]
      exact ⟨_, _, rfl, ints_reads (vs := []) (by simpa using hb0) (by simp), b3, fun a e => by cases e; show _ ≤ w.heap.size + 1 + 1; omega⟩
  have d12 : (k == 12) = false := by simpa using k12
  by_cases k13 : k = 13
  · subst k13
    have hb0 : RowAt 3 (w.heap.size + 1 + 1) (intsV [((pc : Int) + 1), a]) (((w.alloc (.cells #[.pointer (some F)] 143)).alloc (.cells #[.int .i64 13, .int .i64 a] 48)).alloc (.cells #[.int .i64 ((pc : Int) + 1), .int .i64 a] 3)) := by
      have := RowAt.new 3 (intsV [((pc : Int) + 1), a]) ((w.alloc (.cells #[.pointer (some F)] 143)).alloc (.cells #[.int .i64 13, .int .i64 a] 48))
      simpa [intsV] using this
    have b3 := below_alloc b2 (.cells #[.int .i64 ((pc : Int) + 1), .int .i64 a] 3)
    have hF3 := h.below b3
    have hP3 : (((w.alloc (.cells #[.pointer (some F)] 143)).alloc (.cells #[.int .i64 13, .int .i64 a] 48)).alloc (.cells #[.int .i64 ((pc : Int) + 1), .int .i64 a] 3)).cell? ⟨w.heap.size, 0, none⟩ = some (.pointer (some F)) := Lib.cell?_alloc_some _ hP2
    by_cases hx : (f.code.length : Int) ≤ ((pc : Int) + 1) <;> by_cases hy : (f.code.length : Int) ≤ a
    · skip
      have HD := Lib.hid (del_both ⟨w.heap.size, 0, none⟩ F f _ c _ ((pc : Int) + 1) a _ hP3 hF3 hb0 hx hy)
      clear hb0 hF3 hP3 hP2
      go_wp2_with fail
      refine HD.out.mono ?_
      rintro e w4 ⟨rfl, ⟨vs, r4⟩, k4⟩
      go_wp2_with fail
      refine (comp_short _ _ _ _ (by simp)).mono ?_
      rintro e w5 ⟨rfl, rfl⟩
      go_wp2
      go_ret
      have el : nextOf f.code.length pc ⟨13, a⟩ = [] := by unfold nextOf; first | (have h1 : pc + 1 < f.code.length := (by omega); simp [h1]; done) | (simp; omega) | (simp; done) | (rw [if_pos (by simp; omega)]; simp; omega) | (rw [if_neg (by simp; omega)]; simp; omega)
      rw [el]
      exact ⟨_, _, rfl, ints_reads r4 (by simp), below_keep b3 k4 (by omega), fun a e => by cases e; show _ ≤ w.heap.size + 1 + 1; omega⟩
    · skip
      have HD := Lib.hid (del_first ⟨w.heap.size, 0, none⟩ F f _ c _ ((pc : Int) + 1) a _ hP3 hF3 hb0 hx hy)
      clear hb0 hF3 hP3 hP2
      go_wp2_with fail
      refine HD.out.mono ?_
      rintro e w4 ⟨rfl, ⟨vs, r4⟩, k4⟩
      go_wp2_with fail
      refine (comp_short _ _ _ _ (by simp)).mono ?_
      rintro e w5 ⟨rfl, rfl⟩
      go_wp2
      go_ret
      have el : nextOf f.code.length pc ⟨13, a⟩ = [a] := by unfold nextOf; first | (have h1 : pc + 1 < f.code.length := (by omega); simp [h1]; done) | (simp; omega) | (simp; done) | (rw [if_pos (by simp; omega)]; simp; omega) | (rw [if_neg (by simp; omega)]; simp; omega)
      rw [el]
      exact ⟨_, _, rfl, ints_reads r4 (by simp), below_keep b3 k4 (by omega), fun a e => by cases e; show _ ≤ w.heap.size + 1 + 1; omega⟩
    · skip
      have HD := Lib.hid (del_second ⟨w.heap.size, 0, none⟩ F f _ c _ ((pc : Int) + 1) a _ hP3 hF3 hb0 hx hy)
      clear hb0 hF3 hP3 hP2
      go_wp2_with fail
      refine HD.out.mono ?_
      rintro e w4 ⟨rfl, ⟨vs, r4⟩, k4⟩
      go_wp2_with fail
      refine (comp_short _ _ _ _ (by simp)).mono ?_
      rintro e w5 ⟨rfl, rfl⟩
      go_wp2
      go_ret
      have el : nextOf f.code.length pc ⟨13, a⟩ = [((pc : Int) + 1)] := by unfold nextOf; first | (have h1 : pc + 1 < f.code.length := (by omega); simp [h1]; done) | (simp; omega) | (simp; done) | (rw [if_pos (by simp; omega)]; simp; omega) | (rw [if_neg (by simp; omega)]; simp; omega)
      rw [el]
      exact ⟨_, _, rfl, ints_reads r4 (by simp), below_keep b3 k4 (by omega), fun a e => by cases e; show _ ≤ w.heap.size + 1 + 1; omega⟩
    · have HD := Lib.hid (del_same ⟨w.heap.size, 0, none⟩ F f _ c _ 2 [((pc : Int) + 1), a] _ hP3 hF3 (ints_reads (vs := []) (by simpa using hb0) (by simp)) (by simp [idxI, List.findIdx?_cons, hx, hy]))
      clear hF3 hP3 hP2
      by_cases hxy : ((pc : Int) + 1) = a
      · subst hxy
        go_wp2_with fail
        refine HD.out.mono ?_
        rintro e w4 ⟨rfl, rfl⟩
        have HC := Lib.hid (comp_same _ _ _ hb0)
        go_wp2_with fail
        refine HC.out.mono ?_
        rintro e w5 hL
        have hL2 := hL.lists b3 (by omega) (by simp)
        obtain ⟨rfl, _, _⟩ := hL
        go_wp2
        go_ret
        have el : nextOf f.code.length pc ⟨13, ((pc : Int) + 1)⟩ = [((pc : Int) + 1)] := by unfold nextOf; first | (have h1 : pc + 1 < f.code.length := (by omega); simp [h1]; done) | (simp; omega) | (simp; done) | (rw [if_pos (by simp; omega)]; simp; omega) | (rw [if_neg (by simp; omega)]; simp; omega)
        rw [el]
        exact hL2
      · have HC := Lib.hid (comp_diff _ _ _ _ hb0 hxy)
        go_wp2_with fail
        refine HD.out.mono ?_
        rintro e w4 ⟨rfl, rfl⟩
        go_wp2_with fail
        refine HC.out.mono ?_
        rintro e w5 ⟨rfl, hB⟩
        go_wp2
        go_ret
        have el : nextOf f.code.length pc ⟨13, a⟩ = [((pc : Int) + 1), a] := by unfold nextOf; first | (have h1 : pc + 1 < f.code.length := (by omega); simp [h1]; done) | (simp; omega) | (simp; done) | (rw [if_pos (by simp; omega)]; simp; omega) | (rw [if_neg (by simp; omega)]; simp; omega)
        rw [el]
        exact ⟨_, _, rfl, (ints_reads (vs := []) (by simpa using hb0) (by simp)).below hB, below_trans b3 hB, fun a e => by cases e; show _ ≤ w.heap.size + 1 + 1; omega⟩
  have d13 : (k == 13) = false := by simpa using k13
  have hb0 : RowAt 3 (w.heap.size + 1 + 1) (intsV [((pc : Int) + 1)]) (((w.alloc (.cells #[.pointer (some F)] 143)).alloc (.cells #[.int .i64 k, .int .i64 a] 48)).alloc (.cells #[.int .i64 (((pc : Int) + 1))] 3)) := by
    have := RowAt.new 3 (intsV [((pc : Int) + 1)]) ((w.alloc (.cells #[.pointer (some F)] 143)).alloc (.cells #[.int .i64 k, .int .i64 a] 48))
    simpa [intsV] using this
  have b3 := below_alloc b2 (.cells #[.int .i64 (((pc : Int) + 1))] 3)
  have hF3 := h.below b3
  have hP3 : (((w.alloc (.cells #[.pointer (some F)] 143)).alloc (.cells #[.int .i64 k, .int .i64 a] 48)).alloc (.cells #[.int .i64 (((pc : Int) + 1))] 3)).cell? ⟨w.heap.size, 0, none⟩ = some (.pointer (some F)) := Lib.cell?_alloc_some _ hP2
  by_cases hx : (f.code.length : Int) ≤ ((pc : Int) + 1)
  · have HD := Lib.hid (del_one ⟨w.heap.size, 0, none⟩ F f _ c _ (((pc : Int) + 1)) _ hP3 hF3 hb0 hx)
    clear hb0 hF3 hP3 hP2
    go_wp2_with fail
    refine HD.out.mono ?_
    rintro e w4 ⟨rfl, ⟨vs, r4⟩, k4⟩
    go_wp2_with fail
    refine (comp_short _ _ _ _ (by simp)).mono ?_
    rintro e w5 ⟨rfl, rfl⟩
    go_wp2
    go_ret
    have el : nextOf f.code.length pc ⟨k, a⟩ = [] := by unfold nextOf; first | (simp; omega) | (simp; done) | (simp_all; omega) | (simp_all; done)
    rw [el]
    exact ⟨_, _, rfl, reads_nil _ _, below_keep b3 k4 (by omega), fun a e => by cases e; show _ ≤ w.heap.size + 1 + 1; omega⟩
  · have HD := Lib.hid (del_same ⟨w.heap.size, 0, none⟩ F f _ c _ 1 [((pc : Int) + 1)] _ hP3 hF3 (ints_reads (vs := []) (by simpa using hb0) (by simp)) (by simp [idxI, List.findIdx?_cons, hx]))
    clear hF3 hP3 hP2
    go_wp2_with fail
    refine HD.out.mono ?_
    rintro e w4 ⟨rfl, rfl⟩
    go_wp2_with fail
    refine (comp_short _ _ _ _ (by simp)).mono ?_
    rintro e w5 ⟨rfl, rfl⟩
    go_wp2
    go_ret
    have el : nextOf f.code.length pc ⟨k, a⟩ = [((pc : Int) + 1)] := by unfold nextOf; first | (simp; omega) | (simp; done) | (simp_all; omega) | (simp_all; done)
    rw [el]
    exact ⟨_, _, rfl, ints_reads (vs := []) (by simpa using hb0) (by simp), b3, fun a e => by cases e; show _ ≤ w.heap.size + 1 + 1; omega⟩
end Go.Proofs.YtjghibdlmmjobaaGreatDoor

namespace Go.Proofs.YtjghibdlmmjobaaGreatDoor

/-- What comes next, as places. -/
def nx (code : List Ins) (pc : Nat) : List Nat := match code[pc]? with | some x => (nextOf code.length pc x).map Int.toNat | none => []
theorem may_mem {code : List Ins} (hm : codeMay code = true) {pc : Nat} (hpc : pc < code.length) : insMay code[pc] = true := by
  unfold codeMay at hm
  simp only [Bool.and_eq_true, List.all_eq_true] at hm
  exact hm.2 _ (List.getElem_mem hpc)
theorem nextOf_in {L pc : Nat} {x : Ins} (h : insMay x = true) {t : Int} (ht : t ∈ nextOf L pc x) : 0 ≤ t ∧ t < L := by
  obtain ⟨_, _, h3⟩ := may_of h
  unfold nextOf at ht
  simp only [List.mem_append] at ht
  rcases ht with ht | ht
  · split at ht
    · simp at ht; omega
    · simp at ht
  · by_cases hc : (x.kind = 12 ∨ x.kind = 13) ∧ x.a < L
    · have := h3 (by omega)
      split at ht <;> (split at ht <;> simp at ht <;> omega)
    · rw [if_neg (fun h => hc ⟨h.1, h.2.1⟩)] at ht; simp at ht
theorem nx_eq {code : List Ins} (hm : codeMay code = true) {pc : Nat} (hpc : pc < code.length) : nextOf code.length pc code[pc] = (nx code pc).map (fun n : Nat => (n : Int)) := by
  unfold nx
  rw [List.getElem?_eq_getElem hpc]
  simp only [List.map_map]
  conv => lhs; rw [← List.map_id (nextOf code.length pc code[pc])]
  apply List.map_congr_left
  intro t ht
  have := nextOf_in (may_mem hm hpc) ht
  simp; omega
theorem nx_lt {code : List Ins} (hm : codeMay code = true) {pc t : Nat} (ht : t ∈ nx code pc) : t < code.length := by
  unfold nx at ht
  split at ht
  · rename_i x hx
    obtain ⟨hpc, rfl⟩ := List.getElem?_eq_some_iff.1 hx
    obtain ⟨u, hu, rfl⟩ := List.mem_map.1 ht
    have := nextOf_in (may_mem hm hpc) hu
    omega
  · simp at ht
theorem nx_len (code : List Ins) (pc : Nat) : (nx code pc).length ≤ 2 := by
  unfold nx
  split
  · rw [List.length_map]
    unfold nextOf
    rw [List.length_append]
    split <;> split <;> simp
  · simp

inductive Reach (code : List Ins) : Nat → Prop
  | zero : Reach code 0
  | step {p t : Nat} : Reach code p → t ∈ nx code p → Reach code t
theorem Reach.lt {code : List Ins} (hm : codeMay code = true) {p : Nat} (h : Reach code p) : p < code.length := by
  cases h with
  | zero => unfold codeMay at hm; simp only [Bool.and_eq_true, decide_eq_true_eq] at hm; omega
  | step _ ht => exact nx_lt hm ht
open Classical in
/-- The pcs that are come to. -/
noncomputable def reachB (code : List Ins) : List Bool := (List.range code.length).map fun t => decide (Reach code t)
def Has (out : List Bool) (t : Nat) : Prop := out[t]? = some true
open Classical in
theorem reachB_of {code : List Ins} {out : List Bool} (hl : out.length = code.length) (h : ∀ t, t < code.length → (Has out t ↔ Reach code t)) : out = reachB code := by
  apply List.ext_getElem
  · simp [reachB, hl]
  · intro t h1 h2
    have ht : t < code.length := by omega
    have := h t ht
    unfold Has at this
    rw [List.getElem?_eq_getElem h1] at this
    simp only [reachB, List.getElem_map, List.getElem_range]
    by_cases hr : Reach code t
    · rw [decide_eq_true hr]; exact Option.some.inj (this.2 hr)
    · rw [decide_eq_false hr]
      cases ho : out[t] with
      | false => rfl
      | true => exact absurd (this.1 (by rw [ho])) hr
theorem Has.lt {out : List Bool} {t : Nat} (h : Has out t) : t < out.length := (List.getElem?_eq_some_iff.1 h).1
theorem has_set {out : List Bool} {t q : Nat} (h : Has out q) : Has (out.set t true) q := by
  have hq := h.lt
  unfold Has at *
  rw [List.getElem?_set]
  split
  · rename_i e; subst e; simp [hq]
  · exact h
theorem has_set_self {out : List Bool} {t : Nat} (h : t < out.length) : Has (out.set t true) t := by unfold Has; simp [h]
theorem has_set_inv {out : List Bool} {t q : Nat} (h : Has (out.set t true) q) : q = t ∨ Has out q := by
  unfold Has at *
  rw [List.getElem?_set] at h
  split at h
  · rename_i e; exact .inl e.symm
  · exact .inr h
def unset (out : List Bool) : Nat := out.countP (fun b => !b)
theorem unset_set {out : List Bool} {t : Nat} (ht : t < out.length) (h : out[t] = false) : unset (out.set t true) + 1 = unset out := by
  unfold unset
  rw [List.countP_set ht]
  have : 0 < out.countP fun b => !b := List.countP_pos_iff.2 ⟨out[t], List.getElem_mem ht, by simp [h]⟩
  simp [h]; omega

/-- The program's search: what is marked, what is to be looked at. -/
structure FInv (code : List Ins) (out : List Bool) (row : List Nat) : Prop where
  len : out.length = code.length
  zero : Has out 0
  sound : ∀ t, Has out t → Reach code t
  inrow : ∀ q ∈ row, Has out q
  closed : ∀ q, Has out q → q ∈ row ∨ ∀ t ∈ nx code q, Has out t
theorem FInv.done {code : List Ins} {out : List Bool} (h : FInv code out []) : out = reachB code :=
  reachB_of h.len fun t _ => ⟨h.sound t, fun hr => by
    induction hr with
    | zero => exact h.zero
    | @step p t _ ht ih =>
      by_cases hp : p < code.length
      · rcases h.closed p (ih hp) with hc | hc
        · simp at hc
        · exact hc _ ht
      · unfold nx at ht; rw [List.getElem?_eq_none (by omega)] at ht; simp at ht⟩
theorem FInv.mark {code : List Ins} {out : List Bool} {row : List Nat} (h : FInv code out row) {pc t : Nat} (hp : Has out pc) (ht : t ∈ nx code pc) (hl : t < out.length) : FInv code (out.set t true) (row ++ [t]) where
  len := by simpa using h.len
  zero := has_set h.zero
  sound := fun q hq => by
    rcases has_set_inv hq with rfl | hq
    · exact .step (h.sound pc hp) ht
    · exact h.sound q hq
  inrow := fun q hq => by
    rcases List.mem_append.1 hq with hq | hq
    · exact has_set (h.inrow q hq)
    · simp at hq; subst hq; exact has_set_self hl
  closed := fun q hq => by
    rcases has_set_inv hq with rfl | hq
    · exact .inl (by simp)
    · rcases h.closed q hq with hc | hc
      · exact .inl (by simp [hc])
      · exact .inr fun t ht => has_set (hc t ht)
theorem FInv.pop {code : List Ins} {out : List Bool} {pc : Nat} {row : List Nat} (h : FInv code out (pc :: row)) (hd : ∀ t ∈ nx code pc, Has out t) : FInv code out row where
  len := h.len
  zero := h.zero
  sound := h.sound
  inrow := fun q hq => h.inrow q (by simp [hq])
  closed := fun q hq => by
    rcases h.closed q hq with hc | hc
    · rcases List.mem_cons.1 hc with rfl | hc
      · exact .inr hd
      · exact .inl hc
    · exact .inr hc
theorem FInv.start {code : List Ins} (hm : codeMay code = true) : FInv code ((List.replicate code.length false).set 0 true) [0] := by
  have h0 := Reach.lt hm .zero
  refine ⟨by simp, has_set_self (by simpa using h0), fun t ht => ?_, fun q hq => ?_, fun q hq => ?_⟩
  · rcases has_set_inv ht with rfl | ht
    · exact .zero
    · unfold Has at ht; simp [List.getElem?_replicate] at ht
  · simp at hq; subst hq; exact has_set_self (by simpa using h0)
  · rcases has_set_inv hq with rfl | hq
    · exact .inl (by simp)
    · unfold Has at hq; simp [List.getElem?_replicate] at hq
/-- The document's search: what is marked, what is to be looked at. -/
structure RInv (code : List Ins) (out : List Bool) (work : List Nat) : Prop where
  len : out.length = code.length
  zero : Has out 0 ∨ 0 ∈ work
  sound : ∀ t, Has out t → Reach code t
  inwork : ∀ q ∈ work, Reach code q
  closed : ∀ q, Has out q → ∀ t ∈ nx code q, Has out t ∨ t ∈ work
theorem RInv.done {code : List Ins} {out : List Bool} (h : RInv code out []) : out = reachB code :=
  reachB_of h.len fun t _ => ⟨h.sound t, fun hr => by
    induction hr with
    | zero => exact h.zero.resolve_right (by simp)
    | @step p t _ ht ih =>
      by_cases hp : p < code.length
      · exact (h.closed p (ih hp) _ ht).resolve_right (by simp)
      · unfold nx at ht; rw [List.getElem?_eq_none (by omega)] at ht; simp at ht⟩
theorem RInv.skip {code : List Ins} {out : List Bool} {pc : Nat} {work : List Nat} (h : RInv code out (pc :: work)) (hd : Has out pc) : RInv code out work where
  len := h.len
  zero := by
    rcases h.zero with h0 | h0
    · exact .inl h0
    · rcases List.mem_cons.1 h0 with e | h0
      · subst e; exact .inl hd
      · exact .inr h0
  sound := h.sound
  inwork := fun q hq => h.inwork q (by simp [hq])
  closed := fun q hq t ht => by
    rcases h.closed q hq t ht with hc | hc
    · exact .inl hc
    · rcases List.mem_cons.1 hc with rfl | hc
      · exact .inl hd
      · exact .inr hc
theorem RInv.mark {code : List Ins} {out : List Bool} {pc : Nat} {work : List Nat} (h : RInv code out (pc :: work)) (hl : pc < out.length) : RInv code (out.set pc true) (work ++ nx code pc) where
  len := by simpa using h.len
  zero := by
    rcases h.zero with h0 | h0
    · exact .inl (has_set h0)
    · rcases List.mem_cons.1 h0 with e | h0
      · subst e; exact .inl (has_set_self hl)
      · exact .inr (by simp [h0])
  sound := fun q hq => by
    rcases has_set_inv hq with rfl | hq
    · exact h.inwork q (by simp)
    · exact h.sound q hq
  inwork := fun q hq => by
    rcases List.mem_append.1 hq with hq | hq
    · exact h.inwork q (by simp [hq])
    · exact .step (h.inwork pc (by simp)) hq
  closed := fun q hq t ht => by
    rcases has_set_inv hq with rfl | hq
    · exact .inr (by simp [ht])
    · rcases h.closed q hq t ht with hc | hc
      · exact .inl (has_set hc)
      · rcases List.mem_cons.1 hc with rfl | hc
        · exact .inl (has_set_self hl)
        · exact .inr (by simp [hc])
theorem RInv.start (code : List Ins) : RInv code (List.replicate code.length false) [0] :=
  ⟨by simp, .inr (by simp), fun t ht => by unfold Has at ht; simp [List.getElem?_replicate] at ht, fun q hq => by simp at hq; subst hq; exact .zero, fun q hq => by unfold Has at hq; simp [List.getElem?_replicate] at hq⟩
end Go.Proofs.YtjghibdlmmjobaaGreatDoor

namespace Go.Proofs.YtjghibdlmmjobaaGreatDoor

def bstep : List Nat → List Bool → List Nat → List Bool × List Nat
  | [], out, row => (out, row)
  | t :: ts, out, row => if out[t]? = some false then bstep ts (out.set t true) (row ++ [t]) else bstep ts out row
def bfsR (code : List Ins) : Nat → List Bool → List Nat → List Bool
  | 0, out, _ => out
  | _ + 1, out, [] => out
  | n + 1, out, pc :: row => bfsR code n (bstep (nx code pc) out row).1 (bstep (nx code pc) out row).2
def reachL (code : List Ins) : List Bool := bfsR code (code.length + 1) ((List.replicate code.length false).set 0 true) [0]
theorem bstep_inv {code : List Ins} {pc : Nat} (hm : codeMay code = true) : ∀ (ts : List Nat) (out : List Bool) (row : List Nat), (∀ t ∈ ts, t ∈ nx code pc) → FInv code out (pc :: row) →
    FInv code (bstep ts out row).1 (pc :: (bstep ts out row).2) ∧ (∀ q, Has out q → Has (bstep ts out row).1 q) ∧ (∀ t ∈ ts, Has (bstep ts out row).1 t) ∧ unset (bstep ts out row).1 + (bstep ts out row).2.length = unset out + row.length
  | [], out, row, _, h => ⟨h, fun _ h => h, fun _ h => by simp at h, rfl⟩
  | t :: ts, out, row, ht, h => by
    have hx : t < out.length := by rw [h.len]; exact nx_lt hm (ht t (by simp))
    by_cases ho : out[t]? = some false
    · have hof : out[t] = false := by rw [List.getElem?_eq_getElem hx] at ho; exact Option.some.inj ho
      have h2 : FInv code (out.set t true) (pc :: (row ++ [t])) := by
        have := h.mark (h.inrow pc (by simp)) (ht t (by simp)) hx
        rwa [List.cons_append] at this
      obtain ⟨i1, i2, i3, i4⟩ := bstep_inv hm ts (out.set t true) (row ++ [t]) (fun q hq => ht q (by simp [hq])) h2
      have e : bstep (t :: ts) out row = bstep ts (out.set t true) (row ++ [t]) := by rw [bstep, if_pos ho]
      rw [e]
      refine ⟨i1, fun q hq => i2 q (has_set hq), fun q hq => ?_, ?_⟩
      · rcases List.mem_cons.1 hq with rfl | hq
        · exact i2 _ (has_set_self hx)
        · exact i3 q hq
      · have := unset_set hx hof
        rw [i4]; simp; omega
    · obtain ⟨i1, i2, i3, i4⟩ := bstep_inv hm ts out row (fun q hq => ht q (by simp [hq])) h
      have e : bstep (t :: ts) out row = bstep ts out row := by rw [bstep, if_neg ho]
      rw [e]
      refine ⟨i1, i2, fun q hq => ?_, i4⟩
      rcases List.mem_cons.1 hq with rfl | hq
      · refine i2 _ ?_
        unfold Has
        rw [List.getElem?_eq_getElem hx] at ho ⊢
        cases hb : out[q] with
        | true => rfl
        | false => rw [hb] at ho; exact absurd rfl ho
      · exact i3 q hq
theorem bfsR_eq {code : List Ins} (hm : codeMay code = true) : ∀ (n : Nat) (out : List Bool) (row : List Nat), FInv code out row → unset out + row.length ≤ n → bfsR code n out row = reachB code
  | 0, out, row, h, hn => by
    obtain rfl : row = [] := List.eq_nil_of_length_eq_zero (by omega)
    exact h.done
  | n + 1, out, [], h, _ => h.done
  | n + 1, out, pc :: row, h, hn => by
    obtain ⟨i1, i2, i3, i4⟩ := bstep_inv (pc := pc) hm (nx code pc) out row (fun _ h => h) h
    rw [bfsR]
    exact bfsR_eq hm n _ _ (i1.pop i3) (by rw [i4]; simp at hn; omega)
theorem reachL_eq {code : List Ins} (hm : codeMay code = true) : reachL code = reachB code :=
  bfsR_eq hm _ _ _ (FInv.start hm) (by
    have h0 := Reach.lt hm .zero
    have hs := unset_set (out := List.replicate code.length false) (t := 0) (by simpa using h0) (by simp)
    have hu : unset (List.replicate code.length false) = code.length := by simp [unset, List.countP_replicate]
    rw [hu] at hs
    simp; omega)
theorem reachL_len {code : List Ins} (hm : codeMay code = true) : (reachL code).length = code.length := by rw [reachL_eq hm]; simp [reachB]
theorem reachL_iff {code : List Ins} (hm : codeMay code = true) {t : Nat} : Has (reachL code) t ↔ Reach code t := by
  rw [reachL_eq hm]
  unfold Has reachB
  rw [List.getElem?_map]
  by_cases ht : t < code.length
  · rw [List.getElem?_range ht]; simp
  · rw [List.getElem?_eq_none (by simpa using ht)]
    simp
    exact fun h => ht (h.lt hm)
end Go.Proofs.YtjghibdlmmjobaaGreatDoor

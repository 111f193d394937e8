/- Which pcs come next: 'flow.next', 'flow.Next' and the document's 'Next' answer one list. Conditions: the function lies in memory as it is said; the pc is one of its code. -/
import Derived.Test.YtpfgklkdldkajaaDoorNext
namespace Go.Proofs.YtpfgklkdldkajaaDoor
open Go.RowKit

def nextOf (L : Nat) (pc : Nat) (x : Ins) : List Int :=
  let s : List Int := if x.kind ≠ 16 ∧ x.kind ≠ 12 ∧ pc + 1 < L then [(pc : Int) + 1] else []
  s ++ (if (x.kind = 12 ∨ x.kind = 13) ∧ x.a < L ∧ s ≠ [x.a] then [x.a] else [])
/-- A call that answers a list of ints; nothing old turns. -/
def Lists (l : List Int) (w : World) (e : Ending) (w' : World) : Prop := ∃ A c, e = .returned (.slice A l.length c) ∧ ReadsI w' A l ∧ Below w.heap.size w w' ∧ ∀ a, A = some a → w.heap.size ≤ a.block
theorem Left.lists {b d : Nat} {r : List Int} {w w1 w2 : World} {e : Ending} (h : Left b d r w1 e w2) (hb : Below w.heap.size w w1) (hl : w.heap.size ≤ b) (hr : r.length ≤ 100) : Lists r w e w2 := by
  obtain ⟨he, ⟨vs, hv⟩, hk⟩ := h
  exact ⟨_, _, he, ints_reads hv (by omega), below_keep hb hk hl, fun a e => by cases e; exact hl⟩
theorem reads_nil (w : World) (A : Option Addr) : ReadsI w A [] := ⟨by simp, fun h => absurd h (by simp)⟩

set_option maxRecDepth 100000 in
set_option maxHeartbeats 2000000 in
theorem next_any (F : Addr) (f : Fn) (A : Option Addr) (c : Nat) (pc : Nat) (w : World) (h : FnAt w F f A c) (hpc : pc < f.code.length) :
    Calls Tryd.prog 65 #[.pointer (some F), .int .i64 pc] w (Lists (nextOf f.code.length pc f.code[pc]) w) := by
  have b1 : Below w.heap.size w (w.alloc (.cells #[.pointer (some F)] 83)) := below_alloc (Below.refl _ _) _
  have hn : f.code.length ≤ 9223372036854775807 := h.r.1
  obtain ⟨ad, rfl, i0, i1⟩ := h.r.at_ b1 hpc
  have h2 := h.below b1
  have c2 := h2.c2
  obtain ⟨x, hx⟩ : ∃ x, f.code[pc] = x := ⟨_, rfl⟩
  rw [hx] at i0 i1 ⊢
  obtain ⟨k, a⟩ := x
  have b2 := below_alloc b1 (.cells #[.int .i64 k, .int .i64 a] 28)
  have hP2 : ((w.alloc (.cells #[.pointer (some F)] 83)).alloc (.cells #[.int .i64 k, .int .i64 a] 28)).cell? ⟨w.heap.size, 0, none⟩ = some (.pointer (some F)) :=
    Lib.cell?_alloc_some _ ((blk_cell (blk_new w _) 0).trans rfl)
  go_enter Tryd.func65, Tryd.ntmps65
  by_cases k16 : k = 16
  · subst k16
    have HD := Lib.hid (del_same ⟨w.heap.size, 0, none⟩ F f _ c none 0 [] _ hP2 (h.below b2) (reads_nil _ _) rfl)
    clear hP2
    go_wp2_with fail
    refine HD.out.mono ?_
    rintro e w4 ⟨rfl, rfl⟩
    go_wp2_with fail
    refine (comp_short _ _ _ _ (by simp)).mono ?_
    rintro e w5 ⟨rfl, rfl⟩
    go_wp2
    go_ret
    have el : nextOf f.code.length pc ⟨16, a⟩ = [] := by unfold nextOf; simp
    rw [el]
    exact ⟨_, _, rfl, reads_nil _ _, b2, fun a e => by cases e⟩
  have d16 : (k == 16) = false := by simpa using k16
  by_cases k12 : k = 12
  · subst k12
    have hb0 : RowAt 3 (w.heap.size + 1 + 1) (intsV [a]) (((w.alloc (.cells #[.pointer (some F)] 83)).alloc (.cells #[.int .i64 12, .int .i64 a] 28)).alloc (.cells #[.int .i64 (a)] 3)) := by
      have := RowAt.new 3 (intsV [a]) ((w.alloc (.cells #[.pointer (some F)] 83)).alloc (.cells #[.int .i64 12, .int .i64 a] 28))
      simpa [intsV] using this
    have b3 := below_alloc b2 (.cells #[.int .i64 (a)] 3)
    have hF3 := h.below b3
    have hP3 : (((w.alloc (.cells #[.pointer (some F)] 83)).alloc (.cells #[.int .i64 12, .int .i64 a] 28)).alloc (.cells #[.int .i64 (a)] 3)).cell? ⟨w.heap.size, 0, none⟩ = some (.pointer (some F)) := Lib.cell?_alloc_some _ hP2
    by_cases hx : (f.code.length : Int) ≤ a
    · have HD := Lib.hid (del_one ⟨w.heap.size, 0, none⟩ F f _ c _ (a) _ hP3 hF3 hb0 hx)
      clear hb0 hF3 hP3 hP2
      go_wp2_with fail
      refine HD.out.mono ?_
      rintro e w4 ⟨rfl, ⟨vs, r4⟩, k4⟩
      go_wp2_with fail
      refine (comp_short _ _ _ _ (by simp)).mono ?_
      rintro e w5 ⟨rfl, rfl⟩
      go_wp2
      go_ret
      have el : nextOf f.code.length pc ⟨12, a⟩ = [] := by unfold nextOf; first | (simp; omega) | (simp; done) | (simp_all; omega) | (simp_all; done)
      rw [el]
      exact ⟨_, _, rfl, reads_nil _ _, below_keep b3 k4 (by omega), fun a e => by cases e; show _ ≤ w.heap.size + 1 + 1; omega⟩
    · have HD := Lib.hid (del_same ⟨w.heap.size, 0, none⟩ F f _ c _ 1 [a] _ hP3 hF3 (ints_reads (vs := []) (by simpa using hb0) (by simp)) (by simp [idxI, List.findIdx?_cons, hx]))
      clear hF3 hP3 hP2
      go_wp2_with fail
      refine HD.out.mono ?_
      rintro e w4 ⟨rfl, rfl⟩
      go_wp2_with fail
      refine (comp_short _ _ _ _ (by simp)).mono ?_
      rintro e w5 ⟨rfl, rfl⟩
      go_wp2
      go_ret
      have el : nextOf f.code.length pc ⟨12, a⟩ = [a] := by unfold nextOf; first | (simp; omega) | (simp; done) | (simp_all; omega) | (simp_all; done)
      rw [el]
      exact ⟨_, _, rfl, ints_reads (vs := []) (by simpa using hb0) (by simp), b3, fun a e => by cases e; show _ ≤ w.heap.size + 1 + 1; omega⟩
  have d12 : (k == 12) = false := by simpa using k12
  by_cases k13 : k = 13
  · subst k13
    have hb0 : RowAt 3 (w.heap.size + 1 + 1) (intsV [((pc : Int) + 1), a]) (((w.alloc (.cells #[.pointer (some F)] 83)).alloc (.cells #[.int .i64 13, .int .i64 a] 28)).alloc (.cells #[.int .i64 ((pc : Int) + 1), .int .i64 a] 3)) := by
      have := RowAt.new 3 (intsV [((pc : Int) + 1), a]) ((w.alloc (.cells #[.pointer (some F)] 83)).alloc (.cells #[.int .i64 13, .int .i64 a] 28))
      simpa [intsV] using this
    have b3 := below_alloc b2 (.cells #[.int .i64 ((pc : Int) + 1), .int .i64 a] 3)
    have hF3 := h.below b3
    have hP3 : (((w.alloc (.cells #[.pointer (some F)] 83)).alloc (.cells #[.int .i64 13, .int .i64 a] 28)).alloc (.cells #[.int .i64 ((pc : Int) + 1), .int .i64 a] 3)).cell? ⟨w.heap.size, 0, none⟩ = some (.pointer (some F)) := Lib.cell?_alloc_some _ hP2
    by_cases hx : (f.code.length : Int) ≤ ((pc : Int) + 1) <;> by_cases hy : (f.code.length : Int) ≤ a
    · skip
      have HD := Lib.hid (del_both ⟨w.heap.size, 0, none⟩ F f _ c _ ((pc : Int) + 1) a _ hP3 hF3 hb0 hx hy)
      clear hb0 hF3 hP3 hP2
      go_wp2_with fail
      refine HD.out.mono ?_
      rintro e w4 ⟨rfl, ⟨vs, r4⟩, k4⟩
      go_wp2_with fail
      refine (comp_short _ _ _ _ (by simp)).mono ?_
      rintro e w5 ⟨rfl, rfl⟩
      go_wp2
      go_ret
      have el : nextOf f.code.length pc ⟨13, a⟩ = [] := by unfold nextOf; first | (have h1 : pc + 1 < f.code.length := (by omega); simp [h1]; done) | (simp; omega) | (simp; done) | (rw [if_pos (by simp; omega)]; simp; omega) | (rw [if_neg (by simp; omega)]; simp; omega)
      rw [el]
      exact ⟨_, _, rfl, ints_reads r4 (by simp), below_keep b3 k4 (by omega), fun a e => by cases e; show _ ≤ w.heap.size + 1 + 1; omega⟩
    · skip
      have HD := Lib.hid (del_first ⟨w.heap.size, 0, none⟩ F f _ c _ ((pc : Int) + 1) a _ hP3 hF3 hb0 hx hy)
      clear hb0 hF3 hP3 hP2
      go_wp2_with fail
      refine HD.out.mono ?_
      rintro e w4 ⟨rfl, ⟨vs, r4⟩, k4⟩
      go_wp2_with fail
      refine (comp_short _ _ _ _ (by simp)).mono ?_
      rintro e w5 ⟨rfl, rfl⟩
      go_wp2
      go_ret
      have el : nextOf f.code.length pc ⟨13, a⟩ = [a] := by unfold nextOf; first | (have h1 : pc + 1 < f.code.length := (by omega); simp [h1]; done) | (simp; omega) | (simp; done) | (rw [if_pos (by simp; omega)]; simp; omega) | (rw [if_neg (by simp; omega)]; simp; omega)
      rw [el]
      exact ⟨_, _, rfl, ints_reads r4 (by simp), below_keep b3 k4 (by omega), fun a e => by cases e; show _ ≤ w.heap.size + 1 + 1; omega⟩
    · skip
      have HD := Lib.hid (del_second ⟨w.heap.size, 0, none⟩ F f _ c _ ((pc : Int) + 1) a _ hP3 hF3 hb0 hx hy)
      clear hb0 hF3 hP3 hP2
      go_wp2_with fail
      refine HD.out.mono ?_
      rintro e w4 ⟨rfl, ⟨vs, r4⟩, k4⟩
      go_wp2_with fail
      refine (comp_short _ _ _ _ (by simp)).mono ?_
      rintro e w5 ⟨rfl, rfl⟩
      go_wp2
      go_ret
      have el : nextOf f.code.length pc ⟨13, a⟩ = [((pc : Int) + 1)] := by unfold nextOf; first | (have h1 : pc + 1 < f.code.length := (by omega); simp [h1]; done) | (simp; omega) | (simp; done) | (rw [if_pos (by simp; omega)]; simp; omega) | (rw [if_neg (by simp; omega)]; simp; omega)
      rw [el]
      exact ⟨_, _, rfl, ints_reads r4 (by simp), below_keep b3 k4 (by omega), fun a e => by cases e; show _ ≤ w.heap.size + 1 + 1; omega⟩
    · have HD := Lib.hid (del_same ⟨w.heap.size, 0, none⟩ F f _ c _ 2 [((pc : Int) + 1), a] _ hP3 hF3 (ints_reads (vs := []) (by simpa using hb0) (by simp)) (by simp [idxI, List.findIdx?_cons, hx, hy]))
      clear hF3 hP3 hP2
      by_cases hxy : ((pc : Int) + 1) = a
      · subst hxy
        go_wp2_with fail
        refine HD.out.mono ?_
        rintro e w4 ⟨rfl, rfl⟩
        have HC := Lib.hid (comp_same _ _ _ hb0)
        go_wp2_with fail
        refine HC.out.mono ?_
        rintro e w5 hL
        have hL2 := hL.lists b3 (by omega) (by simp)
        obtain ⟨rfl, _, _⟩ := hL
        go_wp2
        go_ret
        have el : nextOf f.code.length pc ⟨13, ((pc : Int) + 1)⟩ = [((pc : Int) + 1)] := by unfold nextOf; first | (have h1 : pc + 1 < f.code.length := (by omega); simp [h1]; done) | (simp; omega) | (simp; done) | (rw [if_pos (by simp; omega)]; simp; omega) | (rw [if_neg (by simp; omega)]; simp; omega)
        rw [el]
        exact hL2
      · have HC := Lib.hid (comp_diff _ _ _ _ hb0 hxy)
        go_wp2_with fail
        refine HD.out.mono ?_
        rintro e w4 ⟨rfl, rfl⟩
        go_wp2_with fail
        refine HC.out.mono ?_
        rintro e w5 ⟨rfl, hB⟩
        go_wp2
        go_ret
        have el : nextOf f.code.length pc ⟨13, a⟩ = [((pc : Int) + 1), a] := by unfold nextOf; first | (have h1 : pc + 1 < f.code.length := (by omega); simp [h1]; done) | (simp; omega) | (simp; done) | (rw [if_pos (by simp; omega)]; simp; omega) | (rw [if_neg (by simp; omega)]; simp; omega)
        rw [el]
        exact ⟨_, _, rfl, (ints_reads (vs := []) (by simpa using hb0) (by simp)).below hB, below_trans b3 hB, fun a e => by cases e; show _ ≤ w.heap.size + 1 + 1; omega⟩
  have d13 : (k == 13) = false := by simpa using k13
  have hb0 : RowAt 3 (w.heap.size + 1 + 1) (intsV [((pc : Int) + 1)]) (((w.alloc (.cells #[.pointer (some F)] 83)).alloc (.cells #[.int .i64 k, .int .i64 a] 28)).alloc (.cells #[.int .i64 (((pc : Int) + 1))] 3)) := by
    have := RowAt.new 3 (intsV [((pc : Int) + 1)]) ((w.alloc (.cells #[.pointer (some F)] 83)).alloc (.cells #[.int .i64 k, .int .i64 a] 28))
    simpa [intsV] using this
  have b3 := below_alloc b2 (.cells #[.int .i64 (((pc : Int) + 1))] 3)
  have hF3 := h.below b3
  have hP3 : (((w.alloc (.cells #[.pointer (some F)] 83)).alloc (.cells #[.int .i64 k, .int .i64 a] 28)).alloc (.cells #[.int .i64 (((pc : Int) + 1))] 3)).cell? ⟨w.heap.size, 0, none⟩ = some (.pointer (some F)) := Lib.cell?_alloc_some _ hP2
  by_cases hx : (f.code.length : Int) ≤ ((pc : Int) + 1)
  · have HD := Lib.hid (del_one ⟨w.heap.size, 0, none⟩ F f _ c _ (((pc : Int) + 1)) _ hP3 hF3 hb0 hx)
    clear hb0 hF3 hP3 hP2
    go_wp2_with fail
    refine HD.out.mono ?_
    rintro e w4 ⟨rfl, ⟨vs, r4⟩, k4⟩
    go_wp2_with fail
    refine (comp_short _ _ _ _ (by simp)).mono ?_
    rintro e w5 ⟨rfl, rfl⟩
    go_wp2
    go_ret
    have el : nextOf f.code.length pc ⟨k, a⟩ = [] := by unfold nextOf; first | (simp; omega) | (simp; done) | (simp_all; omega) | (simp_all; done)
    rw [el]
    exact ⟨_, _, rfl, reads_nil _ _, below_keep b3 k4 (by omega), fun a e => by cases e; show _ ≤ w.heap.size + 1 + 1; omega⟩
  · have HD := Lib.hid (del_same ⟨w.heap.size, 0, none⟩ F f _ c _ 1 [((pc : Int) + 1)] _ hP3 hF3 (ints_reads (vs := []) (by simpa using hb0) (by simp)) (by simp [idxI, List.findIdx?_cons, hx]))
    clear hF3 hP3 hP2
    go_wp2_with fail
    refine HD.out.mono ?_
    rintro e w4 ⟨rfl, rfl⟩
    go_wp2_with fail
    refine (comp_short _ _ _ _ (by simp)).mono ?_
    rintro e w5 ⟨rfl, rfl⟩
    go_wp2
    go_ret
    have el : nextOf f.code.length pc ⟨k, a⟩ = [((pc : Int) + 1)] := by unfold nextOf; first | (simp; omega) | (simp; done) | (simp_all; omega) | (simp_all; done)
    rw [el]
    exact ⟨_, _, rfl, ints_reads (vs := []) (by simpa using hb0) (by simp), b3, fun a e => by cases e; show _ ≤ w.heap.size + 1 + 1; omega⟩
end Go.Proofs.YtpfgklkdldkajaaDoor

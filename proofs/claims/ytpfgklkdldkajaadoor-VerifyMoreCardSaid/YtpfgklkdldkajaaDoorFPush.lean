/- A frame more, on frames of the call's own. Plain lemmas. -/
import Derived.Test.YtpfgklkdldkajaaDoorLawKit
namespace Go.Proofs.YtpfgklkdldkajaaDoor
open Go.RowKit

def frC (f : Frm) (a b : Value) : List Value := [.int .i64 f.fn, .int .i64 f.pc, a, b]
theorem OwnFr.push {w w1 : World} {base N n : Nat} {v v' a b : Value} {fs : List Frm} {vss : List (List Value)} {f : Frm} (h : OwnFr w base v fs vss) (hn : fs.length = n)
    (hG : GrownC w base 149 4 v (n + 1) ((List.zipWith KFr.cells fs vss).flatten ++ frC f a b) v' w1) (ia : InnAt w base a (innI f.locals)) (ib : InnAt w base b (innI f.stack))
    (hold : ∀ u ∈ v :: vss.flatten, ∀ x, ob u = some x → x < N) (ha : ∀ x, ob a = some x → N ≤ x) (hb : ∀ x, ob b = some x → N ≤ x) (hab : ∀ x, ob a = some x → ob b ≠ some x) : OwnFr w1 base v' (fs ++ [f]) (vss ++ [[a, b]]) := by
  refine OwnG.grow (x := f) h (by rw [hn]; exact hG) rfl (fun j hj hj' => ?_) (fun j hj x hx hx2 => ?_) (fun j hj j' hj' hne x hx hx2 => ?_) (fun j hj x hx q hq p hp hx2 => ?_)
  · match j, hj with
    | 0, _ => exact ia
    | 1, _ => exact ib
  · have := hold v (by simp) x hx2
    match j, hj with
    | 0, _ => have := ha x hx; omega
    | 1, _ => have := hb x hx; omega
  · match j, hj, j', hj' with
    | 0, _, 0, _ => exact absurd rfl hne
    | 0, _, 1, _ => exact hab x hx hx2
    | 1, _, 0, _ => exact hab x hx2 hx
    | 1, _, 1, _ => exact absurd rfl hne
  · have := hold _ (List.mem_cons_of_mem _ (List.mem_flatten.2 ⟨_, List.getElem_mem hq, List.getElem_mem hp⟩)) x hx2
    match j, hj with
    | 0, _ => have := ha x hx; omega
    | 1, _ => have := hb x hx; omega
theorem frame_src {w : World} {g : Nat} {f : Frm} {A1 A2 : Option Addr} {n1 c1 n2 c2 : Nat} (h : RowAt 149 g (frC f (.slice A1 n1 c1) (.slice A2 n2 c2)) w) : Src Tryd.prog 4 72 (.slice (some ⟨g, 0, none⟩) 1 1) 1 (frC f (.slice A1 n1 c1) (.slice A2 n2 c2)) w :=
  Src.ofSlice _ Tryd.underlying72 _ 1 1 _ rfl (fun j u hu => by
    obtain ⟨hj, rfl⟩ := List.getElem?_eq_some_iff.1 hu
    rw [add_plain]
    exact h.cell (k := j) hj) (fun u hu => by
    simp [frC] at hu
    rcases hu with rfl | rfl | rfl | rfl <;> rfl)
theorem innI_new {w : World} {base g : Nat} {xs : List Int} {n : Nat} (h : RowAt 3 g (intsV xs) w) (hb : base ≤ g) (hn : xs.length = n) (hm : n ≤ 1000) : InnAt w base (.slice (some ⟨g, 0, none⟩) n n) (innI xs) := by
  subst hn
  exact crow_of (sz := 1) h hb (show (intsV xs).length = xs.length * 1 by rw [intsV_len, Nat.mul_one]) (by unfold maxLen; omega)
theorem innI_nil (w : World) (base : Nat) : InnAt w base (.slice none 0 0) (innI []) := CRow.nil _ _ _ _
theorem ob_new {g n : Nat} {x : Nat} (h : ob (.slice (some ⟨g, 0, none⟩) n n) = some x) : x = g := by have := ob_own h; cases this; rfl
end Go.Proofs.YtpfgklkdldkajaaDoor

/- From the row's reading of a slice of acts to its cells. -/
import Derived.Test.YtjjnccllamgbaaaDoorArenas
import Derived.Test.YtjjnccllamgbaaaDoorDoor
import Derived.Deep.Slices
namespace Go.Proofs.YtjjnccllamgbaaaDoor
open Go.RowKit

instance : Inhabited Act := ⟨⟨0, 0, 0, 0⟩⟩
theorem len_four {α : Type} {l : List α} (h : l.length = 4) : ∃ a b c d, l = [a, b, c, d] := by
  match l, h with
  | [a, b, c, d], _ => exact ⟨a, b, c, d, rfl⟩
theorem add_pos (a : Addr) (j : Nat) (hj : 0 < j) : a.add j = ⟨a.block, a.off + j, none⟩ := by unfold Addr.add; rw [if_neg (by omega)]
theorem add_nil (a : Addr) : a.add 0 = a := by unfold Addr.add; rw [if_pos rfl]
theorem cells_int : Tryd.prog.cellsOf 3 = 1 := by kernel_rfl
theorem cells_act : Tryd.prog.cellsOf 33 = 4 := by kernel_rfl
theorem laid_out : laidOutB Tryd.prog = true := by kernel_rfl
section
variable {H : Type} {enc : TypeId × Value → H} {w : World} {base : Nat} {spare : Nat → Bool} {held : Bool}

theorem open_act {fuel : Nat} {cs : List Value} {x : DataW H × List MemPlace} (h : DataW.trod enc Tryd.prog w base spare held fuel 33 cs = some x) :
    ∃ a : Act, cs = [.int .i64 a.kind, .int .i64 a.slot, .int .i64 a.gen, .int .i64 a.stamp] := by
  obtain ⟨xs, n, _, _, hl, hxl, hf⟩ := DataW.trod_struct Tryd.underlying33 h
  rw [cells_act] at hl
  obtain ⟨c0, c1, c2, c3, rfl⟩ := len_four hl
  have hx4 : xs.length = 4 := hxl
  obtain ⟨y0, y1, y2, y3, rfl⟩ := len_four hx4
  have g0 := hf 0 _ rfl
  have g1 := hf 1 _ rfl
  have g2 := hf 2 _ rfl
  have g3 := hf 3 _ rfl
  simp [cells_int] at g0 g1 g2 g3
  obtain ⟨n0, e0, _⟩ := DataW.trod_int Tryd.underlying3 g0
  obtain ⟨n1, e1, _⟩ := DataW.trod_int Tryd.underlying3 g1
  obtain ⟨n2, e2, _⟩ := DataW.trod_int Tryd.underlying3 g2
  obtain ⟨n3, e3, _⟩ := DataW.trod_int Tryd.underlying3 g3
  simp at e0 e1 e2 e3
  exact ⟨⟨n0, n1, n2, n3⟩, by rw [e0, e1, e2, e3]⟩

theorem open_acts {fuel : Nat} {a0 : Option Addr} {len cap : Nat} {x : DataW H × List MemPlace} (h : DataW.trod enc Tryd.prog w base spare held fuel 22 [.slice a0 len cap] = some x) :
    ∃ acts : List Act, acts.length = len ∧ ReadsA w a0 acts := by
  rcases Deep.open_slice Tryd.underlying22 h with ⟨hc, _⟩ | ⟨a, l, c, m, n, D, Pl, hc, hb, hl, hm, hmm, _, hx⟩
  · injection hc with hc
    injection hc with h1 h2 h3
    subst h1 h2 h3
    exact ⟨[], rfl, by simp [ReadsA]⟩
  · injection hc with hc
    injection hc with h1 h2 h3
    subst h1 h2 h3
    have hlm : len ≤ m := by rw [hmm]; split <;> omega
    have each : ∀ i, i < len → ∃ b : Act, ∀ j u, [Value.int .i64 b.kind, .int .i64 b.slot, .int .i64 b.gen, .int .i64 b.stamp][j]? = some u → w.cell? ((a.add (i * 4)).add j) = some u := by
      intro i hi
      obtain ⟨cs', h1, h2⟩ := hx i (by omega)
      rw [cells_act] at h1
      obtain ⟨b, rfl⟩ := open_act h2
      obtain ⟨_, hlen, hcell⟩ := World.cells?_some h1
      refine ⟨b, fun j u hj => ?_⟩
      have hj4 : j < 4 := by
        rcases Nat.lt_or_ge j 4 with h4 | h4
        · exact h4
        · rw [List.getElem?_eq_none (by simpa using h4)] at hj; cases hj
      rw [hcell j hj4]; exact hj
    obtain ⟨f, hf⟩ := Deep.choose_lt each
    refine ⟨(List.range len).map f, by simp, by simp; unfold maxLen at hm; omega, fun _ => ⟨a, rfl, fun k hk => ?_⟩⟩
    have hk' : k < len := by simpa using hk
    have e : ((List.range len).map f)[k] = f k := by simp
    rw [e]
    have g := hf k hk'
    refine ⟨by rw [← add_nil (a.add (k * 4))]; exact g 0 _ rfl, ?_, ?_, ?_⟩
    · rw [← add_pos _ 1 (by omega)]; exact g 1 _ rfl
    · rw [← add_pos _ 2 (by omega)]; exact g 2 _ rfl
    · rw [← add_pos _ 3 (by omega)]; exact g 3 _ rfl
end
end Go.Proofs.YtjjnccllamgbaaaDoor

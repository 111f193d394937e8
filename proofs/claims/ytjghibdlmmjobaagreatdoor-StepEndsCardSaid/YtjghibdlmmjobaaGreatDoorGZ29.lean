/- From the row's reading of a slice of ints to its cells. From the row's reading of a frame, a state, a sized slice of ints to their cells. -/
import Derived.Test.YtjghibdlmmjobaaGreatDoorGZ28
import Derived.Test.YtjghibdlmmjobaaGreatDoorGZ13
namespace Go.Proofs.YtjghibdlmmjobaaGreatDoor
open Go.RowKit

theorem bytes_int : Tryz.prog.bytesOf 3 = 8 := by kernel_rfl
section
variable {H : Type} {enc : TypeId × Value → H} {w : World} {base : Nat} {spare : Nat → Bool} {held : Bool}
theorem open_intsL {fuel : Nat} {a0 : Option Addr} {len cap : Nat} {x : DataW H × List MemPlace} (h : DataW.trod enc Tryz.prog w base spare held fuel 28 [.slice a0 len cap] = some x) :
    ∃ xs : List Int, xs.length = len ∧ ReadsI w a0 xs := by
  rcases Deep.open_slice Tryz.underlying28 h with ⟨hc, _⟩ | ⟨a, l, c, m, n, D, Pl, hc, hb, hl, hm, hmm, _, hx⟩
  · injection hc with hc
    injection hc with h1 h2 h3
    subst h1 h2 h3
    exact ⟨[], rfl, by simp [ReadsI]⟩
  · injection hc with hc
    injection hc with h1 h2 h3
    subst h1 h2 h3
    have hlm : len ≤ m := by rw [hmm]; split <;> omega
    have each : ∀ i, i < len → ∃ b : Int, w.cell? (a.add i) = some (.int .i64 b) := by
      intro i hi
      obtain ⟨cs', h1, h2⟩ := hx i (by omega)
      rw [cells_int] at h1
      obtain ⟨b, e, _⟩ := DataW.trod_int Tryz.underlying3 h2
      subst e
      obtain ⟨_, hlen, hcell⟩ := World.cells?_some h1
      refine ⟨b, ?_⟩
      have := hcell 0 (by omega)
      rw [add_nil, Nat.mul_one] at this
      simpa using this
    obtain ⟨f, hf⟩ := Deep.choose_lt each
    refine ⟨(List.range len).map f, by simp, by simp; unfold maxLen at hm; omega, fun _ => ⟨a, rfl, fun k hk => ?_⟩⟩
    have hk' : k < len := by simpa using hk
    rw [show ((List.range len).map f)[k] = f k by simp]
    exact hf k hk'
end
end Go.Proofs.YtjghibdlmmjobaaGreatDoor

namespace Go.Proofs.YtjghibdlmmjobaaGreatDoor
open Go.RowKit

theorem len_four {α : Type} {l : List α} (h : l.length = 4) : ∃ a b c d, l = [a, b, c, d] := by match l, h with | [a, b, c, d], _ => exact ⟨a, b, c, d, rfl⟩
theorem len_five {α : Type} {l : List α} (h : l.length = 5) : ∃ a b c d e, l = [a, b, c, d, e] := by match l, h with | [a, b, c, d, e], _ => exact ⟨a, b, c, d, e, rfl⟩
theorem cells_ints : Tryz.prog.cellsOf 28 = 1 := by kernel_rfl
theorem cells_frame : Tryz.prog.cellsOf 54 = 4 := by kernel_rfl
theorem cells_frames : Tryz.prog.cellsOf 55 = 1 := by kernel_rfl
theorem cells_state : Tryz.prog.cellsOf 57 = 5 := by kernel_rfl
theorem bytes_frame : Tryz.prog.bytesOf 54 = 64 := by kernel_rfl
section
variable {H : Type} {enc : TypeId × Value → H} {w : World} {base : Nat} {spare : Nat → Bool} {held : Bool}
theorem open_intsZ {fuel : Nat} {cs : List Value} {x : DataW H × List MemPlace} (h : DataW.trod enc Tryz.prog w base spare held fuel 28 cs = some x) (hz : Small 28 x.1) :
    ∃ A cap, ∃ xs : List Int, cs = [.slice A xs.length cap] ∧ ReadsI w A xs ∧ xs.length * 8 ≤ 140737488351232 := by
  rcases Deep.open_slice Tryz.underlying28 h with ⟨hc, _⟩ | ⟨a, len, cap, m, n, D, Pl, hc, hb, hl, hm, hmm, hx1, hx⟩
  · exact ⟨none, 0, [], hc, by simp [ReadsI], by simp⟩
  · subst hc
    obtain ⟨xs, e, hr⟩ := open_intsL h
    have hlm : len ≤ m := by rw [hmm]; split <;> omega
    have hzz : len * 8 ≤ 140737488351232 := by
      have := hz ((len + (m - len)) * 8) (by
        rw [hx1]
        simp [DataW.weights, Tryz.underlying28, bytes_int])
      unfold reachBytes at this
      omega
    exact ⟨some a, cap, xs, by rw [e], hr, by rw [e]; exact hzz⟩
theorem open_frame {fuel : Nat} {cs : List Value} {x : DataW H × List MemPlace} (h : DataW.trod enc Tryz.prog w base spare held fuel 54 cs = some x) (hz : Small 54 x.1) :
    ∃ A c B d, ∃ g : Frm, cs = [.int .i64 g.fn, .int .i64 g.pc, .slice A g.locals.length c, .slice B g.stack.length d] ∧ (ReadsI w A g.locals ∧ ReadsI w B g.stack) ∧ (g.locals.length * 8 ≤ 140737488351232 ∧ g.stack.length * 8 ≤ 140737488351232) := by
  obtain ⟨xs, n, _, hx, hl, hxl, hf⟩ := DataW.trod_struct Tryz.underlying54 h
  rw [cells_frame] at hl
  obtain ⟨c0, c1, c2, c3, rfl⟩ := len_four hl
  have hx4 : xs.length = 4 := hxl
  obtain ⟨y0, y1, y2, y3, rfl⟩ := len_four hx4
  have g0 := hf 0 _ rfl
  have g1 := hf 1 _ rfl
  have g2 := hf 2 _ rfl
  have g3 := hf 3 _ rfl
  simp [cells_int, cells_ints] at g0 g1 g2 g3
  obtain ⟨n0, e0, _⟩ := DataW.trod_int Tryz.underlying3 g0
  obtain ⟨n1, e1, _⟩ := DataW.trod_int Tryz.underlying3 g1
  obtain ⟨A, c, l, e2, hr2, hz2⟩ := open_intsZ g2 (fun n hn => hz n (by
    rw [hx]
    simp only [DataW.weights, Tryz.underlying54]
    exact DataW.weights_mem_each (j := 2) rfl rfl n hn))
  obtain ⟨B, d, t, e3, hr3, hz3⟩ := open_intsZ g3 (fun n hn => hz n (by
    rw [hx]
    simp only [DataW.weights, Tryz.underlying54]
    exact DataW.weights_mem_each (j := 3) rfl rfl n hn))
  simp at e0 e1 e2 e3
  exact ⟨A, c, B, d, ⟨n0, n1, l, t⟩, by rw [e0, e1, e2, e3], ⟨hr2, hr3⟩, hz2, hz3⟩
theorem open_frameT {fuel : Nat} {cs : List Value} {x : DataW H × List MemPlace} (h : DataW.trod enc Tryz.prog w base spare held fuel 54 cs = some x) (hz : Small 54 x.1) :
    ∃ A c B d, ∃ g : Frm, cs = [.int .i64 g.fn, .int .i64 g.pc, .slice A g.locals.length c, .slice B g.stack.length d] ∧ (ReadsI w A g.locals ∧ ReadsI w B g.stack) ∧ True := by
  obtain ⟨A, c, B, d, g, e, hr, _⟩ := open_frame h hz
  exact ⟨A, c, B, d, g, e, hr, trivial⟩
theorem open_frames {fuel : Nat} {cs : List Value} {x : DataW H × List MemPlace} (h : DataW.trod enc Tryz.prog w base spare held fuel 55 cs = some x) (hz : Small 55 x.1) :
    ∃ A cap, ∃ p : List Frm, cs = [.slice A p.length cap] ∧ p.length ≤ cap ∧ ReadsFr w A p ∧ p.length * 64 ≤ 140737488351232 ∧ ∀ f ∈ p, f.locals.length * 8 ≤ 140737488351232 ∧ f.stack.length * 8 ≤ 140737488351232 := by
  rcases Deep.open_slice Tryz.underlying55 h with ⟨hc, _⟩ | ⟨a, len, cap, m, n, D, Pl, hc, hb, hl, hm, hmm, hx1, hx⟩
  · exact ⟨none, 0, [], hc, Nat.le_refl _, by simp [ReadsFr], by simp, by simp⟩
  · have hlm : len ≤ m := by rw [hmm]; split <;> omega
    have hzz : len * 64 ≤ 140737488351232 := by
      have := hz ((len + (m - len)) * 64) (by
        rw [hx1]
        simp [DataW.weights, Tryz.underlying55, bytes_frame])
      unfold reachBytes at this
      omega
    have each : ∀ i, i < len → ∃ b : Frm, FrmAt w (a.add (i * 4)) b ∧ b.locals.length * 8 ≤ 140737488351232 ∧ b.stack.length * 8 ≤ 140737488351232 := by
      intro i hi
      obtain ⟨cs', h1, h2⟩ := hx i (by omega)
      rw [cells_frame] at h1
      obtain ⟨A, c, B, d, b, rfl, ⟨hr, hr2⟩, hzf⟩ := open_frame h2 (fun n hn => hz n (by
        rw [hx1]
        simp only [DataW.weights, Tryz.underlying55]
        exact List.mem_cons_of_mem _ (List.mem_append_left _ (weights_all (List.mem_map.2 ⟨i, List.mem_range.2 hi, rfl⟩) n hn))))
      obtain ⟨_, hlen, hcell⟩ := World.cells?_some h1
      have q0 := hcell 0 (by omega)
      have q1 := hcell 1 (by omega)
      have q2 := hcell 2 (by omega)
      have q3 := hcell 3 (by omega)
      rw [add_nil] at q0
      rw [add_pos _ 1 (by omega)] at q1
      rw [add_pos _ 2 (by omega)] at q2
      rw [add_pos _ 3 (by omega)] at q3
      exact ⟨b, ⟨q0, q1, ⟨A, c, q2, hr⟩, B, d, q3, hr2⟩, hzf⟩
    obtain ⟨f, hf⟩ := Deep.choose_lt each
    refine ⟨some a, cap, (List.range len).map f, by rw [hc]; simp, by simpa using hl, ⟨by simp; unfold maxLen at hm; omega, fun _ => ⟨a, rfl, fun k hk => ?_⟩⟩, by simpa using hzz, fun g hg => ?_⟩
    · have hk' : k < len := by simpa using hk
      rw [show ((List.range len).map f)[k] = f k by simp]
      exact (hf k hk').1
    · obtain ⟨i, hi, rfl⟩ := List.mem_map.1 hg
      exact (hf i (List.mem_range.1 hi)).2
theorem open_state {fuel : Nat} {cs : List Value} {x : DataW H × List MemPlace} (h : DataW.trod enc Tryz.prog w base spare held fuel 57 cs = some x) (hz : Small 57 x.1) :
    ∃ A c B d, ∃ g : Stt, cs = [.slice A g.frames.length c, .int .i64 g.fuel, .slice B g.out.length d, .int .i64 g.done, .int .i64 g.value] ∧ (ReadsS w g A B ∧ g.frames.length ≤ c) ∧ FitS g := by
  obtain ⟨xs, n, _, hx, hl, hxl, hf⟩ := DataW.trod_struct Tryz.underlying57 h
  rw [cells_state] at hl
  obtain ⟨c0, c1, c2, c3, c4, rfl⟩ := len_five hl
  have hx5 : xs.length = 5 := hxl
  obtain ⟨y0, y1, y2, y3, y4, rfl⟩ := len_five hx5
  have g0 := hf 0 _ rfl
  have g1 := hf 1 _ rfl
  have g2 := hf 2 _ rfl
  have g3 := hf 3 _ rfl
  have g4 := hf 4 _ rfl
  simp [cells_int, cells_ints, cells_frames] at g0 g1 g2 g3 g4
  obtain ⟨n1, e1, _⟩ := DataW.trod_int Tryz.underlying3 g1
  obtain ⟨n3, e3, _⟩ := DataW.trod_int Tryz.underlying3 g3
  obtain ⟨n4, e4, _⟩ := DataW.trod_int Tryz.underlying3 g4
  obtain ⟨A, c, fs, e0, hle, hr0, hz0, hzf⟩ := open_frames g0 (fun n hn => hz n (by
    rw [hx]
    simp only [DataW.weights, Tryz.underlying57]
    exact DataW.weights_mem_each (j := 0) rfl rfl n hn))
  obtain ⟨B, d, t, e2, hr2, hz2⟩ := open_intsZ g2 (fun n hn => hz n (by
    rw [hx]
    simp only [DataW.weights, Tryz.underlying57]
    exact DataW.weights_mem_each (j := 2) rfl rfl n hn))
  simp at e0 e1 e2 e3 e4
  exact ⟨A, c, B, d, ⟨fs, n1, t, n3, n4⟩, by rw [e0, e1, e2, e3, e4], ⟨⟨hr0, hr2⟩, hle⟩, hz0, hz2, hzf⟩
end
end Go.Proofs.YtjghibdlmmjobaaGreatDoor

/- 'SameFrames', 'SameState' of the statements. Conditions: the frames, the states lie in memory as they are said. -/
import Derived.Test.YtpfgklkdldkajaaDoorStart
namespace Go.Proofs.YtpfgklkdldkajaaDoor
open Go.RowKit

theorem frm_ext {x y : Frm} (h1 : x.fn = y.fn) (h2 : x.pc = y.pc) (h3 : x.locals = y.locals) (h4 : x.stack = y.stack) : x = y := by cases x; cases y; simp only at h1 h2 h3 h4; rw [h1, h2, h3, h4]
theorem quiet_back {w w' : World} {n m : Nat} (h : w' = (w.drewN n).drewN m ∨ w' = w.drewN m) : ∃ k, w' = w.drewN k := by
  rcases h with h | h
  · exact ⟨n + m, by rw [h, drewN_two]⟩
  · exact ⟨m, h⟩
/-- A state, as it is read. -/
structure ReadsS (w : World) (s : Stt) (A Ao : Option Addr) : Prop where
  fr : ReadsFr w A s.frames
  out : ReadsI w Ao s.out
theorem ReadsS.below {w w1 : World} {s : Stt} {A Ao : Option Addr} (h : ReadsS w s A Ao) (hb : Below w.heap.size w w1) : ReadsS w1 s A Ao := ⟨h.fr.below hb, h.out.below hb⟩
theorem OwnS.reads {w : World} {base : Nat} {s : Stt} {fv ov : Value} {vss : List (List Value)} (h : OwnS w base s fv ov vss) : ∃ A c Ao co, fv = .slice A s.frames.length c ∧ ov = .slice Ao s.out.length co ∧ s.frames.length ≤ c ∧ ReadsS w s A Ao := by
  obtain ⟨A, c, rfl, h1, _⟩ := h.fr.row.shape
  obtain ⟨Ao, co, rfl, _, _⟩ := h.out.shape
  exact ⟨A, c, Ao, co, rfl, rfl, h1, h.fr.reads.2, h.out.ints⟩
end Go.Proofs.YtpfgklkdldkajaaDoor

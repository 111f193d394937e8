/- 'CopyState' of the statements: another state that is the same, of the call's own. Conditions: the state lies in memory; no list is longer than the reach. -/
import Derived.Test.YtpfgklkdldkajaaDoorSameS
namespace Go.Proofs.YtpfgklkdldkajaaDoor
open Go.RowKit

theorem append_copy {W : World} {A : Option Addr} {c : Nat} {xs : List Int} (hr : ReadsI W A xs) (hz : xs.length * 8 ≤ 140737488351232) :
    ∃ ao cap W', (Builtin.append_ #[32, 32] 32 #[.slice (some ⟨W.heap.size, 0, none⟩) 0 0, .slice A xs.length c]).run Tryd.prog (W.alloc (.cells #[] 3)) = .ok (.slice ao xs.length cap) W' ∧ CRow W' W.heap.size 3 1 (.slice ao xs.length cap) xs.length (intsV xs) ∧ Below W.heap.size W W' := by
  obtain ⟨i, hi, hz0, hs, hb⟩ := info_parts info_int
  have b1 : Below W.heap.size W (W.alloc (.cells #[] 3)) := below_alloc (Below.refl _ _) _
  obtain ⟨v', W', hrun, hG⟩ := run_append_crow (P := Tryd.prog) (W.alloc (.cells #[] 3)) 32 3 32 32 i (.int .i64 0) 1 8 Tryd.underlying32 hi hz0 hs hb rfl W.heap.size (some ⟨W.heap.size, 0, none⟩) 0 0 [] (.inr ⟨rfl, rfl, _, rfl⟩) (by simp)
    (.slice A xs.length c) xs.length (intsV xs) (ints_src Tryd.underlying32 (hr.below b1) (reads_none hr)) (by omega) (by unfold maxLen; omega)
  have hrow := hG.row
  rw [Nat.zero_add, List.nil_append] at hrow
  obtain ⟨ao, cap, rfl, _, _⟩ := hrow.shape
  exact ⟨ao, cap, W', hrun, hrow, (Chg.below b1 hG.chg (fun b hb => by cases hb))⟩
/-- 'append' by its run. -/
theorem wpList_append_run {P : Program} {ops : Array Oper} {rest : List Oper} {o : Oper} {a : Act} {Q : Exit → Act → World → Prop} (w : World) (hg : o.guard = none) (s x : Operand) (ts tx : TypeId)
    (hop : o.op = Op.call { callee := Callee.builtin Builtin.append, args := #[s, x], argTypes := #[ts, tx] }) (sv xv v' : Value) (w' : World) (hs : a.eval s = sv) (hx : a.eval x = xv)
    (hrun : (Builtin.append_ #[ts, tx] o.type #[sv, xv]).run P w = .ok v' w') (h : wpList P ops Q rest (a.put o.dst v') w') : wpList P ops Q (o :: rest) a w := by
  refine wpList_plain hg fun K hK' => ?_
  unfold Oper.wp
  simp [execOp, hop, resolve, invoke, builtin, hs, hx, hrun, Result.andThen]
  exact hK' _ _ h
theorem Chg.of_keeps {g : Nat} {w w1 : World} (h : Keeps g w w1) : Chg (fun b => b = g) w w1 := Chg.of_grown h (fun _ e => by cases e; rfl)
def FitS (s : Stt) : Prop := s.frames.length * 64 ≤ 140737488351232 ∧ s.out.length * 8 ≤ 140737488351232 ∧ ∀ f ∈ s.frames, f.locals.length * 8 ≤ 140737488351232 ∧ f.stack.length * 8 ≤ 140737488351232
theorem info_frame : (Tryd.prog.info? 149).map (fun i => (i.zero, i.size, i.bytes)) = some (some (.agg #[.int .i64 0, .int .i64 0, .slice none 0 0, .slice none 0 0]), 4, 64) := by kernel_rfl
/-- A call that answers a state of its own. -/
def CopyE (s : Stt) (w : World) (e : Ending) (w' : World) : Prop := ∃ fv ov vss, e = .returned (sttV s fv ov) ∧ OwnS w' w.heap.size s fv ov vss ∧ Below w.heap.size w w'
end Go.Proofs.YtpfgklkdldkajaaDoor

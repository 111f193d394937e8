/- How a state ends, plainly: by a value, a trap by 0, by depth, out of fuel. No program in sight. -/
import Derived.Test.YtjghibdlmmjobaaGreatDoorGZ24
namespace Go.Proofs.YtjghibdlmmjobaaGreatDoor

def retP : List Fn := [⟨0, 0, [⟨0, 1⟩, ⟨16, 0⟩]⟩]
def zeroP : List Fn := [⟨0, 0, [⟨0, 1⟩, ⟨0, 0⟩, ⟨6, 0⟩, ⟨16, 0⟩]⟩]
def selfP : List Fn := [⟨0, 0, [⟨14, 0⟩, ⟨16, 0⟩]⟩]
def deepF : List Frm := List.replicate 11 ⟨0, 1, [], []⟩ ++ [⟨0, 0, [], []⟩]
/-- The programs, the states, what comes of each. -/
def endP : Nat → List Fn
  | 0 => retP
  | 1 => zeroP
  | _ => selfP
def endSt (v : Int) : Nat → Stt
  | 0 => ⟨[⟨0, 1, [], [v]⟩], 1, [], 0, 0⟩
  | 1 => ⟨[⟨0, 2, [], [v, 0]⟩], 5, [], 0, 0⟩
  | 2 => ⟨deepF, 5, [], 0, 0⟩
  | _ => ⟨deepF, 0, [], 0, 0⟩
def endW (v : Int) : Nat → Stt
  | 0 => ⟨[], 0, [], 1, v⟩
  | 1 => ⟨[], 4, [], 2, 0⟩
  | 2 => ⟨[], 4, [], 3, 0⟩
  | _ => ⟨[], 0, [], 4, 0⟩
theorem ends_law {v : Int} (hv : isNum v = true) {k : Nat} (hk : k < 4) : stateB (endP k) (endSt v k) = true ∧ stepN (endP k) (endSt v k) = endW v k ∧ stateB (endP k) (endW v k) = true ∧ stepN (endP k) (endW v k) = endW v k := by
  match k, hk with
  | 0, _ =>
    have hf : frameB retP ⟨0, 1, [], [v]⟩ 0 = true := by
      unfold frameB
      simp only [List.all_cons, List.all_nil, hv, Bool.and_true]
      kernel_rfl
    refine ⟨?_, by kernel_rfl, ?_, by kernel_rfl⟩
    · show stateB retP ⟨[⟨0, 1, [], [v]⟩], 1, [], 0, 0⟩ = true
      unfold stateB runsB runsFrom
      simp only [hf]
      kernel_rfl
    · show stateB retP ⟨[], 0, [], 1, v⟩ = true
      unfold stateB overB
      simp only [hv]
      kernel_rfl
  | 1, _ =>
    have hf : frameB zeroP ⟨0, 2, [], [v, 0]⟩ 0 = true := by
      unfold frameB
      simp only [List.all_cons, List.all_nil, hv, Bool.and_true, Bool.true_and]
      kernel_rfl
    refine ⟨?_, by kernel_rfl, by kernel_rfl, by kernel_rfl⟩
    show stateB zeroP ⟨[⟨0, 2, [], [v, 0]⟩], 5, [], 0, 0⟩ = true
    unfold stateB runsB runsFrom
    simp only [hf]
    kernel_rfl
  | 2, _ => exact ⟨by kernel_rfl, by kernel_rfl, by kernel_rfl, by kernel_rfl⟩
  | 3, _ => exact ⟨by kernel_rfl, by kernel_rfl, by kernel_rfl, by kernel_rfl⟩
end Go.Proofs.YtjghibdlmmjobaaGreatDoor

/- What a step keeps, plainly. No program in sight. -/
import Derived.Test.YtpfgklkdldkajaaGreatDoorGZ24
import Derived.Test.YtpfgklkdldkajaaGreatDoorGZ25
namespace Go.Proofs.YtpfgklkdldkajaaGreatDoor

theorem once_near {p : List Fn} {s : Stt} (hf : s.frames ≠ []) : (onceS p s).out.length ≤ s.out.length + 1 ∧ (onceS p s).frames.length ≤ s.frames.length + 1 ∧ ∃ o, (onceS p s).out = s.out ++ o := by
  have hl : 0 < s.frames.length := List.length_pos_iff.2 hf
  unfold onceS
  split
  · exact ⟨by simp, by simp, [], by simp⟩
  · simp only
    split
    · exact ⟨by simp, by first | (simp; done) | (simp; omega), [], by simp⟩
    · exact ⟨by simp, by first | (simp; done) | (simp; omega), _, rfl⟩
    · exact ⟨by simp, by first | (simp; done) | (simp; omega), [], by simp⟩
    · split
      · exact ⟨by simp, by simp, [], by simp⟩
      · exact ⟨by simp, by first | (simp; done) | (simp; omega), [], by simp⟩
    · exact ⟨by simp, by simp, [], by simp⟩
theorem begins_app (xs o : List Int) : beginsB xs (xs ++ o) = true := by unfold beginsB; simp
/-- The plain law. -/
theorem keeps_law {p : List Fn} {s : Stt} (h : stateB p s = true) : stateB p (stepN p s) = true ∧ beginsB s.out (stepN p s).out = true ∧ (stepN p s).out.length ≤ s.out.length + 1 ∧ 0 ≤ s.fuel ∧ s.fuel ≤ 100000 ∧ s.frames.length ≤ 12 ∧ s.out.length ≤ 100000 ∧
    ((s.done ≠ 0 ∧ stepN p s = s) ∨ (s.done = 0 ∧ s.fuel = 0 ∧ (stepN p s).done = 4 ∧ (stepN p s).fuel = 0 ∧ (stepN p s).out.length = s.out.length) ∨
      (s.done = 0 ∧ s.fuel ≠ 0 ∧ (stepN p s).fuel = s.fuel - 1 ∧ (stepN p s).frames.length ≤ s.frames.length + 1 ∧ (stepN p s).done ≠ 4)) := by
  obtain ⟨f1, f2, _⟩ := state_fit h
  have hfu : 0 ≤ s.fuel ∧ s.fuel ≤ 100000 := by
    unfold stateB at h
    simp only [Bool.and_eq_true, decide_eq_true_eq] at h
    exact ⟨h.1.1.1.1.2, h.1.1.1.2⟩
  by_cases hd : s.done = 0
  · have e : stepN p s = onceS p s := by unfold stepN; rw [if_pos hd]
    have hfr : s.frames ≠ [] := by
      obtain ⟨_, _, _, _, _, _, l, f, ef, _⟩ := state_of h hd
      rw [ef]; simp
    obtain ⟨n1, n2, o, n3⟩ := once_near (p := p) hfr
    rw [e]
    refine ⟨once_state h hd, by rw [n3]; exact begins_app _ _, n1, hfu.1, hfu.2, f1, f2, .inr ?_⟩
    by_cases h0 : s.fuel = 0
    · have hz := onceS_zero (p := p) h0
      exact .inl ⟨hd, h0, by rw [hz], by rw [hz], by rw [hz]⟩
    · obtain ⟨l1, l2, _⟩ := onceS_left (p := p) h0
      exact .inr ⟨hd, h0, l1, n2, l2⟩
  · have e : stepN p s = s := by unfold stepN; rw [if_neg hd]
    rw [e]
    have hb := begins_app s.out []
    rw [List.append_nil] at hb
    exact ⟨h, hb, by omega, hfu.1, hfu.2, f1, f2, .inl ⟨hd, rfl⟩⟩
end Go.Proofs.YtpfgklkdldkajaaGreatDoor

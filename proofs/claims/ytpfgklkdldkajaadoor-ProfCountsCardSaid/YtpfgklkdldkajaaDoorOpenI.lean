/- From the row's reading of a slice of ints to its cells. -/
import Derived.Test.YtpfgklkdldkajaaDoorOpenProg
namespace Go.Proofs.YtpfgklkdldkajaaDoor
open Go.RowKit

theorem bytes_int : Tryd.prog.bytesOf 3 = 8 := by kernel_rfl
section
variable {H : Type} {enc : TypeId × Value → H} {w : World} {base : Nat} {spare : Nat → Bool} {held : Bool}
theorem open_intsL {fuel : Nat} {a0 : Option Addr} {len cap : Nat} {x : DataW H × List MemPlace} (h : DataW.trod enc Tryd.prog w base spare held fuel 32 [.slice a0 len cap] = some x) :
    ∃ xs : List Int, xs.length = len ∧ ReadsI w a0 xs := by
  rcases Deep.open_slice Tryd.underlying32 h with ⟨hc, _⟩ | ⟨a, l, c, m, n, D, Pl, hc, hb, hl, hm, hmm, _, hx⟩
  · injection hc with hc
    injection hc with h1 h2 h3
    subst h1 h2 h3
    exact ⟨[], rfl, by simp [ReadsI]⟩
  · injection hc with hc
    injection hc with h1 h2 h3
    subst h1 h2 h3
    have hlm : len ≤ m := by rw [hmm]; split <;> omega
    have each : ∀ i, i < len → ∃ b : Int, w.cell? (a.add i) = some (.int .i64 b) := by
      intro i hi
      obtain ⟨cs', h1, h2⟩ := hx i (by omega)
      rw [cells_int] at h1
      obtain ⟨b, e, _⟩ := DataW.trod_int Tryd.underlying3 h2
      subst e
      obtain ⟨_, hlen, hcell⟩ := World.cells?_some h1
      refine ⟨b, ?_⟩
      have := hcell 0 (by omega)
      rw [add_nil, Nat.mul_one] at this
      simpa using this
    obtain ⟨f, hf⟩ := Deep.choose_lt each
    refine ⟨(List.range len).map f, by simp, by simp; unfold maxLen at hm; omega, fun _ => ⟨a, rfl, fun k hk => ?_⟩⟩
    have hk' : k < len := by simpa using hk
    rw [show ((List.range len).map f)[k] = f k by simp]
    exact hf k hk'
end
end Go.Proofs.YtpfgklkdldkajaaDoor

/- The law Arenas, walked: whatever the acts, the program's arena answers and stands as the document's does. Conditions: the acts lie in memory; errors.errorType holds the handle of 'error'. -/
import Derived.Test.YtjjnccllamgbaaaDoorRef
import Derived.Test.YtjjnccllamgbaaaDoorAwake
import Derived.Deep.RegionHeld3
namespace Go.Proofs.YtjjnccllamgbaaaDoor
open Go.RowKit

structure Act where
  kind : Int
  slot : Int
  gen : Int
  stamp : Int
/-- The acts, as they are read. -/
def ReadsA (w : World) (A : Option Addr) (xs : List Act) : Prop :=
  xs.length ≤ 9223372036854775807 ∧ (0 < xs.length → ∃ ad : Addr, A = some ad ∧ ∀ k (h : k < xs.length), w.cell? (ad.add (k * 4)) = some (.int .i64 xs[k].kind) ∧ w.cell? ⟨(ad.add (k * 4)).block, (ad.add (k * 4)).off + 1, none⟩ = some (.int .i64 xs[k].slot) ∧ w.cell? ⟨(ad.add (k * 4)).block, (ad.add (k * 4)).off + 2, none⟩ = some (.int .i64 xs[k].gen) ∧ w.cell? ⟨(ad.add (k * 4)).block, (ad.add (k * 4)).off + 3, none⟩ = some (.int .i64 xs[k].stamp))
theorem ReadsA.at_ {w w1 : World} {A : Option Addr} {xs : List Act} (h : ReadsA w A xs) (hb : Below w.heap.size w w1) {k : Nat} (hk : k < xs.length) : ∃ ad : Addr, A = some ad ∧ w1.cell? (ad.add (k * 4)) = some (.int .i64 xs[k].kind) ∧ w1.cell? ⟨(ad.add (k * 4)).block, (ad.add (k * 4)).off + 1, none⟩ = some (.int .i64 xs[k].slot) ∧ w1.cell? ⟨(ad.add (k * 4)).block, (ad.add (k * 4)).off + 2, none⟩ = some (.int .i64 xs[k].gen) ∧ w1.cell? ⟨(ad.add (k * 4)).block, (ad.add (k * 4)).off + 3, none⟩ = some (.int .i64 xs[k].stamp) := by
  obtain ⟨ad, e, hc⟩ := h.2 (by omega)
  obtain ⟨c0, c1, c2, c3⟩ := hc k hk
  exact ⟨ad, e, (hb.cell (World.block_lt_of_cell? w _ c0)).trans c0, (hb.cell (World.block_lt_of_cell? w _ c1)).trans c1, (hb.cell (World.block_lt_of_cell? w _ c2)).trans c2, (hb.cell (World.block_lt_of_cell? w _ c3)).trans c3⟩

theorem num_any (n : Int) (w : World) : Calls Tryd.prog 10 #[.int .i64 n] w fun e w' => e = .returned (.int .i64 n) ∧ w = w' := by
  go_enter Tryd.func10, Tryd.ntmps10
  go_wp2
  go_ret
  exact ⟨rfl, rfl⟩
theorem Mine.other {T g gs gc : Nat} {w wi w' : World} {xs : List Slot} (h : Mine T w g gs xs wi) (hk : Keeps gc wi w') (h1 : g ≠ gc) (h2 : gs ≠ gc) (hl : w.heap.size ≤ gc) : Mine T w g gs xs w' :=
  ⟨h.at_.keeps hk h1 h2, h.lo, below_keeps h.B hk hl⟩
theorem keep_cell {gc : Nat} {wi w' : World} {a : Addr} {v : Value} (hk : Keeps gc wi w') (hne : a.block ≠ gc) (h : wi.cell? a = some v) : w'.cell? a = some v :=
  hk.cell h (by simpa using hne)

/-- The two arenas, alike, in one world. -/
structure Both (w : World) (g gs g2 gs2 : Nat) (xs : List Slot) (wi : World) : Prop where
  a : Mine 58 w g gs xs wi
  r : Mine 46 w g2 gs2 xs wi
  n : 1 ≤ xs.length
  d1 : g ≠ gs2
  d2 : gs ≠ gs2
  d3 : g2 ≠ gs
theorem Both.below {w wi w' : World} {g gs g2 gs2 : Nat} {xs : List Slot} (h : Both w g gs g2 gs2 xs wi) (hb : Below wi.heap.size wi w') : Both w g gs g2 gs2 xs w' := ⟨h.a.below hb, h.r.below hb, h.n, h.d1, h.d2, h.d3⟩
theorem Both.other {w wi w' : World} {g gs g2 gs2 gc : Nat} {xs : List Slot} (h : Both w g gs g2 gs2 xs wi) (hk : Keeps gc wi w') (hl : gc ≠ g ∧ gc ≠ gs ∧ gc ≠ g2 ∧ gc ≠ gs2) (hb : w.heap.size ≤ gc) : Both w g gs g2 gs2 xs w' :=
  ⟨h.a.other hk (Ne.symm hl.1) (Ne.symm hl.2.1) hb, h.r.other hk (Ne.symm hl.2.2.1) (Ne.symm hl.2.2.2) hb, h.n, h.d1, h.d2, h.d3⟩
theorem pubF_len (xs : List Slot) (s n : Int) : (pubF xs s n).1.length = xs.length := by unfold pubF; split <;> simp
theorem retF_len (xs : List Slot) (s n q : Int) : (retF xs s n q).1.length = xs.length := by unfold retF; split <;> simp
theorem freeF_len (xs : List Slot) (s n : Int) : (freeF xs s n).1.length = xs.length := by unfold freeF; split <;> simp
theorem takeF_len (xs : List Slot) (f : Int) : (takeF xs f).1.length = xs.length := by
  unfold takeF; split
  · rfl
  · split <;> simp
end Go.Proofs.YtjjnccllamgbaaaDoor

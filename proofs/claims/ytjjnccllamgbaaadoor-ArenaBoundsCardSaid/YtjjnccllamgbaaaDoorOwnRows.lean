/- Rows of the call's own: ints and bools in a block by themselves; and the reading of a slice of ints that was handed in. Plain definitions and lemmas. -/
import Derived.Test.YtjjnccllamgbaaaDoorOpenActs
import Derived.Test.YtjjnccllamgbaaaDoorForms
import Derived.Laws.MakeOwn
namespace Go.Proofs.YtjjnccllamgbaaaDoor
open Go.RowKit

/-- A row of values, in the block b by itself. -/
def RowAt (t : Nat) (b : Nat) (vs : List Value) (w : World) : Prop := w.heap[b]? = some (.cells vs.toArray t (0, 0))
theorem RowAt.cell {t b : Nat} {vs : List Value} {w : World} (h : RowAt t b vs w) {k : Nat} (hk : k < vs.length) : w.cell? ⟨b, k, none⟩ = some vs[k] := by
  rw [blk_cell h]; simp [hk]
theorem RowAt.free {t b : Nat} {vs : List Value} {w : World} (h : RowAt t b vs w) (k : Nat) : w.frozen? ⟨b, k, none⟩ = false := blk_free h k
theorem RowAt.keeps {t b g : Nat} {vs : List Value} {w w1 : World} (h : RowAt t b vs w) (hk : Keeps g w w1) (hn : b ≠ g) : RowAt t b vs w1 := (hk.block b (blk_lt h) (by simpa using hn)).trans h
theorem RowAt.below {t b : Nat} {vs : List Value} {w w1 : World} (h : RowAt t b vs w) (hb : Below w.heap.size w w1) : RowAt t b vs w1 := (hb.block b (blk_lt h)).trans h
theorem RowAt.put {t b : Nat} {vs : List Value} {w : World} (h : RowAt t b vs w) (k : Nat) (v : Value) : RowAt t b (vs.set k v) (w.setCell ⟨b, k, none⟩ v) := by
  unfold RowAt at *
  simp [World.setCell, Array.getElem?_modify, h]
theorem RowAt.new (t : Nat) (vs : List Value) (w : World) : RowAt t w.heap.size vs (w.alloc (.cells vs.toArray t)) := blk_new w _
def intsV (xs : List Int) : List Value := xs.map fun n => .int .i64 n
def boolsV (xs : List Bool) : List Value := xs.map fun b => .bool b
theorem intsV_len (xs : List Int) : (intsV xs).length = xs.length := by simp [intsV]
theorem boolsV_len (xs : List Bool) : (boolsV xs).length = xs.length := by simp [boolsV]
theorem ints_cell {t b : Nat} {xs : List Int} {w : World} (h : RowAt t b (intsV xs) w) {k : Nat} (hk : k < xs.length) : w.cell? ⟨b, k, none⟩ = some (.int .i64 xs[k]) := by
  rw [h.cell (by rw [intsV_len]; exact hk)]; simp [intsV]
theorem bools_cell {t b : Nat} {xs : List Bool} {w : World} (h : RowAt t b (boolsV xs) w) {k : Nat} (hk : k < xs.length) : w.cell? ⟨b, k, none⟩ = some (.bool xs[k]) := by
  rw [h.cell (by rw [boolsV_len]; exact hk)]; simp [boolsV]
theorem ints_put {t b : Nat} {xs : List Int} {w : World} (h : RowAt t b (intsV xs) w) (k : Nat) (n : Int) : RowAt t b (intsV (xs.set k n)) (w.setCell ⟨b, k, none⟩ (.int .i64 n)) := by
  have := h.put k (.int .i64 n); rwa [show (intsV xs).set k (.int .i64 n) = intsV (xs.set k n) by simp [intsV, List.map_set]] at this
theorem bools_put {t b : Nat} {xs : List Bool} {w : World} (h : RowAt t b (boolsV xs) w) (k : Nat) (n : Bool) : RowAt t b (boolsV (xs.set k n)) (w.setCell ⟨b, k, none⟩ (.bool n)) := by
  have := h.put k (.bool n); rwa [show (boolsV xs).set k (.bool n) = boolsV (xs.set k n) by simp [boolsV, List.map_set]] at this

theorem info_int : (Tryd.prog.info? 3).map (fun i => (i.zero, i.size, i.bytes)) = some (some (.int .i64 0), 1, 8) := by kernel_rfl
theorem info_bool : (Tryd.prog.info? 4).map (fun i => (i.zero, i.size, i.bytes)) = some (some (.bool false), 1, 1) := by kernel_rfl
theorem made_one (z : Value) (h : z.cells = #[z]) (n : Nat) : madeCells z.cells (n * 1) = (List.replicate n z).toArray := by
  rw [h]
  apply Array.ext
  · simp [madeCells]
  · intro j h1 h2
    simp [madeCells, Nat.mod_one]
theorem make_ints (n : Nat) (hn : n ≤ 100) (w : World) : (Instr.makeSlice 51 (.int .i64 n) (.int .i64 n)).run Tryd.prog w = .ok (.slice (some ⟨w.heap.size, 0, none⟩) n n) (w.alloc (.cells (intsV (List.replicate n 0)).toArray 3)) := by
  obtain ⟨i, hi, hz, hs, hb⟩ := info_parts info_int
  have h := run_make (P := Tryd.prog) w 51 3 i _ Tryd.underlying51 hi hz .i64 .i64 n n (by omega) (by omega) (by rw [hb]; omega) (by omega)
  rw [hs] at h
  simp only [Int.toNat_natCast] at h
  rw [made_one _ rfl, show List.replicate n (Value.int .i64 0) = intsV (List.replicate n 0) by simp [intsV]] at h
  exact h
theorem make_bools (n : Nat) (hn : n ≤ 100) (w : World) : (Instr.makeSlice 53 (.int .i64 n) (.int .i64 n)).run Tryd.prog w = .ok (.slice (some ⟨w.heap.size, 0, none⟩) n n) (w.alloc (.cells (boolsV (List.replicate n false)).toArray 4)) := by
  obtain ⟨i, hi, hz, hs, hb⟩ := info_parts info_bool
  have h := run_make (P := Tryd.prog) w 53 4 i _ Tryd.underlying53 hi hz .i64 .i64 n n (by omega) (by omega) (by rw [hb]; omega) (by omega)
  rw [hs] at h
  simp only [Int.toNat_natCast] at h
  rw [made_one _ rfl, show List.replicate n (Value.bool false) = boolsV (List.replicate n false) by simp [boolsV]] at h
  exact h

section
variable {H : Type} {enc : TypeId × Value → H} {w : World} {base : Nat} {spare : Nat → Bool} {held : Bool}
theorem open_ints {fuel : Nat} {a0 : Option Addr} {len cap : Nat} {x : DataW H × List MemPlace} (h : DataW.trod enc Tryd.prog w base spare held fuel 51 [.slice a0 len cap] = some x) :
    ∃ xs : List Int, xs.length = len ∧ ReadsI w a0 xs := by
  rcases Deep.open_slice Tryd.underlying51 h with ⟨hc, _⟩ | ⟨a, l, c, m, n, D, Pl, hc, hb, hl, hm, hmm, _, hx⟩
  · injection hc with hc
    injection hc with h1 h2 h3
    subst h1 h2 h3
    exact ⟨[], rfl, by simp [ReadsI]⟩
  · injection hc with hc
    injection hc with h1 h2 h3
    subst h1 h2 h3
    have hlm : len ≤ m := by rw [hmm]; split <;> omega
    have each : ∀ i, i < len → ∃ b : Int, w.cell? (a.add i) = some (.int .i64 b) := by
      intro i hi
      obtain ⟨cs', h1, h2⟩ := hx i (by omega)
      rw [cells_int] at h1
      obtain ⟨b, e, _⟩ := DataW.trod_int Tryd.underlying3 h2
      subst e
      obtain ⟨_, hlen, hcell⟩ := World.cells?_some h1
      refine ⟨b, ?_⟩
      have := hcell 0 (by omega)
      rw [add_nil, Nat.mul_one] at this
      simpa using this
    obtain ⟨f, hf⟩ := Deep.choose_lt each
    refine ⟨(List.range len).map f, by simp, by simp; unfold maxLen at hm; omega, fun _ => ⟨a, rfl, fun k hk => ?_⟩⟩
    have hk' : k < len := by simpa using hk
    rw [show ((List.range len).map f)[k] = f k by simp]
    exact hf k hk'
end
end Go.Proofs.YtjjnccllamgbaaaDoor

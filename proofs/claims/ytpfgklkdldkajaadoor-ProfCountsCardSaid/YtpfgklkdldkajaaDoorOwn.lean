/- Rows of the call's own: ints and bools in a block by themselves; queues, which are cut at their head and appended to. Plain definitions and lemmas. -/
import Derived.Test.YtpfgklkdldkajaaDoorIns
import Derived.Laws.MakeOwn
import Derived.Lib.SliceRun
import Derived.ArgAppend
namespace Go.Proofs.YtpfgklkdldkajaaDoor
open Go.RowKit

theorem add_pos (a : Addr) (j : Nat) (hj : 0 < j) : a.add j = ⟨a.block, a.off + j, none⟩ := by unfold Addr.add; rw [if_neg (by omega)]
theorem add_nil (a : Addr) : a.add 0 = a := by unfold Addr.add; rw [if_pos rfl]
/-- What a call keeps: all but one block. -/
def Keeps (gs : Nat) (w w' : World) : Prop := w.grownBy w' (some gs)
theorem Keeps.of_below {gs : Nat} {w w' : World} (h : Below w.heap.size w w') : Keeps gs w w' := ⟨h.os, h.tape, h.output, h.size, fun i hi _ => h.block i hi⟩
theorem Keeps.trans {gs : Nat} {w w1 w2 : World} (h : Keeps gs w w1) (k : Keeps gs w1 w2) : Keeps gs w w2 :=
  ⟨k.os.trans h.os, k.tape.trans h.tape, k.output.trans h.output, Nat.le_trans h.size k.size, fun i hi hn => (k.block i (Nat.lt_of_lt_of_le hi h.size) hn).trans (h.block i hi hn)⟩
theorem Keeps.put {gs : Nat} {w w1 : World} (h : Keeps gs w w1) (o : Nat) (u : Value) : Keeps gs w (w1.setCell ⟨gs, o, none⟩ u) :=
  h.trans ⟨rfl, rfl, rfl, by simp [World.setCell], fun i _ hn => Below.heap_setCell _ _ _ _ (fun e => hn (by rw [e]))⟩
theorem Keeps.drew {gs : Nat} {w w1 : World} (h : Keeps gs w w1) : Keeps gs w w1.drew := h.trans ⟨rfl, rfl, rfl, Nat.le_refl _, fun _ _ _ => rfl⟩
theorem Keeps.drewN {gs : Nat} {w w1 : World} (h : Keeps gs w w1) (n : Nat) : Keeps gs w (w1.drewN n) := h.trans ⟨rfl, rfl, rfl, Nat.le_refl _, fun _ _ _ => rfl⟩
/-- A row of values, in the block b by itself. -/
def RowAt (t : Nat) (b : Nat) (vs : List Value) (w : World) : Prop := w.heap[b]? = some (.cells vs.toArray t (0, 0))
theorem RowAt.cell {t b : Nat} {vs : List Value} {w : World} (h : RowAt t b vs w) {k : Nat} (hk : k < vs.length) : w.cell? ⟨b, k, none⟩ = some vs[k] := by
  rw [blk_cell h]; simp [hk]
theorem RowAt.free {t b : Nat} {vs : List Value} {w : World} (h : RowAt t b vs w) (k : Nat) : w.frozen? ⟨b, k, none⟩ = false := blk_free h k
theorem RowAt.keeps {t b g : Nat} {vs : List Value} {w w1 : World} (h : RowAt t b vs w) (hk : Keeps g w w1) (hn : b ≠ g) : RowAt t b vs w1 := (hk.block b (blk_lt h) (by simpa using hn)).trans h
theorem RowAt.below {t b : Nat} {vs : List Value} {w w1 : World} (h : RowAt t b vs w) (hb : Below w.heap.size w w1) : RowAt t b vs w1 := (hb.block b (blk_lt h)).trans h
theorem RowAt.put {t b : Nat} {vs : List Value} {w : World} (h : RowAt t b vs w) (k : Nat) (v : Value) : RowAt t b (vs.set k v) (w.setCell ⟨b, k, none⟩ v) := by
  unfold RowAt at *
  simp [World.setCell, Array.getElem?_modify, h]
theorem RowAt.new (t : Nat) (vs : List Value) (w : World) : RowAt t w.heap.size vs (w.alloc (.cells vs.toArray t)) := blk_new w _
def intsV (xs : List Int) : List Value := xs.map fun n => .int .i64 n
def boolsV (xs : List Bool) : List Value := xs.map fun b => .bool b
theorem intsV_len (xs : List Int) : (intsV xs).length = xs.length := by simp [intsV]
theorem boolsV_len (xs : List Bool) : (boolsV xs).length = xs.length := by simp [boolsV]
theorem ints_cell {t b : Nat} {xs : List Int} {w : World} (h : RowAt t b (intsV xs) w) {k : Nat} (hk : k < xs.length) : w.cell? ⟨b, k, none⟩ = some (.int .i64 xs[k]) := by
  rw [h.cell (by rw [intsV_len]; exact hk)]; simp [intsV]
theorem bools_cell {t b : Nat} {xs : List Bool} {w : World} (h : RowAt t b (boolsV xs) w) {k : Nat} (hk : k < xs.length) : w.cell? ⟨b, k, none⟩ = some (.bool xs[k]) := by
  rw [h.cell (by rw [boolsV_len]; exact hk)]; simp [boolsV]
theorem ints_put {t b : Nat} {xs : List Int} {w : World} (h : RowAt t b (intsV xs) w) (k : Nat) (n : Int) : RowAt t b (intsV (xs.set k n)) (w.setCell ⟨b, k, none⟩ (.int .i64 n)) := by
  have := h.put k (.int .i64 n); rwa [show (intsV xs).set k (.int .i64 n) = intsV (xs.set k n) by simp [intsV, List.map_set]] at this
theorem bools_put {t b : Nat} {xs : List Bool} {w : World} (h : RowAt t b (boolsV xs) w) (k : Nat) (n : Bool) : RowAt t b (boolsV (xs.set k n)) (w.setCell ⟨b, k, none⟩ (.bool n)) := by
  have := h.put k (.bool n); rwa [show (boolsV xs).set k (.bool n) = boolsV (xs.set k n) by simp [boolsV, List.map_set]] at this

theorem info_int : (Tryd.prog.info? 3).map (fun i => (i.zero, i.size, i.bytes)) = some (some (.int .i64 0), 1, 8) := by kernel_rfl
theorem info_bool : (Tryd.prog.info? 4).map (fun i => (i.zero, i.size, i.bytes)) = some (some (.bool false), 1, 1) := by kernel_rfl
theorem made_one (z : Value) (h : z.cells = #[z]) (n : Nat) : madeCells z.cells (n * 1) = (List.replicate n z).toArray := by
  rw [h]
  apply Array.ext
  · simp [madeCells]
  · intro j h1 h2
    simp [madeCells, Nat.mod_one]
theorem make_ints (n : Nat) (hn : n ≤ 100) (w : World) : (Instr.makeSlice 32 (.int .i64 n) (.int .i64 n)).run Tryd.prog w = .ok (.slice (some ⟨w.heap.size, 0, none⟩) n n) (w.alloc (.cells (intsV (List.replicate n 0)).toArray 3)) := by
  obtain ⟨i, hi, hz, hs, hb⟩ := info_parts info_int
  have h := run_make (P := Tryd.prog) w 32 3 i _ Tryd.underlying32 hi hz .i64 .i64 n n (by omega) (by omega) (by rw [hb]; omega) (by omega)
  rw [hs] at h
  simp only [Int.toNat_natCast] at h
  rw [made_one _ rfl, show List.replicate n (Value.int .i64 0) = intsV (List.replicate n 0) by simp [intsV]] at h
  exact h
theorem make_bools (n : Nat) (hn : n ≤ 100) (w : World) : (Instr.makeSlice 84 (.int .i64 n) (.int .i64 n)).run Tryd.prog w = .ok (.slice (some ⟨w.heap.size, 0, none⟩) n n) (w.alloc (.cells (boolsV (List.replicate n false)).toArray 4)) := by
  obtain ⟨i, hi, hz, hs, hb⟩ := info_parts info_bool
  have h := run_make (P := Tryd.prog) w 84 4 i _ Tryd.underlying84 hi hz .i64 .i64 n n (by omega) (by omega) (by rw [hb]; omega) (by omega)
  rw [hs] at h
  simp only [Int.toNat_natCast] at h
  rw [made_one _ rfl, show List.replicate n (Value.bool false) = boolsV (List.replicate n false) by simp [boolsV]] at h
  exact h

theorem zero_int : ∀ w, (zeroValue 3).run Tryd.prog w = .ok (.int .i64 0) w := by
  obtain ⟨i, hi, hz, hs, hb⟩ := info_parts info_int
  intro w
  simp [zeroValue, typeInfo, hi, hz]
theorem clear_ints (w : World) (b o n c : Nat) (hn : 0 < n) (hc : ∀ j, j < n → (w.cell? ⟨b, o + j, none⟩).isSome = true) (hf : ∀ j, j < n → w.frozen? ⟨b, o + j, none⟩ = false) :
    (Builtin.clear_ #[32] 0 #[.slice (some ⟨b, o, none⟩) n c]).run Tryd.prog w = .ok (.tuple #[]) (w.setCells b o (List.replicate n (.int .i64 0))) :=
  Lib.run_clear_slice w _ 3 0 (.int .i64 0) Tryd.underlying32 zero_int rfl rfl b o n c hn hc hf
theorem Keeps.refl (g : Nat) (w : World) : Keeps g w w := Keeps.of_below (Below.refl _ _)
/-- What turns a block of the call's own leaves all that is old. -/
theorem below_keep {g : Nat} {w0 w w1 : World} (h : Below w0.heap.size w0 w) (hk : Keeps g w w1) (hl : w0.heap.size ≤ g) : Below w0.heap.size w0 w1 :=
  ⟨hk.os.trans h.os, hk.tape.trans h.tape, hk.output.trans h.output, Nat.le_trans h.size hk.size, fun i hi => (hk.block i (Nat.lt_of_lt_of_le hi h.size) (by simp; omega)).trans (h.block i hi)⟩
theorem Keeps.after {g : Nat} {w0 w w1 : World} (hk : Keeps g w0 w) (h : Below w.heap.size w w1) : Keeps g w0 w1 := hk.trans (Keeps.of_below h)
theorem ints_reads {b : Nat} {xs : List Int} {vs : List Value} {w : World} (h : RowAt 3 b (intsV xs ++ vs) w) (hn : xs.length ≤ 9223372036854775807) : ReadsI w (some ⟨b, 0, none⟩) xs :=
  ⟨hn, fun _ => ⟨_, rfl, fun j hj => by
    rw [add_plain, h.cell (by simp [intsV]; omega), List.getElem_append_left (by simpa [intsV] using hj)]; simp [intsV]⟩⟩
end Go.Proofs.YtpfgklkdldkajaaDoor

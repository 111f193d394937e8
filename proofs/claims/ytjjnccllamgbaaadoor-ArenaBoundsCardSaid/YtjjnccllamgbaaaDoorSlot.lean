/- The arena's 'slot': which slot of a generation and a state is handed out. Conditions: the arena lies in memory as its slots say. -/
import Derived.Test.YtjjnccllamgbaaaDoorMem
namespace Go.Proofs.YtjjnccllamgbaaaDoor
open Go.RowKit

structure Slot where
  gen : Int
  state : Int
  fn : Int
  stamp : Int
def sCells (s : Slot) : List Value := [.int .i64 s.gen, .int .i64 s.state, .int .i64 s.fn, .int .i64 s.stamp]
def sFlat (xs : List Slot) : List Value := xs.flatMap sCells
theorem sFlat_len (xs : List Slot) : (sFlat xs).length = xs.length * 4 := by
  unfold sFlat
  induction xs with
  | nil => rfl
  | cons x xs ih => rw [List.flatMap_cons, List.length_append, ih]; simp [sCells]; omega
theorem sFlat_get (xs : List Slot) (k j : Nat) (hk : k < xs.length) (hj : j < 4) : (sFlat xs)[k * 4 + j]? = (sCells xs[k])[j]? := by
  unfold sFlat
  induction xs generalizing k with
  | nil => simp at hk
  | cons x xs ih =>
    rw [List.flatMap_cons]
    cases k with
    | zero => rw [List.getElem?_append_left (by simp [sCells]; omega)]; simp
    | succ k =>
      rw [List.getElem?_append_right (by simp [sCells]; omega)]
      have e : (k + 1) * 4 + j - (sCells x).length = k * 4 + j := by simp [sCells]; omega
      rw [e, ih k (by simpa using hk)]; simp

/-- An arena at block g, its slots at block gs. -/
structure ArenaAt (T : Nat) (w : World) (g gs : Nat) (xs : List Slot) : Prop where
  a : w.heap[g]? = some (.cells #[.slice (some ⟨gs, 0, none⟩) xs.length xs.length] T (0, 0))
  s : w.heap[gs]? = some (.cells (sFlat xs).toArray 56 (0, 0))
  ne : g ≠ gs
  le : xs.length ≤ 8
theorem ArenaAt.below {T g gs : Nat} {w w1 : World} {xs : List Slot} (h : ArenaAt T w g gs xs) (hb : Below w.heap.size w w1) : ArenaAt T w1 g gs xs :=
  ⟨(hb.block g (blk_lt h.a)).trans h.a, (hb.block gs (blk_lt h.s)).trans h.s, h.ne, h.le⟩
theorem ArenaAt.head {T g gs : Nat} {w : World} {xs : List Slot} (h : ArenaAt T w g gs xs) : w.cell? ⟨g, 0, none⟩ = some (.slice (some ⟨gs, 0, none⟩) xs.length xs.length) := (blk_cell h.a 0).trans rfl
theorem ArenaAt.cell {T g gs : Nat} {w : World} {xs : List Slot} (h : ArenaAt T w g gs xs) {k : Nat} (hk : k < xs.length) :
    w.cell? ⟨gs, k * 4, none⟩ = some (.int .i64 xs[k].gen) ∧ w.cell? ⟨gs, k * 4 + 1, none⟩ = some (.int .i64 xs[k].state) ∧ w.cell? ⟨gs, k * 4 + 2, none⟩ = some (.int .i64 xs[k].fn) ∧ w.cell? ⟨gs, k * 4 + 3, none⟩ = some (.int .i64 xs[k].stamp) := by
  have e (j : Nat) (hj : j < 4) : w.cell? ⟨gs, k * 4 + j, none⟩ = (sCells xs[k])[j]? := by rw [blk_cell h.s]; simpa using sFlat_get xs k j hk hj
  exact ⟨(e 0 (by omega)).trans rfl, (e 1 (by omega)).trans rfl, (e 2 (by omega)).trans rfl, (e 3 (by omega)).trans rfl⟩

def SlotBad (n : Int) (w : World) (e : Ending) (w' : World) : Prop := ∃ b, e = .returned (.tuple #[.pointer none, .iface 68 (.pointer (some ⟨b, 0, none⟩))]) ∧ w'.cell? ⟨b, 0, none⟩ = some (.iface 24 (.int .i64 n)) ∧ Below w.heap.size w w'

theorem slot_bad_new (n : Int) (w : World) : SlotBad n w (.returned (.tuple #[.pointer none, .iface 68 (.pointer (some ⟨w.heap.size, 0, none⟩))])) (w.alloc (.cells #[.iface 24 (.int .i64 n)] 70)) :=
  ⟨w.heap.size, rfl, by simp, below_alloc (Below.refl _ _) _⟩

theorem slot_nil (s g : Int) (v : Value) (w : World) :
    Calls Tryd.prog 25 #[.pointer none, .int .i64 s, .int .i64 g, v] w (SlotBad 1 w) := by
  go_enter Tryd.func25, Tryd.ntmps25
  go_wp2
  go_ret2
  exact slot_bad_new _ _

theorem slot_low (g gs : Nat) (xs : List Slot) (s n : Int) (v : Value) (w : World) (h : ArenaAt 58 w g gs xs) (hs : s < 0 ∨ xs.length ≤ s) :
    Calls Tryd.prog 25 #[.pointer (some ⟨g, 0, none⟩), .int .i64 s, .int .i64 n, v] w (SlotBad 2300 w) := by
  have hh := h.head
  by_cases h0 : s < 0
  · have h0' : decide (s < 0) = true := by simpa using h0
    go_enter Tryd.func25, Tryd.ntmps25
    go_wp2
    go_ret2
    exact slot_bad_new _ _
  · have h1 : (xs.length : Int) ≤ s := by omega
    have h0' : decide (s < 0) = false := by simpa using h0
    go_enter Tryd.func25, Tryd.ntmps25
    go_wp2
    go_ret2
    exact slot_bad_new _ _

set_option maxRecDepth 100000 in
theorem slot_gen (g gs : Nat) (xs : List Slot) (k : Nat) (n : Int) (v : Value) (w : World) (h : ArenaAt 58 w g gs xs) (hk : k < xs.length) (hg : xs[k].gen ≠ n) :
    Calls Tryd.prog 25 #[.pointer (some ⟨g, 0, none⟩), .int .i64 k, .int .i64 n, v] w (SlotBad 2300 w) := by
  have hh := h.head
  obtain ⟨c0, c1, _, _⟩ := h.cell hk
  have h0' : decide ((k : Int) < 0) = false := by simp
  have h1' : decide (xs.length ≤ k) = false := by simpa using hk
  have hg' : (xs[k].gen != n) = true := by simpa using hg
  clear h hg
  go_enter Tryd.func25, Tryd.ntmps25
  go_wp2
  go_ret2
  exact slot_bad_new _ _

set_option maxRecDepth 100000 in
theorem slot_state (g gs : Nat) (xs : List Slot) (k : Nat) (n : Int) (A : Option Addr) (c : Nat) (st : List Int) (w : World) (h : ArenaAt 58 w g gs xs) (hk : k < xs.length) (hg : xs[k].gen = n)
    (hst : ReadsI w A st) (hs : xs[k].state ∉ st) :
    Calls Tryd.prog 25 #[.pointer (some ⟨g, 0, none⟩), .int .i64 k, .int .i64 n, .slice A st.length c] w (SlotBad 2300 w) := by
  subst hg
  have hh := h.head
  obtain ⟨c0, c1, _, _⟩ := h.cell hk
  have h0' : decide ((k : Int) < 0) = false := by simp
  have h1' : decide (xs.length ≤ k) = false := by simpa using hk
  have HI := Lib.hid (index_any A c st xs[k].state w hst)
  clear h hst
  go_enter Tryd.func25, Tryd.ntmps25
  go_wp2_with (first | (go_at_call 31; refine HI.out.mono ?_; rintro e w' ⟨⟨r, rfl, hr⟩, rfl⟩; have hr' : decide (0 ≤ r) = false := (by simpa [hr] using hs); clear hr) | (go_at_call 29; go_in))
  go_ret2
  exact slot_bad_new _ _

set_option maxRecDepth 100000 in
theorem slot_yes (g gs : Nat) (xs : List Slot) (k : Nat) (n : Int) (A : Option Addr) (c : Nat) (st : List Int) (w : World) (h : ArenaAt 58 w g gs xs) (hk : k < xs.length) (hg : xs[k].gen = n)
    (hst : ReadsI w A st) (hs : xs[k].state ∈ st) :
    Calls Tryd.prog 25 #[.pointer (some ⟨g, 0, none⟩), .int .i64 k, .int .i64 n, .slice A st.length c] w fun e w' => e = .returned (.tuple #[.pointer (some ⟨gs, k * 4, none⟩), .nilIface]) ∧ w = w' := by
  subst hg
  have hh := h.head
  obtain ⟨c0, c1, _, _⟩ := h.cell hk
  have h0' : decide ((k : Int) < 0) = false := by simp
  have h1' : decide (xs.length ≤ k) = false := by simpa using hk
  have HI := Lib.hid (index_any A c st xs[k].state w hst)
  clear h hst
  go_enter Tryd.func25, Tryd.ntmps25
  go_wp2_with (first | (go_at_call 31; refine HI.out.mono ?_; rintro e w' ⟨⟨r, rfl, hr⟩, rfl⟩; have hr' : decide (0 ≤ r) = true := (by simpa [hr] using hs); clear hr) | (go_at_call 29; go_in))
  go_ret2
  exact ⟨rfl, rfl⟩

/-- Is a slot of a generation, in one of some states? -/
def atB (xs : List Slot) (s n : Int) (st : List Int) : Bool := decide (0 ≤ s) && (match xs[s.toNat]? with | some x => x.gen == n && st.contains x.state | none => false)
theorem atB_yes {xs : List Slot} {s n : Int} {st : List Int} (h : atB xs s n st = true) : ∃ k, ∃ hk : k < xs.length, s = (k : Int) ∧ xs[k].gen = n ∧ xs[k].state ∈ st := by
  unfold atB at h
  simp only [Bool.and_eq_true, decide_eq_true_eq] at h
  obtain ⟨h0, h1⟩ := h
  rcases Nat.lt_or_ge s.toNat xs.length with hk | hk
  · rw [List.getElem?_eq_getElem hk] at h1
    simp only [Bool.and_eq_true, beq_iff_eq, List.contains_iff_mem] at h1
    exact ⟨s.toNat, hk, by omega, h1.1, h1.2⟩
  · rw [List.getElem?_eq_none hk] at h1; simp at h1
theorem slot_no (g gs : Nat) (xs : List Slot) (s n : Int) (A : Option Addr) (c : Nat) (st : List Int) (w : World) (h : ArenaAt 58 w g gs xs) (hst : ReadsI w A st) (hb : atB xs s n st = false) :
    Calls Tryd.prog 25 #[.pointer (some ⟨g, 0, none⟩), .int .i64 s, .int .i64 n, .slice A st.length c] w (SlotBad 2300 w) := by
  by_cases hs : s < 0 ∨ xs.length ≤ s
  · exact slot_low g gs xs s n _ w h hs
  · obtain ⟨k, rfl⟩ : ∃ k : Nat, s = k := ⟨s.toNat, by omega⟩
    have hk : k < xs.length := by omega
    by_cases hg : xs[k].gen = n
    · by_cases hm : xs[k].state ∈ st
      · unfold atB at hb
        rw [Int.toNat_natCast, List.getElem?_eq_getElem hk] at hb
        simp [hg, hm] at hb
      · exact slot_state g gs xs k n A c st w h hk hg hst hm
    · exact slot_gen g gs xs k n _ w h hk hg

theorem setCell_block (w : World) (b o : Nat) (v : Value) {cs : Array Value} {t : TypeId} {fr : Nat × Nat} (h : w.heap[b]? = some (.cells cs t fr)) :
    (w.setCell ⟨b, o, none⟩ v).heap[b]? = some (.cells (cs.setIfInBounds o v) t fr) := by
  simp [World.setCell, Array.getElem?_modify, h]
theorem sFlat_set (xs : List Slot) (k j : Nat) (hk : k < xs.length) (hj : j < 4) (u : Value) (y : Slot) (hy : sCells y = (sCells xs[k]).set j u) :
    (sFlat xs).set (k * 4 + j) u = sFlat (xs.set k y) := by
  unfold sFlat
  induction xs generalizing k with
  | nil => simp at hk
  | cons x xs ih =>
    cases k with
    | zero =>
      simp only [List.getElem_cons_zero] at hy
      rw [List.set_cons_zero, List.flatMap_cons, List.flatMap_cons, List.set_append_left _ _ (by simp [sCells]; omega), hy]
      simp
    | succ k =>
      rw [List.set_cons_succ, List.flatMap_cons, List.flatMap_cons, List.set_append_right _ _ (by simp [sCells]; omega)]
      have e : (k + 1) * 4 + j - (sCells x).length = k * 4 + j := by simp [sCells]; omega
      rw [e, ih k (by simpa using hk) (by simpa using hy)]
theorem ArenaAt.put {T g gs : Nat} {w : World} {xs : List Slot} (h : ArenaAt T w g gs xs) {k : Nat} (hk : k < xs.length) (j : Nat) (hj : j < 4) (u : Value) (y : Slot) (hy : sCells y = (sCells xs[k]).set j u) :
    ArenaAt T (w.setCell ⟨gs, k * 4 + j, none⟩ u) g gs (xs.set k y) :=
  ⟨by rw [Below.heap_setCell _ _ _ _ h.ne, List.length_set]; exact h.a, by rw [setCell_block w gs _ u h.s, ← sFlat_set xs k j hk hj u y hy]; simp, h.ne, by rw [List.length_set]; exact h.le⟩
theorem ArenaAt.put4 {T g gs : Nat} {w : World} {xs : List Slot} (h : ArenaAt T w g gs xs) {k : Nat} (hk : k < xs.length) (y : Slot) :
    ArenaAt T ((((w.setCell ⟨gs, k * 4, none⟩ (.int .i64 y.gen)).setCell ⟨gs, k * 4 + 1, none⟩ (.int .i64 y.state)).setCell ⟨gs, k * 4 + 2, none⟩ (.int .i64 y.fn)).setCell ⟨gs, k * 4 + 3, none⟩ (.int .i64 y.stamp)) g gs (xs.set k y) := by
  have h2 := h.put hk 0 (by omega) (.int .i64 y.gen) { xs[k] with gen := y.gen } rfl
  have h3 := h2.put (k := k) (by simpa using hk) 1 (by omega) (.int .i64 y.state) { xs[k] with gen := y.gen, state := y.state } (by simp [sCells])
  rw [List.set_set] at h3
  have h4 := h3.put (k := k) (by simpa using hk) 2 (by omega) (.int .i64 y.fn) { xs[k] with gen := y.gen, state := y.state, fn := y.fn } (by simp [sCells])
  rw [List.set_set] at h4
  have h5 := h4.put (k := k) (by simpa using hk) 3 (by omega) (.int .i64 y.stamp) y (by simp [sCells])
  rw [List.set_set] at h5
  exact h5
theorem ArenaAt.drew {T g gs : Nat} {w : World} {xs : List Slot} (h : ArenaAt T w g gs xs) : ArenaAt T w.drew g gs xs := ⟨h.a, h.s, h.ne, h.le⟩
theorem ArenaAt.drewN {T g gs : Nat} {w : World} {xs : List Slot} (h : ArenaAt T w g gs xs) (n : Nat) : ArenaAt T (w.drewN n) g gs xs := ⟨h.a, h.s, h.ne, h.le⟩

/-- What an arena's call keeps: all but its slots' block. -/
def Keeps (gs : Nat) (w w' : World) : Prop := w.grownBy w' (some gs)
theorem Keeps.of_below {gs : Nat} {w w' : World} (h : Below w.heap.size w w') : Keeps gs w w' := ⟨h.os, h.tape, h.output, h.size, fun i hi _ => h.block i hi⟩
theorem Keeps.trans {gs : Nat} {w w1 w2 : World} (h : Keeps gs w w1) (k : Keeps gs w1 w2) : Keeps gs w w2 :=
  ⟨k.os.trans h.os, k.tape.trans h.tape, k.output.trans h.output, Nat.le_trans h.size k.size, fun i hi hn => (k.block i (Nat.lt_of_lt_of_le hi h.size) hn).trans (h.block i hi hn)⟩
theorem Keeps.put {gs : Nat} {w w1 : World} (h : Keeps gs w w1) (o : Nat) (u : Value) : Keeps gs w (w1.setCell ⟨gs, o, none⟩ u) :=
  h.trans ⟨rfl, rfl, rfl, by simp [World.setCell], fun i _ hn => Below.heap_setCell _ _ _ _ (fun e => hn (by rw [e]))⟩
theorem Keeps.drew {gs : Nat} {w w1 : World} (h : Keeps gs w w1) : Keeps gs w w1.drew := h.trans ⟨rfl, rfl, rfl, Nat.le_refl _, fun _ _ _ => rfl⟩
theorem Keeps.drewN {gs : Nat} {w w1 : World} (h : Keeps gs w w1) (n : Nat) : Keeps gs w (w1.drewN n) := h.trans ⟨rfl, rfl, rfl, Nat.le_refl _, fun _ _ _ => rfl⟩
/-- What holds behind an arena's call. -/
def Did (T g gs : Nat) (xs : List Slot) (r : Int) (w : World) (e : Ending) (w' : World) : Prop := e = .returned (.int .i64 r) ∧ ArenaAt T w' g gs xs ∧ Keeps gs w w'
end Go.Proofs.YtjjnccllamgbaaaDoor

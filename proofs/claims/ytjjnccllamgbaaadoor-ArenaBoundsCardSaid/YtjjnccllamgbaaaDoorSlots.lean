/- The arena's New and Slots; two rows of slots compared, a row written over. Conditions: each lies in memory as its slots say. -/
import Derived.Test.YtjjnccllamgbaaaDoorTake
namespace Go.Proofs.YtjjnccllamgbaaaDoor
open Go.RowKit

def zSlot : Slot := ⟨0, 0, 0, 0⟩
theorem info_slot : (Tryd.prog.info? 56).map (fun i => (i.zero, i.size, i.bytes)) = some (some (.agg #[.int .i64 0, .int .i64 0, .int .i64 0, .int .i64 0]), 4, 32) := by kernel_rfl
theorem sFlat_zero (n : Nat) : (sFlat (List.replicate n zSlot)) = List.replicate (n * 4) (.int .i64 0) := by
  unfold sFlat
  induction n with
  | zero => rfl
  | succ n ih => rw [List.replicate_succ, List.flatMap_cons, ih]; show _ ++ _ = _; rw [show (n + 1) * 4 = 4 + n * 4 by omega, ← List.replicate_append_replicate]; rfl
theorem made_zero (n : Nat) : madeCells (Value.agg #[.int .i64 0, .int .i64 0, .int .i64 0, .int .i64 0]).cells (n * 4) = (sFlat (List.replicate n zSlot)).toArray := by
  rw [sFlat_zero]
  apply Array.ext
  · simp [madeCells]
  · intro j h1 h2
    have h4 : j % 4 = 0 ∨ j % 4 = 1 ∨ j % 4 = 2 ∨ j % 4 = 3 := by omega
    have e : (Value.agg #[.int .i64 0, .int .i64 0, .int .i64 0, .int .i64 0]).cells = #[.int .i64 0, .int .i64 0, .int .i64 0, .int .i64 0] := rfl
    simp [madeCells, e]
    rcases h4 with h | h | h | h <;> rw [h] <;> rfl
theorem make_slots (n : Nat) (hn : n ≤ 8) (w : World) : (Instr.makeSlice 42 (.int .i64 n) (.int .i64 n)).run Tryd.prog w = .ok (.slice (some ⟨w.heap.size, 0, none⟩) n n) (w.alloc (.cells (sFlat (List.replicate n zSlot)).toArray 56)) := by
  obtain ⟨i, hi, hz, hs, hb⟩ := info_parts info_slot
  have h := run_make (P := Tryd.prog) w 42 56 i _ Tryd.underlying42 hi hz .i64 .i64 n n (by omega) (by omega) (by rw [hb]; omega) (by omega)
  rw [hs] at h
  simp only [Int.toNat_natCast] at h
  rw [made_zero] at h
  exact h

theorem new_bad (n : Int) (w : World) (h : n < 1 ∨ 8 < n) :
    Calls Tryd.prog 8 #[.int .i64 n] w fun e w' => e = .returned (.tuple #[.pointer none, .int .i64 2300]) ∧ w = w' := by
  by_cases h0 : n < 1
  · have h0' : decide (n < 1) = true := by simpa using h0
    go_enter Tryd.func8, Tryd.ntmps8
    go_wp2
    go_ret2
    exact ⟨rfl, rfl⟩
  · have h0' : decide (n < 1) = false := by simpa using h0
    have h1' : decide (8 < n) = true := by simp; omega
    go_enter Tryd.func8, Tryd.ntmps8
    go_wp2
    go_ret2
    exact ⟨rfl, rfl⟩
/-- A new arena: its own two blocks, all slots zero. -/
def Fresh (T : Nat) (n : Nat) (w : World) (e : Ending) (w' : World) : Prop := ∃ g gs, e = .returned (.tuple #[.pointer (some ⟨g, 0, none⟩), .int .i64 0]) ∧ ArenaAt T w' g gs (List.replicate n zSlot) ∧ w.heap.size ≤ g ∧ w.heap.size ≤ gs ∧ Below w.heap.size w w'
theorem fresh_made (T : Nat) (n : Nat) (hn : n ≤ 8) (w : World) : Fresh T n w (.returned (.tuple #[.pointer (some ⟨w.heap.size + 1, 0, none⟩), .int .i64 0])) ((w.alloc (.cells (sFlat (List.replicate n zSlot)).toArray 56)).alloc (.cells #[.slice (some ⟨w.heap.size, 0, none⟩) n n] T)) := by
  have b1 : Below w.heap.size w (w.alloc (.cells (sFlat (List.replicate n zSlot)).toArray 56)) := below_alloc (Below.refl _ _) _
  refine ⟨w.heap.size + 1, w.heap.size, rfl, ⟨?_, ?_, by omega, by simpa using hn⟩, by omega, Nat.le_refl _, below_alloc b1 _⟩
  · have := blk_new (w.alloc (.cells (sFlat (List.replicate n zSlot)).toArray 56)) (.cells #[.slice (some ⟨w.heap.size, 0, none⟩) n n] T)
    simpa using this
  · rw [Below.heap_alloc _ _ _ (by simp)]
    exact blk_new w _
theorem new_ok (n : Nat) (w : World) (h1 : 1 ≤ n) (h8 : n ≤ 8) :
    Calls Tryd.prog 8 #[.int .i64 n] w (Fresh 58 n w) := by
  have hm := make_slots n h8
  have h0' : decide ((n : Int) < 1) = false := by simp; omega
  have h1' : decide ((8 : Int) < n) = false := by simp; omega
  go_enter Tryd.func8, Tryd.ntmps8
  go_wp2
  go_ret2
  exact fresh_made _ n h8 w
theorem rnew_ok (n : Nat) (w : World) (h1 : 1 ≤ n) (h8 : n ≤ 8) :
    Calls Tryd.prog 9 #[.int .i64 n] w (Fresh 46 n w) := by
  have hm := make_slots n h8
  have h0' : decide ((n : Int) < 1) = false := by simp; omega
  have h1' : decide ((8 : Int) < n) = false := by simp; omega
  go_enter Tryd.func9, Tryd.ntmps9
  go_wp2
  go_ret2
  exact fresh_made _ n h8 w
theorem rnew_bad (n : Int) (w : World) (h : n < 1 ∨ 8 < n) :
    Calls Tryd.prog 9 #[.int .i64 n] w fun e w' => e = .returned (.tuple #[.pointer none, .int .i64 2300]) ∧ w = w' := by
  by_cases h0 : n < 1
  · have h0' : decide (n < 1) = true := by simpa using h0
    go_enter Tryd.func9, Tryd.ntmps9
    go_wp2
    go_ret2
    exact ⟨rfl, rfl⟩
  · have h0' : decide (n < 1) = false := by simpa using h0
    have h1' : decide (8 < n) = true := by simp; omega
    go_enter Tryd.func9, Tryd.ntmps9
    go_wp2
    go_ret2
    exact ⟨rfl, rfl⟩

theorem slots_nil (w : World) : Calls Tryd.prog 20 #[.pointer none] w fun e w' => e = .returned (.slice none 0 0) ∧ w = w' := by
  go_enter Tryd.func20, Tryd.ntmps20
  go_wp2
  go_ret
  exact ⟨rfl, rfl⟩

theorem sFlat_one (xs : List Slot) : ∀ u ∈ sFlat xs, u.oneCell' = true := by
  intro u hu
  obtain ⟨x, _, h⟩ := List.mem_flatMap.1 hu
  unfold sCells at h
  simp at h
  rcases h with rfl | rfl | rfl | rfl <;> rfl

theorem own_form {w : World} {base : Nat} {e : TypeId} {size n : Nat} {v : Value} {xs : List Value} (h : w.ownsRow base e size v n xs) (h0 : 0 < n) : ∃ g cap, v = .slice (some ⟨g, 0, none⟩) n cap := by
  rcases h.2 with ⟨_, h1⟩ | ⟨g, cap, cur, rfl, _⟩
  · omega
  · exact ⟨g, cap, rfl⟩

/-- A row of slots of the call's own: block g from base on. -/
structure OwnS (w : World) (base : Nat) (g cap : Nat) (xs : List Slot) : Prop where
  own : w.ownsRow base 56 4 (.slice (some ⟨g, 0, none⟩) xs.length cap) xs.length (sFlat xs)
theorem OwnS.reads {w : World} {base g cap : Nat} {xs : List Slot} (h : OwnS w base g cap xs) (hn : xs.length ≤ 9223372036854775807) : ReadsS w (some ⟨g, 0, none⟩) xs :=
  ⟨hn, fun _ => ⟨g, rfl, fun k hk => by
    have e (j : Nat) (hj : j < 4) : w.cell? ⟨g, k * 4 + j, none⟩ = (sCells xs[k])[j]? := by rw [h.own.cellAt (k * 4 + j) (by omega)]; exact sFlat_get xs k j hk hj
    exact ⟨(e 0 (by omega)).trans rfl, (e 1 (by omega)).trans rfl, (e 2 (by omega)).trans rfl, (e 3 (by omega)).trans rfl⟩⟩⟩
def Handed (xs : List Slot) (w : World) (e : Ending) (w' : World) : Prop := ∃ g cap, e = .returned (.slice (some ⟨g, 0, none⟩) xs.length cap) ∧ OwnS w' w.heap.size g cap xs ∧ Below w.heap.size w w'
set_option maxHeartbeats 1000000 in
set_option maxRecDepth 100000 in
theorem slots_any (g gs : Nat) (xs : List Slot) (w : World) (h : ArenaAt 58 w g gs xs) (h1 : 1 ≤ xs.length) :
    Calls Tryd.prog 20 #[.pointer (some ⟨g, 0, none⟩)] w (Handed xs w) := by
  obtain ⟨i, hi, hz, hs, hb⟩ := info_parts info_slot
  have hh := h.head
  have hq := fun (W : World) (a : Option Addr) (l c : Nat) => Lib.run_eql_slice_nil (P := Tryd.prog) W 42 56 a l c 0 0 Tryd.underlying42
  have hle := h.le
  have b1 : Below w.heap.size w (w.alloc (.cells #[] 56)) := below_alloc (Below.refl _ _) _
  have HC := Lib.hid (fun j u (hu : (sFlat xs)[j]? = some u) => ((blk_cell (h.below b1).s j).trans (by simpa using hu) : (w.alloc (.cells #[] 56)).cell? ⟨gs, j, none⟩ = some u))
  have HB := Lib.hid b1
  clear b1
  go_enter Tryd.func20, Tryd.ntmps20
  go_wp2_with (first | (at_builtin; refine wpList_append_own _ rfl _ _ 42 rfl w.heap.size 56 i _ 4 32 Tryd.underlying42 hi hz hs hb rfl (by decide) _ _ _ rfl (World.ownsRow_made w #[] 0 (Nat.le_refl _) (by decide) rfl) ⟨gs, 0, none⟩ xs.length xs.length (sFlat xs) rfl (sFlat_len xs) ?c1 ?c2 ?c3 ?c4 ?c5 ?_; rotate_left 5; intro v' w' hown hgrow _) | (go_at_call 28; go_in))
  case c1 => exact fun j u hu => by rw [add_plain]; exact HC.out j u hu
  case c2 => exact sFlat_one xs
  case c3 => unfold maxLen; omega
  case c4 => omega
  case c5 => simp
  have hB2 := Lib.hid (HB.out.grown hgrow (by simp) (fun k hk => by cases hk; exact Nat.le_refl _))
  have HO := Lib.hid hown
  clear hown hgrow
  rw [Nat.zero_add, List.nil_append] at HO
  obtain ⟨g', cap, hv⟩ := own_form HO.out (by omega)
  go_ret
  exact ⟨g', cap, by rw [← hv]; rfl, ⟨by rw [← hv]; exact HO.out⟩, hB2.out⟩

def sEq (x y : Slot) : Bool := x.gen == y.gen && (x.state == y.state && (x.fn == y.fn && x.stamp == y.stamp))
theorem sEq_iff (x y : Slot) : sEq x y = true ↔ x = y := by
  unfold sEq
  cases x; cases y
  simp
theorem eqSlot (d : Nat) (w : World) (x y : Slot) : (Op.equalIn (d + 2) 56 (.agg #[.int .i64 x.gen, .int .i64 x.state, .int .i64 x.fn, .int .i64 x.stamp]) (.agg #[.int .i64 y.gen, .int .i64 y.state, .int .i64 y.fn, .int .i64 y.stamp])).run Tryd.prog w = .ok (sEq x y) w := by
  refine eq_struct Tryd.underlying56 (by kernel_rfl) ?_
  unfold sEq
  rw [← Bool.and_true (x.stamp == y.stamp)]
  refine eq_next (by rfl) (by go_simp; rfl) (by go_simp; rfl) (by go_simp) ?_
  refine eq_next (by rfl) (by go_simp; rfl) (by go_simp; rfl) (by go_simp) ?_
  refine eq_next (by rfl) (by go_simp; rfl) (by go_simp; rfl) (by go_simp) ?_
  exact eq_next (by rfl) (by go_simp; rfl) (by go_simp; rfl) (by go_simp) eq_done
/-- Two rows of slots, slot by slot. -/
def SamePost (xs ys : List Slot) (w : World) (e : Ending) (w' : World) : Prop := (∃ b, e = .returned (.bool b) ∧ (b = true ↔ xs = ys)) ∧ ∃ n, w' = w.drewN n
set_option maxHeartbeats 1000000 in
theorem same_slots (A B : Option Addr) (c d : Nat) (xs ys : List Slot) (w : World) (hx : ReadsS w A xs) (hy : ReadsS w B ys) :
    Calls Tryd.prog 21 #[.slice A xs.length c, .slice B ys.length d] w (SamePost xs ys w) := by
  have HX := Lib.hid hx
  have HY := Lib.hid hy
  have hm : xs.length ≤ 9223372036854775807 := hx.1
  have hq := fun (W : World) (x y : Slot) => neq_of (fun d => eqSlot d W x y)
  clear hx hy
  by_cases hl : xs.length = ys.length
  · have hl' : (xs.length != ys.length) = false := by simpa using hl
    have HL := Lib.hid hl
    clear hl
    go_enter Tryd.func21, Tryd.ntmps21
    go_wp2
    go_loopw [5] (fun i wr => ∃ k : Nat, k ≤ xs.length ∧ i = .int .i64 k ∧ xs.take k = ys.take k ∧ ∃ n, wr = w.drewN n) (fun i _ => xs.length - (intOf i).toNat)
    case atStart => exact ⟨0, Nat.zero_le _, rfl, rfl, 0, rfl⟩
    case round =>
      obtain ⟨k, hk, rfl, hv, n, rfl⟩ := hrel
      have HV := Lib.hid hv
      clear hv
      by_cases hlt : k < xs.length
      · have hly : k < ys.length := by have := HL.out; omega
        obtain ⟨a, rfl, c0, c1, c2, c3⟩ := HX.out.at_ hlt
        obtain ⟨b, rfl, d0, d1, d2, d3⟩ := HY.out.at_ hly
        by_cases he : sEq xs[k] ys[k] = true
        · go_wp2
          go_quiet (fail)
          go_wp2
          go_roundw
          case rel => exact ⟨k + 1, by omega, by go_num, take_same hlt hly HV.out ((sEq_iff _ _).1 he), by first | exact ⟨_, rfl⟩ | exact ⟨_, drewN_two _ _ _⟩⟩
          case measure => simp [intOf]; omega
        · have he' : sEq xs[k] ys[k] = false := by simpa using he
          go_wp2
          go_quiet (fail)
          go_wp2
          go_ret
          exact ⟨⟨false, rfl, by simp; intro e; subst e; exact he ((sEq_iff _ _).2 rfl)⟩, by first | exact ⟨_, rfl⟩ | exact ⟨_, drewN_two _ _ _⟩⟩
      · go_wp2
        go_ret
        exact ⟨⟨true, rfl, by simp; exact all_same (by omega) HL.out HV.out⟩, n, rfl⟩
  · have hl' : (xs.length != ys.length) = true := by simpa using hl
    go_enter Tryd.func21, Tryd.ntmps21
    go_wp2
    go_ret
    exact ⟨⟨false, rfl, by simp; intro e; exact hl (by rw [e])⟩, 0, rfl⟩
end Go.Proofs.YtjjnccllamgbaaaDoor

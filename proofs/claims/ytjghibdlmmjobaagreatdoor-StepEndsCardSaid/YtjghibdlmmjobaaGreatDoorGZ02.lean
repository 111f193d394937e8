/- The document's answer for which code, which programs may be. Conditions: the code, the functions lie in memory as they are said. Rows of the call's own: ints and bools in a block by themselves; queues, which are cut at their head and appended to. Plain definitions and lemmas. What comes next of a pc: the program's 'next' and the document's. Conditions: the function lies in memory as it is said. -/
import Derived.Test.YtjghibdlmmjobaaGreatDoorGZ01
import Derived.Laws.MakeOwn
import Derived.Lib.SliceRun
import Derived.ArgAppend
namespace Go.Proofs.YtjghibdlmmjobaaGreatDoor
open Go.RowKit

set_option maxRecDepth 100000 in
set_option maxHeartbeats 1000000 in
theorem rfuncMay_any (f : Fn) (A : Option Addr) (c : Nat) (w : World) (hr : ReadsC w A f.code) : Calls Tryz.prog 166 #[fnV f A c] w (Ret (.bool (codeMay f.code)) w) := by
  have B : Below w.heap.size w (w.alloc (.cells #[.int .i64 f.args, .int .i64 f.locals, .slice A f.code.length c] 84)) := below_alloc (Below.refl _ _) _
  have c2 : (w.alloc (.cells #[.int .i64 f.args, .int .i64 f.locals, .slice A f.code.length c] 84)).cell? ⟨w.heap.size, 2, none⟩ = some (.slice A f.code.length c) := (blk_cell (blk_new w _) 2).trans rfl
  obtain ⟨a, l, code⟩ := f
  have hn : code.length ≤ 9223372036854775807 := hr.1
  have HR := Lib.hid hr
  have HB := Lib.hid B
  have C2 := Lib.hid c2
  clear hr B c2
  unfold fnV
  simp only [] at HR C2 HB ⊢
  by_cases h1 : code.length < 1
  · have d1 : decide (code.length < 1) = true := by simpa using h1
    have hm : codeMay code = false := by unfold codeMay; rw [decide_eq_false (by omega : ¬ 1 ≤ code.length)]; rfl
    rw [hm]
    go_enter Tryz.func166, Tryz.ntmps166
    go_wp2
    go_ret
    exact ⟨rfl, HB.out⟩
  by_cases h2 : 64 < code.length
  · have d1 : decide (code.length < 1) = false := by simpa using h1
    have d2 : decide (64 < code.length) = true := by simpa using h2
    have hm : codeMay code = false := by unfold codeMay; rw [decide_eq_false (by omega : ¬ code.length ≤ 64)]; simp
    rw [hm]
    go_enter Tryz.func166, Tryz.ntmps166
    go_wp2
    go_ret
    exact ⟨rfl, HB.out⟩
  have d1 : decide (code.length < 1) = false := by simpa using h1
  have d2 : decide (64 < code.length) = false := by simpa using h2
  have hm : codeMay code = code.all insMay := by unfold codeMay; rw [decide_eq_true (by omega : code.length ≤ 64), decide_eq_true (by omega : 1 ≤ code.length)]; simp
  rw [hm]
  go_enter Tryz.func166, Tryz.ntmps166
  go_wp2
  go_loopw [3] (fun i wr => ∃ k : Nat, k ≤ code.length ∧ i = .int .i64 k ∧ (∀ j (hj : j < code.length), j < k → insMay code[j] = true) ∧ Below w.heap.size w wr ∧ wr.cell? ⟨w.heap.size, 2, none⟩ = some (.slice A code.length c)) (fun i _ => code.length - (intOf i).toNat)
  case atStart => exact ⟨0, Nat.zero_le _, rfl, fun _ _ h => absurd h (Nat.not_lt_zero _), HB.out, C2.out⟩
  case round =>
    obtain ⟨k, hk, rfl, hv, hB, c2⟩ := hrel
    have HV := Lib.hid hv
    have HB2 := Lib.hid hB
    clear hv hB
    by_cases hlt : k < code.length
    · obtain ⟨ad, rfl, c0, c1⟩ := HR.out.at_ HB2.out hlt
      have HN := Lib.hid (rmay_any code[k] wr)
      unfold Ins.v at HN
      have dk : decide (k < code.length) = true := by simpa using hlt
      cases hm : insMay code[k] with
      | true =>
        rw [hm] at HN
        go_wp2_with fail
        refine HN.out.mono ?_
        rintro e w2 ⟨rfl, hB2⟩
        have c3 := (hB2.cell (World.block_lt_of_cell? wr _ c2)).trans c2
        have HB3 := Lib.hid (below_trans HB2.out hB2)
        clear hB2
        go_wp2
        go_roundw
        case rel => exact ⟨k + 1, by omega, by go_num, upto_succ HV.out hlt hm, HB3.out, c3⟩
        case measure => simp only [intOf]; omega
      | false =>
        rw [hm] at HN
        go_wp2_with fail
        refine HN.out.mono ?_
        rintro e w2 ⟨rfl, hB2⟩
        have HB3 := Lib.hid (below_trans HB2.out hB2)
        clear hB2
        go_wp2
        go_ret
        exact ⟨ret_bool (all_not hlt hm).symm, HB3.out⟩
    · have dk : decide (k < code.length) = false := by simpa using hlt
      go_wp2
      go_ret
      exact ⟨ret_bool (all_upto (by omega) HV.out).symm, HB2.out⟩

theorem fnMay_code (f : Fn) : fnMay f = (decide (0 ≤ f.args) && decide (f.args ≤ 4) && decide (f.args ≤ f.locals) && decide (f.locals ≤ 8) && codeMay f.code) := by
  unfold fnMay codeMay
  simp only [Bool.and_assoc]
set_option maxRecDepth 100000 in
set_option maxHeartbeats 2000000 in
theorem rpacks_any (p : List Fn) (A : Option Addr) (c : Nat) (w : World) (hr : ReadsF w A p) : Calls Tryz.prog 118 #[.agg #[.slice A p.length c]] w (Ret (.bool (packs p)) w) := by
  have B : Below w.heap.size w (w.alloc (.cells #[.slice A p.length c] 24)) := below_alloc (Below.refl _ _) _
  have c2 : (w.alloc (.cells #[.slice A p.length c] 24)).cell? ⟨w.heap.size, 0, none⟩ = some (.slice A p.length c) := (blk_cell (blk_new w _) 0).trans rfl
  have hn : p.length ≤ 9223372036854775807 := hr.1
  have HR := Lib.hid hr
  have HB := Lib.hid B
  have C2 := Lib.hid c2
  clear hr B c2
  by_cases h1 : p.length < 1
  · have d1 : decide (p.length < 1) = true := by simpa using h1
    have hm : packs p = false := by unfold packs; rw [decide_eq_false (by omega : ¬ 1 ≤ p.length)]; rfl
    rw [hm]
    go_enter Tryz.func118, Tryz.ntmps118
    go_wp2
    go_ret
    exact ⟨rfl, HB.out⟩
  by_cases h2 : 8 < p.length
  · have d1 : decide (p.length < 1) = false := by simpa using h1
    have d2 : decide (8 < p.length) = true := by simpa using h2
    have hm : packs p = false := by unfold packs; rw [decide_eq_false (by omega : ¬ p.length ≤ 8)]; simp
    rw [hm]
    go_enter Tryz.func118, Tryz.ntmps118
    go_wp2
    go_ret
    exact ⟨rfl, HB.out⟩
  have d1 : decide (p.length < 1) = false := by simpa using h1
  have d2 : decide (8 < p.length) = false := by simpa using h2
  have hm : packs p = p.all fnMay := by unfold packs; rw [decide_eq_true (by omega : p.length ≤ 8), decide_eq_true (by omega : 1 ≤ p.length)]; simp
  rw [hm]
  go_enter Tryz.func118, Tryz.ntmps118
  go_wp2
  go_loopw [3] (fun i wr => ∃ k : Nat, k ≤ p.length ∧ i = .int .i64 k ∧ (∀ j (hj : j < p.length), j < k → fnMay p[j] = true) ∧ Below w.heap.size w wr ∧ wr.cell? ⟨w.heap.size, 0, none⟩ = some (.slice A p.length c)) (fun i _ => p.length - (intOf i).toNat)
  case atStart => exact ⟨0, Nat.zero_le _, rfl, fun _ _ h => absurd h (Nat.not_lt_zero _), HB.out, C2.out⟩
  case round =>
    obtain ⟨k, hk, rfl, hv, hB, c2⟩ := hrel
    have HV := Lib.hid hv
    have HB2 := Lib.hid hB
    clear hv hB
    by_cases hlt : k < p.length
    · obtain ⟨ad, rfl, c0, c1, Ac, cc, c3, rc⟩ := HR.out.at_ HB2.out hlt
      have dk : decide (k < p.length) = true := by simpa using hlt
      have b1 : Below wr.heap.size wr (wr.alloc (.cells #[.int .i64 p[k].args, .int .i64 p[k].locals, .slice Ac p[k].code.length cc] 84)) := below_alloc (Below.refl _ _) _
      have HN := Lib.hid (rfuncMay_any p[k] Ac cc _ (rc.below b1))
      have HB3 := Lib.hid (below_trans HB2.out b1)
      have c4 := (b1.cell (World.block_lt_of_cell? wr _ c2)).trans c2
      clear rc b1
      unfold fnV at HN
      have hf := fnMay_code p[k]
      by_cases hq : 0 ≤ p[k].args ∧ p[k].args ≤ 4 ∧ p[k].args ≤ p[k].locals ∧ p[k].locals ≤ 8
      · obtain ⟨q1, q2, q3, q4⟩ := hq
        rw [decide_eq_true q1, decide_eq_true q2, decide_eq_true q3, decide_eq_true q4] at hf
        have e1 : decide (p[k].args < 0) = false := by simpa using q1
        have e2 : decide (4 < p[k].args) = false := by simpa using q2
        have e3 : decide (p[k].locals < p[k].args) = false := by simpa using q3
        have e4 : decide (8 < p[k].locals) = false := by simpa using q4
        cases hm : codeMay p[k].code with
        | true =>
          rw [hm] at HN hf
          have HF := Lib.hid hf
          clear hf
          go_wp2_with (go_at_call 166; refine HN.out.mono ?_; rintro e w2 ⟨rfl, hB2⟩)
          have c5 := (hB2.cell (World.block_lt_of_cell? _ _ c4)).trans c4
          go_roundw
          case rel => exact ⟨k + 1, by omega, by go_num, upto_succ HV.out hlt (by rw [HF.out]; rfl), below_trans HB3.out hB2, c5⟩
          case measure => simp only [intOf]; omega
        | false =>
          rw [hm] at HN hf
          have HF := Lib.hid hf
          clear hf
          go_wp2_with (go_at_call 166; refine HN.out.mono ?_; rintro e w2 ⟨rfl, hB2⟩)
          go_ret
          exact ⟨ret_bool (all_not hlt (by rw [HF.out]; rfl)).symm, below_trans HB3.out hB2⟩
      · have hf2 : fnMay p[k] = false := by
          rw [hf]; simp; intro a1 a2 a3 a4; exact absurd ⟨a1, a2, a3, a4⟩ hq
        have HF := Lib.hid hf2
        clear hf hf2
        by_cases q1 : p[k].args < 0
        · have e1 : decide (p[k].args < 0) = true := by simpa using q1
          go_wp2_with fail
          go_ret
          exact ⟨ret_bool (all_not hlt HF.out).symm, HB3.out⟩
        have e1 : decide (p[k].args < 0) = false := by simpa using q1
        by_cases q2 : 4 < p[k].args
        · have e2 : decide (4 < p[k].args) = true := by simpa using q2
          go_wp2_with fail
          go_ret
          exact ⟨ret_bool (all_not hlt HF.out).symm, HB3.out⟩
        have e2 : decide (4 < p[k].args) = false := by simpa using q2
        by_cases q3 : p[k].locals < p[k].args
        · have e3 : decide (p[k].locals < p[k].args) = true := by simpa using q3
          go_wp2_with fail
          go_ret
          exact ⟨ret_bool (all_not hlt HF.out).symm, HB3.out⟩
        have e3 : decide (p[k].locals < p[k].args) = false := by simpa using q3
        have e4 : decide (8 < p[k].locals) = true := by simp; omega
        go_wp2_with fail
        go_ret
        exact ⟨ret_bool (all_not hlt HF.out).symm, HB3.out⟩
    · have dk : decide (k < p.length) = false := by simpa using hlt
      go_wp2
      go_ret
      exact ⟨ret_bool (all_upto (by omega) HV.out).symm, HB2.out⟩
end Go.Proofs.YtjghibdlmmjobaaGreatDoor

namespace Go.Proofs.YtjghibdlmmjobaaGreatDoor
open Go.RowKit

theorem add_pos (a : Addr) (j : Nat) (hj : 0 < j) : a.add j = ⟨a.block, a.off + j, none⟩ := by unfold Addr.add; rw [if_neg (by omega)]
theorem add_nil (a : Addr) : a.add 0 = a := by unfold Addr.add; rw [if_pos rfl]
/-- What a call keeps: all but one block. -/
def Keeps (gs : Nat) (w w' : World) : Prop := w.grownBy w' (some gs)
theorem Keeps.of_below {gs : Nat} {w w' : World} (h : Below w.heap.size w w') : Keeps gs w w' := ⟨h.os, h.tape, h.output, h.size, fun i hi _ => h.block i hi⟩
theorem Keeps.trans {gs : Nat} {w w1 w2 : World} (h : Keeps gs w w1) (k : Keeps gs w1 w2) : Keeps gs w w2 :=
  ⟨k.os.trans h.os, k.tape.trans h.tape, k.output.trans h.output, Nat.le_trans h.size k.size, fun i hi hn => (k.block i (Nat.lt_of_lt_of_le hi h.size) hn).trans (h.block i hi hn)⟩
theorem Keeps.put {gs : Nat} {w w1 : World} (h : Keeps gs w w1) (o : Nat) (u : Value) : Keeps gs w (w1.setCell ⟨gs, o, none⟩ u) :=
  h.trans ⟨rfl, rfl, rfl, by simp [World.setCell], fun i _ hn => Below.heap_setCell _ _ _ _ (fun e => hn (by rw [e]))⟩
theorem Keeps.drew {gs : Nat} {w w1 : World} (h : Keeps gs w w1) : Keeps gs w w1.drew := h.trans ⟨rfl, rfl, rfl, Nat.le_refl _, fun _ _ _ => rfl⟩
theorem Keeps.drewN {gs : Nat} {w w1 : World} (h : Keeps gs w w1) (n : Nat) : Keeps gs w (w1.drewN n) := h.trans ⟨rfl, rfl, rfl, Nat.le_refl _, fun _ _ _ => rfl⟩
/-- A row of values, in the block b by itself. -/
def RowAt (t : Nat) (b : Nat) (vs : List Value) (w : World) : Prop := w.heap[b]? = some (.cells vs.toArray t (0, 0))
theorem RowAt.cell {t b : Nat} {vs : List Value} {w : World} (h : RowAt t b vs w) {k : Nat} (hk : k < vs.length) : w.cell? ⟨b, k, none⟩ = some vs[k] := by
  rw [blk_cell h]; simp [hk]
theorem RowAt.free {t b : Nat} {vs : List Value} {w : World} (h : RowAt t b vs w) (k : Nat) : w.frozen? ⟨b, k, none⟩ = false := blk_free h k
theorem RowAt.keeps {t b g : Nat} {vs : List Value} {w w1 : World} (h : RowAt t b vs w) (hk : Keeps g w w1) (hn : b ≠ g) : RowAt t b vs w1 := (hk.block b (blk_lt h) (by simpa using hn)).trans h
theorem RowAt.below {t b : Nat} {vs : List Value} {w w1 : World} (h : RowAt t b vs w) (hb : Below w.heap.size w w1) : RowAt t b vs w1 := (hb.block b (blk_lt h)).trans h
theorem RowAt.put {t b : Nat} {vs : List Value} {w : World} (h : RowAt t b vs w) (k : Nat) (v : Value) : RowAt t b (vs.set k v) (w.setCell ⟨b, k, none⟩ v) := by
  unfold RowAt at *
  simp [World.setCell, Array.getElem?_modify, h]
theorem RowAt.new (t : Nat) (vs : List Value) (w : World) : RowAt t w.heap.size vs (w.alloc (.cells vs.toArray t)) := blk_new w _
def intsV (xs : List Int) : List Value := xs.map fun n => .int .i64 n
def boolsV (xs : List Bool) : List Value := xs.map fun b => .bool b
theorem intsV_len (xs : List Int) : (intsV xs).length = xs.length := by simp [intsV]
theorem boolsV_len (xs : List Bool) : (boolsV xs).length = xs.length := by simp [boolsV]
theorem ints_cell {t b : Nat} {xs : List Int} {w : World} (h : RowAt t b (intsV xs) w) {k : Nat} (hk : k < xs.length) : w.cell? ⟨b, k, none⟩ = some (.int .i64 xs[k]) := by
  rw [h.cell (by rw [intsV_len]; exact hk)]; simp [intsV]
theorem bools_cell {t b : Nat} {xs : List Bool} {w : World} (h : RowAt t b (boolsV xs) w) {k : Nat} (hk : k < xs.length) : w.cell? ⟨b, k, none⟩ = some (.bool xs[k]) := by
  rw [h.cell (by rw [boolsV_len]; exact hk)]; simp [boolsV]
theorem ints_put {t b : Nat} {xs : List Int} {w : World} (h : RowAt t b (intsV xs) w) (k : Nat) (n : Int) : RowAt t b (intsV (xs.set k n)) (w.setCell ⟨b, k, none⟩ (.int .i64 n)) := by
  have := h.put k (.int .i64 n); rwa [show (intsV xs).set k (.int .i64 n) = intsV (xs.set k n) by simp [intsV, List.map_set]] at this
theorem bools_put {t b : Nat} {xs : List Bool} {w : World} (h : RowAt t b (boolsV xs) w) (k : Nat) (n : Bool) : RowAt t b (boolsV (xs.set k n)) (w.setCell ⟨b, k, none⟩ (.bool n)) := by
  have := h.put k (.bool n); rwa [show (boolsV xs).set k (.bool n) = boolsV (xs.set k n) by simp [boolsV, List.map_set]] at this

theorem info_int : (Tryz.prog.info? 3).map (fun i => (i.zero, i.size, i.bytes)) = some (some (.int .i64 0), 1, 8) := by kernel_rfl
theorem info_bool : (Tryz.prog.info? 4).map (fun i => (i.zero, i.size, i.bytes)) = some (some (.bool false), 1, 1) := by kernel_rfl
theorem made_one (z : Value) (h : z.cells = #[z]) (n : Nat) : madeCells z.cells (n * 1) = (List.replicate n z).toArray := by
  rw [h]
  apply Array.ext
  · simp [madeCells]
  · intro j h1 h2
    simp [madeCells, Nat.mod_one]
theorem make_ints (n : Nat) (hn : n ≤ 100) (w : World) : (Instr.makeSlice 28 (.int .i64 n) (.int .i64 n)).run Tryz.prog w = .ok (.slice (some ⟨w.heap.size, 0, none⟩) n n) (w.alloc (.cells (intsV (List.replicate n 0)).toArray 3)) := by
  obtain ⟨i, hi, hz, hs, hb⟩ := info_parts info_int
  have h := run_make (P := Tryz.prog) w 28 3 i _ Tryz.underlying28 hi hz .i64 .i64 n n (by omega) (by omega) (by rw [hb]; omega) (by omega)
  rw [hs] at h
  simp only [Int.toNat_natCast] at h
  rw [made_one _ rfl, show List.replicate n (Value.int .i64 0) = intsV (List.replicate n 0) by simp [intsV]] at h
  exact h
theorem make_bools (n : Nat) (hn : n ≤ 100) (w : World) : (Instr.makeSlice 123 (.int .i64 n) (.int .i64 n)).run Tryz.prog w = .ok (.slice (some ⟨w.heap.size, 0, none⟩) n n) (w.alloc (.cells (boolsV (List.replicate n false)).toArray 4)) := by
  obtain ⟨i, hi, hz, hs, hb⟩ := info_parts info_bool
  have h := run_make (P := Tryz.prog) w 123 4 i _ Tryz.underlying123 hi hz .i64 .i64 n n (by omega) (by omega) (by rw [hb]; omega) (by omega)
  rw [hs] at h
  simp only [Int.toNat_natCast] at h
  rw [made_one _ rfl, show List.replicate n (Value.bool false) = boolsV (List.replicate n false) by simp [boolsV]] at h
  exact h

theorem zero_int : ∀ w, (zeroValue 3).run Tryz.prog w = .ok (.int .i64 0) w := by
  obtain ⟨i, hi, hz, hs, hb⟩ := info_parts info_int
  intro w
  simp [zeroValue, typeInfo, hi, hz]
theorem clear_ints (w : World) (b o n c : Nat) (hn : 0 < n) (hc : ∀ j, j < n → (w.cell? ⟨b, o + j, none⟩).isSome = true) (hf : ∀ j, j < n → w.frozen? ⟨b, o + j, none⟩ = false) :
    (Builtin.clear_ #[28] 0 #[.slice (some ⟨b, o, none⟩) n c]).run Tryz.prog w = .ok (.tuple #[]) (w.setCells b o (List.replicate n (.int .i64 0))) :=
  Lib.run_clear_slice w _ 3 0 (.int .i64 0) Tryz.underlying28 zero_int rfl rfl b o n c hn hc hf
theorem Keeps.refl (g : Nat) (w : World) : Keeps g w w := Keeps.of_below (Below.refl _ _)
/-- What turns a block of the call's own leaves all that is old. -/
theorem below_keep {g : Nat} {w0 w w1 : World} (h : Below w0.heap.size w0 w) (hk : Keeps g w w1) (hl : w0.heap.size ≤ g) : Below w0.heap.size w0 w1 :=
  ⟨hk.os.trans h.os, hk.tape.trans h.tape, hk.output.trans h.output, Nat.le_trans h.size hk.size, fun i hi => (hk.block i (Nat.lt_of_lt_of_le hi h.size) (by simp; omega)).trans (h.block i hi)⟩
theorem Keeps.after {g : Nat} {w0 w w1 : World} (hk : Keeps g w0 w) (h : Below w.heap.size w w1) : Keeps g w0 w1 := hk.trans (Keeps.of_below h)
theorem ints_reads {b : Nat} {xs : List Int} {vs : List Value} {w : World} (h : RowAt 3 b (intsV xs ++ vs) w) (hn : xs.length ≤ 9223372036854775807) : ReadsI w (some ⟨b, 0, none⟩) xs :=
  ⟨hn, fun _ => ⟨_, rfl, fun j hj => by
    rw [add_plain, h.cell (by simp [intsV]; omega), List.getElem_append_left (by simpa [intsV] using hj)]; simp [intsV]⟩⟩
end Go.Proofs.YtjghibdlmmjobaaGreatDoor

namespace Go.Proofs.YtjghibdlmmjobaaGreatDoor
open Go.RowKit

/-- The first that is not below L; -1: there is none. -/
def idxI (L : Nat) (xs : List Int) : Int := match xs.findIdx? (fun x => decide ((L : Int) ≤ x)) with | some k => k | none => -1
theorem idxI_none {L : Nat} {xs : List Int} (k : Nat) (hk : xs.length ≤ k) (h : ∀ j (hj : j < xs.length), j < k → decide ((L : Int) ≤ xs[j]) = false) : idxI L xs = -1 := by
  have : xs.findIdx? (fun x => decide ((L : Int) ≤ x)) = none := by
    rw [List.findIdx?_eq_none_iff]
    intro x hx
    obtain ⟨j, hj, rfl⟩ := List.mem_iff_getElem.1 hx
    exact h j hj (by omega)
  unfold idxI; rw [this]
theorem idxI_some {L : Nat} {xs : List Int} (k : Nat) (hk : k < xs.length) (h : ∀ j (hj : j < xs.length), j < k → decide ((L : Int) ≤ xs[j]) = false) (he : decide ((L : Int) ≤ xs[k]) = true) : idxI L xs = k := by
  have : xs.findIdx? (fun x => decide ((L : Int) ≤ x)) = some k := by
    rw [List.findIdx?_eq_some_iff_getElem]
    exact ⟨hk, he, fun j hj => by simp [h j (by omega) hj]⟩
  unfold idxI; rw [this]
set_option maxRecDepth 100000 in
set_option maxHeartbeats 1000000 in
theorem indexI_any (P F : Addr) (f : Fn) (A : Option Addr) (c : Nat) (B : Option Addr) (d : Nat) (xs : List Int) (w : World) (hP : w.cell? P = some (.pointer (some F))) (hF : FnAt w F f A c) (hr : ReadsI w B xs) :
    Calls Tryz.prog 205 #[.slice B xs.length d, .func (.func 225) #[] #[.pointer (some P)]] w fun e w' => e = .returned (.int .i64 (idxI f.code.length xs)) ∧ w' = w := by
  have HR := Lib.hid hr
  have hn : xs.length ≤ 9223372036854775807 := hr.1
  have c2 := hF.c2
  clear hr hF
  go_enter Tryz.func205, Tryz.ntmps205
  go_wp2
  go_loopw [5, 8] (fun _ i wr => ∃ k : Nat, k ≤ xs.length ∧ i = .int .i64 k ∧ (∀ j (hj : j < xs.length), j < k → decide ((f.code.length : Int) ≤ xs[j]) = false) ∧ wr = w) (fun _ i _ => xs.length - (intOf i).toNat)
  case atStart => exact ⟨0, Nat.zero_le _, rfl, fun _ _ h => absurd h (Nat.not_lt_zero _), rfl⟩
  case round =>
    obtain ⟨k, hk, rfl, hv, rfl⟩ := hrel
    have HV := Lib.hid hv
    clear hv
    by_cases hlt : k < xs.length
    · obtain ⟨ad, rfl, c0⟩ := HR.out.at_ hlt
      by_cases hm : (f.code.length : Int) ≤ xs[k]
      · have dm : decide ((f.code.length : Int) ≤ xs[k]) = true := by simpa using hm
        go_wp2
        go_ret
        exact ⟨ret_int (idxI_some k hlt HV.out dm).symm, rfl⟩
      · have dm : decide ((f.code.length : Int) ≤ xs[k]) = false := by simpa using hm
        go_wp2
        go_roundw
        case rel => exact ⟨k + 1, by omega, by go_num, fun j hj h => by
          rcases Nat.lt_or_ge j k with h2 | h2
          · exact HV.out j hj h2
          · obtain rfl : j = k := by omega
            exact dm, by trivial⟩
        case measure => simp only [intOf]; omega
    · go_wp2
      go_ret
      exact ⟨ret_int (idxI_none k (by omega) HV.out).symm, rfl⟩

theorem del_same (P F : Addr) (f : Fn) (A : Option Addr) (c : Nat) (B : Option Addr) (d : Nat) (xs : List Int) (w : World) (hP : w.cell? P = some (.pointer (some F))) (hF : FnAt w F f A c) (hr : ReadsI w B xs) (hi : idxI f.code.length xs = -1) :
    Calls Tryz.prog 227 #[.slice B xs.length d, .func (.func 225) #[] #[.pointer (some P)]] w fun e w' => e = .returned (.slice B xs.length d) ∧ w' = w := by
  have HI := Lib.hid (indexI_any P F f A c B d xs w hP hF hr)
  rw [hi] at HI
  clear hP hF hr hi
  go_enter Tryz.func227, Tryz.ntmps227
  go_wp2_with fail
  refine HI.out.mono ?_
  rintro e w1 ⟨rfl, rfl⟩
  go_wp2
  go_ret
  exact ⟨rfl, rfl⟩
/-- What is left of a row of the call's own, in its place. -/
def Left (b d : Nat) (r : List Int) (w : World) (e : Ending) (w' : World) : Prop := e = .returned (.slice (some ⟨b, 0, none⟩) r.length d) ∧ (∃ vs, RowAt 3 b (intsV r ++ vs) w') ∧ Keeps b w w'
set_option maxRecDepth 100000 in
set_option maxHeartbeats 1000000 in
theorem del_one (P F : Addr) (f : Fn) (A : Option Addr) (c : Nat) (b : Nat) (x : Int) (w : World) (hP : w.cell? P = some (.pointer (some F))) (hF : FnAt w F f A c) (hb : RowAt 3 b (intsV [x]) w) (hx : (f.code.length : Int) ≤ x) :
    Calls Tryz.prog 227 #[.slice (some ⟨b, 0, none⟩) 1 1, .func (.func 225) #[] #[.pointer (some P)]] w (Left b 1 [] w) := by
  have hr : ReadsI w (some ⟨b, 0, none⟩) [x] := ints_reads (vs := []) (by simpa using hb) (by simp)
  have HI := Lib.hid (indexI_any P F f A c _ 1 [x] w hP hF hr)
  have c2 := hF.c2
  have hi : idxI f.code.length [x] = 0 := by simp [idxI, List.findIdx?_cons, hx]
  rw [hi] at HI
  have hc := clear_ints w b 0 1 1 (by omega) (fun j hj => by
    rw [hb.cell (by simp [intsV]; omega)]; rfl) (fun j _ => hb.free _)
  have hp := hb.put 0 (.int .i64 0)
  clear hr hF
  go_enter Tryz.func227, Tryz.ntmps227
  go_wp2_with fail
  refine HI.out.mono ?_
  rintro e w1 ⟨rfl, rfl⟩
  go_wp2_with fail
  refine wp_loop_rounds 1 ?_
  rw [rounds_succ]
  go_wp2
  go_ret
  exact ⟨rfl, ⟨[.int .i64 0], hp⟩, Keeps.put (Keeps.refl _ _) _ _⟩
set_option maxRecDepth 100000 in
set_option maxHeartbeats 1000000 in
theorem del_second (P F : Addr) (f : Fn) (A : Option Addr) (c : Nat) (b : Nat) (x y : Int) (w : World) (hP : w.cell? P = some (.pointer (some F))) (hF : FnAt w F f A c) (hb : RowAt 3 b (intsV [x, y]) w) (hx : ¬ (f.code.length : Int) ≤ x) (hy : (f.code.length : Int) ≤ y) :
    Calls Tryz.prog 227 #[.slice (some ⟨b, 0, none⟩) 2 2, .func (.func 225) #[] #[.pointer (some P)]] w (Left b 2 [x] w) := by
  have hr : ReadsI w (some ⟨b, 0, none⟩) [x, y] := ints_reads (vs := []) (by simpa using hb) (by simp)
  have HI := Lib.hid (indexI_any P F f A c _ 2 [x, y] w hP hF hr)
  have c2 := hF.c2
  have hi : idxI f.code.length [x, y] = 1 := by simp [idxI, List.findIdx?_cons, hx, hy]
  rw [hi] at HI
  have hc := clear_ints w b 1 1 1 (by omega) (fun j hj => by
    rw [hb.cell (by simp [intsV]; omega)]; rfl) (fun j _ => hb.free _)
  have hp := hb.put 1 (.int .i64 0)
  clear hr hF
  go_enter Tryz.func227, Tryz.ntmps227
  go_wp2_with fail
  refine HI.out.mono ?_
  rintro e w1 ⟨rfl, rfl⟩
  go_wp2_with fail
  refine wp_loop_rounds 1 ?_
  rw [rounds_succ]
  go_wp2
  go_ret
  exact ⟨rfl, ⟨[.int .i64 0], hp⟩, Keeps.put (Keeps.refl _ _) _ _⟩
set_option maxRecDepth 100000 in
set_option maxHeartbeats 1000000 in
theorem del_first (P F : Addr) (f : Fn) (A : Option Addr) (c : Nat) (b : Nat) (x y : Int) (w : World) (hP : w.cell? P = some (.pointer (some F))) (hF : FnAt w F f A c) (hb : RowAt 3 b (intsV [x, y]) w) (hx : (f.code.length : Int) ≤ x) (hy : ¬ (f.code.length : Int) ≤ y) :
    Calls Tryz.prog 227 #[.slice (some ⟨b, 0, none⟩) 2 2, .func (.func 225) #[] #[.pointer (some P)]] w (Left b 2 [y] w) := by
  have hr : ReadsI w (some ⟨b, 0, none⟩) [x, y] := ints_reads (vs := []) (by simpa using hb) (by simp)
  have HI := Lib.hid (indexI_any P F f A c _ 2 [x, y] w hP hF hr)
  have c2 := hF.c2
  have hi : idxI f.code.length [x, y] = 0 := by simp [idxI, List.findIdx?_cons, hx]
  rw [hi] at HI
  have dy : decide ((f.code.length : Int) ≤ y) = false := by simpa using hy
  have e1 := ints_cell hb (k := 1) (by simp)
  have e0 := ints_cell hb (k := 0) (by simp)
  have f0 := hb.free 0
  have hb2 := hb.put 0 (.int .i64 y)
  have hc := clear_ints (w.setCell ⟨b, 0, none⟩ (.int .i64 y)) b 1 1 1 (by omega) (fun j hj => by
    rw [hb2.cell (by simp [intsV]; omega)]; rfl) (fun j _ => hb2.free _)
  have hp := hb2.put 1 (.int .i64 0)
  clear hr hF
  go_enter Tryz.func227, Tryz.ntmps227
  go_wp2_with fail
  refine HI.out.mono ?_
  rintro e w1 ⟨rfl, rfl⟩
  go_wp2_with fail
  refine wp_loop_rounds 2 ?_
  rw [rounds_succ]
  go_wp2
  rw [rounds_succ]
  go_wp2
  go_ret
  exact ⟨rfl, ⟨[.int .i64 0], hp⟩, Keeps.put (Keeps.put (Keeps.refl _ _) _ _) _ _⟩
set_option maxRecDepth 100000 in
set_option maxHeartbeats 1000000 in
theorem del_both (P F : Addr) (f : Fn) (A : Option Addr) (c : Nat) (b : Nat) (x y : Int) (w : World) (hP : w.cell? P = some (.pointer (some F))) (hF : FnAt w F f A c) (hb : RowAt 3 b (intsV [x, y]) w) (hx : (f.code.length : Int) ≤ x) (hy : (f.code.length : Int) ≤ y) :
    Calls Tryz.prog 227 #[.slice (some ⟨b, 0, none⟩) 2 2, .func (.func 225) #[] #[.pointer (some P)]] w (Left b 2 [] w) := by
  have hr : ReadsI w (some ⟨b, 0, none⟩) [x, y] := ints_reads (vs := []) (by simpa using hb) (by simp)
  have HI := Lib.hid (indexI_any P F f A c _ 2 [x, y] w hP hF hr)
  have c2 := hF.c2
  have hi : idxI f.code.length [x, y] = 0 := by simp [idxI, List.findIdx?_cons, hx]
  rw [hi] at HI
  have dy : decide ((f.code.length : Int) ≤ y) = true := by simpa using hy
  have e1 := ints_cell hb (k := 1) (by simp)
  have hc := clear_ints w b 0 2 2 (by omega) (fun j hj => by
    rw [hb.cell (by simp [intsV]; omega)]; rfl) (fun j _ => hb.free _)
  have hp := (hb.put 0 (.int .i64 0)).put 1 (.int .i64 0)
  clear hr hF
  go_enter Tryz.func227, Tryz.ntmps227
  go_wp2_with fail
  refine HI.out.mono ?_
  rintro e w1 ⟨rfl, rfl⟩
  go_wp2_with fail
  refine wp_loop_rounds 2 ?_
  rw [rounds_succ]
  go_wp2
  rw [rounds_succ]
  go_wp2
  go_ret
  exact ⟨rfl, ⟨[.int .i64 0, .int .i64 0], hp⟩, Keeps.put (Keeps.put (Keeps.refl _ _) _ _) _ _⟩

theorem comp_short (B : Option Addr) (n d : Nat) (w : World) (h : n < 2) : Calls Tryz.prog 226 #[.slice B n d] w fun e w' => e = .returned (.slice B n d) ∧ w' = w := by
  go_enter Tryz.func226, Tryz.ntmps226
  go_wp2
  go_ret
  exact ⟨rfl, rfl⟩
set_option maxRecDepth 100000 in
set_option maxHeartbeats 1000000 in
theorem comp_diff (b : Nat) (x y : Int) (w : World) (hb : RowAt 3 b (intsV [x, y]) w) (hxy : x ≠ y) : Calls Tryz.prog 226 #[.slice (some ⟨b, 0, none⟩) 2 2] w fun e w' => e = .returned (.slice (some ⟨b, 0, none⟩) 2 2) ∧ Below w.heap.size w w' := by
  have e0 := ints_cell hb (k := 0) (by simp)
  have e1 := ints_cell hb (k := 1) (by simp)
  have dx : (y == x) = false := by simpa using Ne.symm hxy
  go_enter Tryz.func226, Tryz.ntmps226
  go_wp2_with fail
  refine wp_loop_rounds 2 ?_
  rw [rounds_succ]
  go_wp2_with fail
  go_quiet (fail)
  go_wp2_with fail
  rw [rounds_succ]
  go_wp2_with fail
  go_ret
  exact ⟨rfl, below_drew (Below.refl _ _) _⟩
set_option maxRecDepth 100000 in
set_option maxHeartbeats 1000000 in
theorem comp_same (b : Nat) (x : Int) (w : World) (hb : RowAt 3 b (intsV [x, x]) w) : Calls Tryz.prog 226 #[.slice (some ⟨b, 0, none⟩) 2 2] w (Left b 2 [x] w) := by
  have e0 := ints_cell hb (k := 0) (by simp)
  have e1 := ints_cell hb (k := 1) (by simp)
  have dx : (x == x) = true := by simp
  have hc (n : Nat) := clear_ints (w.drewN n) b 1 1 1 (by omega) (fun j hj => by
    show (w.cell? _).isSome = true
    rw [hb.cell (by simp [intsV]; omega)]; rfl) (fun j _ => hb.free _)
  have hp (n : Nat) : RowAt 3 b _ ((w.drewN n).setCell ⟨b, 1, none⟩ (.int .i64 0)) := RowAt.put (w := w.drewN n) hb 1 (.int .i64 0)
  go_enter Tryz.func226, Tryz.ntmps226
  go_wp2_with fail
  refine wp_loop_rounds 1 ?_
  rw [rounds_succ]
  go_wp2_with fail
  go_quiet (fail)
  go_wp2_with fail
  refine wp_loop_rounds 1 ?_
  rw [rounds_succ]
  go_wp2_with fail
  go_ret
  exact ⟨rfl, ⟨[.int .i64 0], hp _⟩, Keeps.put ((Keeps.refl _ _).drewN _) _ _⟩
end Go.Proofs.YtjghibdlmmjobaaGreatDoor

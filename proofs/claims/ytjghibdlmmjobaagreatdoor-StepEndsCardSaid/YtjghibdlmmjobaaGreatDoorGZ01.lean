/- Words for the walks: what a block's cells are, what a slice of ints reads as, what a call keeps. Plain definitions and lemmas. Instructions: which may be, what they take off the stack and put there; the program's functions and the document's answer so. Plain definitions, contracts. No condition. Programs: how they lie in memory, which may be packed; the program's functions and the document's answer so. Conditions: the code, the functions lie in memory as they are said. -/
import Derived.Test.YtjghibdlmmjobaaGreatDoorProg
import Derived.WalkKit
import Derived.WalkSpells
import Derived.WalkLawsBesides
import Derived.Lib.Hide
import Derived.Deep.QuietTactic
import Derived.BigQuiet
import Derived.Deep.LoopGhost
import Derived.Laws.StructEq
namespace Go.Proofs.YtjghibdlmmjobaaGreatDoor
open Go.RowKit

theorem below_alloc {w W : World} (h : Below w.heap.size w W) (o : Obj) : Below w.heap.size w (W.alloc o) := h.alloc h.size o
theorem below_trans {w w1 w2 : World} (h : Below w.heap.size w w1) (k : Below w1.heap.size w1 w2) : Below w.heap.size w w2 :=
  h.trans ⟨k.os, k.tape, k.output, k.size, fun i hi => k.block i (Nat.lt_of_lt_of_le hi h.size)⟩
theorem add_plain (g j : Nat) : (⟨g, 0, none⟩ : Addr).add j = ⟨g, j, none⟩ := by unfold Addr.add; split <;> simp_all
theorem blk_cell {w : World} {b : Nat} {cs : Array Value} {t : TypeId} {fr : Nat × Nat} (h : w.heap[b]? = some (.cells cs t fr)) (j : Nat) : w.cell? ⟨b, j, none⟩ = cs[j]? := by
  simp [World.cell?, h]
theorem blk_free {w : World} {b : Nat} {cs : Array Value} {t : TypeId} (h : w.heap[b]? = some (.cells cs t (0, 0))) (j : Nat) : w.frozen? ⟨b, j, none⟩ = false := by
  simp [World.frozen?, h]
theorem blk_lt {w : World} {b : Nat} {o : Obj} (h : w.heap[b]? = some o) : b < w.heap.size := (Array.getElem?_eq_some_iff.1 h).1
theorem blk_new (w : World) (o : Obj) : (w.alloc o).heap[w.heap.size]? = some o := by show (w.heap.push o)[w.heap.size]? = _; simp

section
variable {P : Program} {d : Nat} {w : World}
/-- '==' of two structs, field by field: the next field, then the others. -/
theorem eq_next {xs ys : Array Value} {f : Field} {fs : List Field} {a b : Value} {r s : Bool} (hn : (f.name == "_") = false) (ha : (part f.type xs f.offset).run P w = .ok a w) (hb : (part f.type ys f.offset).run P w = .ok b w)
    (he : (Op.equalIn d f.type a b).run P w = .ok r w) (hr : (Op.eqFields d xs ys fs).run P w = .ok s w) : (Op.eqFields d xs ys (f :: fs)).run P w = .ok (r && s) w := by
  have hn' : f.name ≠ "_" := by simpa using hn
  rw [Op.eqFields]
  simp only [if_pos hn', Sem.run_bind, ha, hb, he, Result.andThen_ok]
  cases r
  · simp
  · simpa using hr
theorem eq_done {xs ys : Array Value} : (Op.eqFields d xs ys []).run P w = .ok true w := by simp [Op.eqFields]
theorem eq_struct {t : TypeId} {fs : Array Field} {xs ys : Array Value} {r : Bool} (hu : P.underlying t = some (.struct fs)) (hp : P.stoodInHeld t = false) (h : (Op.eqFields d xs ys fs.toList).run P w = .ok r w) : (Op.equalIn (d + 1) t (.agg xs) (.agg ys)).run P w = .ok r w := by
  have hf : P.fieldsOf t = fs := by simp [Program.fieldsOf, hu]
  rw [run_equalIn_struct (P := P) w d t xs ys (by rw [hf]; exact hu) hp, hf]
  exact h
theorem eql_of {t : TypeId} {x y : Array Value} {r : Bool} (h : ∀ d, (Op.equalIn (d + 2) t (.agg x) (.agg y)).run P w = .ok r w) : (binOp .eql t (.agg x) (.agg y)).run P w = .ok (.bool r) w := by
  simp only [binOp]
  simp [Op.equal, Op.maxDepth, h 9998]
theorem neq_of {t : TypeId} {x y : Array Value} {r : Bool} (h : ∀ d, (Op.equalIn (d + 2) t (.agg x) (.agg y)).run P w = .ok r w) : (binOp .neq t (.agg x) (.agg y)).run P w = .ok (.bool (!r)) w := by
  simp only [binOp]
  simp [Op.equal, Op.maxDepth, h 9998]
end

theorem take_same {α : Type} {xs ys : List α} {k : Nat} (hx : k < xs.length) (hy : k < ys.length) (h : xs.take k = ys.take k) (he : xs[k] = ys[k]) : xs.take (k + 1) = ys.take (k + 1) := by
  rw [List.take_succ_eq_append_getElem hx, List.take_succ_eq_append_getElem hy, h, he]
theorem all_same {α : Type} {xs ys : List α} {k : Nat} (hx : xs.length ≤ k) (hy : xs.length = ys.length) (h : xs.take k = ys.take k) : xs = ys := by
  rwa [List.take_of_length_le hx, List.take_of_length_le (by omega)] at h
theorem drewN_two (w : World) (n m : Nat) : (w.drewN n).drewN m = w.drewN (n + m) := World.drewN_drewN ..

/-- A slice of ints, as it is read. -/
def ReadsI (w : World) (A : Option Addr) (xs : List Int) : Prop :=
  xs.length ≤ 9223372036854775807 ∧ (0 < xs.length → ∃ ad, A = some ad ∧ ∀ j (h : j < xs.length), w.cell? (ad.add j) = some (.int .i64 xs[j]))
theorem ReadsI.at_ {w : World} {A : Option Addr} {xs : List Int} (h : ReadsI w A xs) {k : Nat} (hk : k < xs.length) : ∃ ad, A = some ad ∧ w.cell? (ad.add k) = some (.int .i64 xs[k]) := by
  obtain ⟨ad, e, hc⟩ := h.2 (by omega)
  exact ⟨ad, e, hc _ hk⟩
theorem ReadsI.below {w w1 : World} {A : Option Addr} {xs : List Int} (h : ReadsI w A xs) (hb : Below w.heap.size w w1) : ReadsI w1 A xs :=
  ⟨h.1, fun hn => by
    obtain ⟨ad, e, hc⟩ := h.2 hn
    exact ⟨ad, e, fun j hj => (hb.cell (World.block_lt_of_cell? w _ (hc j hj))).trans (hc j hj)⟩⟩

theorem notin_succ {xs : List Int} {k : Nat} {v : Int} (h : k < xs.length) (h1 : v ∉ xs.take k) (h2 : (v == xs[k]) = false) : v ∉ xs.take (k + 1) := by
  rw [List.take_succ_eq_append_getElem h]
  intro hm
  rcases List.mem_append.1 hm with h3 | h3
  · exact h1 h3
  · rw [List.mem_singleton] at h3; rw [h3] at h2; simp at h2

end Go.Proofs.YtjghibdlmmjobaaGreatDoor

namespace Go.Proofs.YtjghibdlmmjobaaGreatDoor
open Go.RowKit

structure Ins where
  kind : Int
  a : Int
def Ins.v (x : Ins) : Value := .agg #[.int .i64 x.kind, .int .i64 x.a]
def isNum (x : Int) : Bool := decide (-2147483648 ≤ x) && decide (x ≤ 2147483647)
def belowOf (k : Int) : Int := if k = 1 ∨ k = 2 then 8 else if k = 12 ∨ k = 13 then 64 else if k = 14 then 8 else 1
def insMay (x : Ins) : Bool := if x.kind < 0 ∨ 16 < x.kind then false else if x.kind = 0 then isNum x.a else decide (0 ≤ x.a) && decide (x.a < belowOf x.kind)
def takesOf (k args : Int) : Int := if k = 0 ∨ k = 1 ∨ k = 12 then 0 else if k = 2 ∨ k = 11 ∨ k = 13 ∨ k = 15 ∨ k = 16 ∨ k = 10 then 1 else if k = 14 then args else 2
def putsOf (k : Int) : Int := if k = 2 ∨ k = 11 ∨ k = 13 ∨ k = 15 ∨ k = 16 ∨ k = 12 then 0 else if k = 10 then 2 else 1

/-- A call that only reads: its answer; nothing old turns. -/
def Ret (v : Value) (w : World) (e : Ending) (w' : World) : Prop := e = .returned v ∧ Below w.heap.size w w'
theorem Ret.same (v : Value) (w : World) : Ret v w (.returned v) w := ⟨rfl, Below.refl _ _⟩

theorem below_drew {w w1 : World} (h : Below w.heap.size w w1) (n : Nat) : Below w.heap.size w (w1.drewN n) := ⟨h.os, h.tape, h.output, h.size, h.block⟩
theorem ret_int {x y : Int} (h : x = y) : Ending.returned (.int .i64 x) = .returned (.int .i64 y) := by rw [h]
theorem ret_bool {x y : Bool} (h : x = y) : Ending.returned (.bool x) = .returned (.bool y) := by rw [h]
theorem wrap_num (n : Int) : (wrap64 (wrap32 n) == n) = isNum n := by
  unfold isNum
  rw [Bool.eq_iff_iff]
  simp only [beq_iff_eq, Bool.and_eq_true, decide_eq_true_eq]
  unfold wrap64 wrap32
  omega
theorem num_yes {n : Int} : isNum n = true ↔ -2147483648 ≤ n ∧ n ≤ 2147483647 := by unfold isNum; simp

theorem is_any (n : Int) (w : World) : Calls Tryz.prog 102 #[.int .i64 n] w fun e w' => e = .returned (.bool (isNum n)) ∧ w' = w := by
  go_enter Tryz.func102, Tryz.ntmps102
  go_wp2
  go_ret
  exact ⟨ret_bool (wrap_num n), rfl⟩
theorem number_any (n : Int) (w : World) : Calls Tryz.prog 76 #[.int .i64 n] w fun e w' => e = .returned (.bool (isNum n)) ∧ w' = w := by
  go_enter Tryz.func76, Tryz.ntmps76
  go_wp2
  all_goals go_ret
  all_goals exact ⟨ret_bool (by unfold isNum; first | (simp_all; done) | (simp_all; omega)), rfl⟩
theorem below_any (k : Int) (w : World) : Calls Tryz.prog 222 #[.int .i64 k] w fun e w' => e = .returned (.int .i64 (belowOf k)) ∧ w' = w := by
  go_enter Tryz.func222, Tryz.ntmps222
  go_wp2
  all_goals go_ret
  all_goals exact ⟨ret_int (by unfold belowOf; simp_all), rfl⟩

set_option maxRecDepth 100000 in
set_option maxHeartbeats 1000000 in
theorem may_any (x : Ins) (w : World) : Calls Tryz.prog 211 #[x.v] w (Ret (.bool (insMay x)) w) := by
  unfold Ins.v
  by_cases h0 : x.kind < 0 ∨ 16 < x.kind
  · have he : insMay x = false := by unfold insMay; rw [if_pos h0]
    rw [he]
    by_cases h1 : x.kind < 0
    · have d1 : decide (x.kind < 0) = true := by simpa using h1
      go_enter Tryz.func211, Tryz.ntmps211
      go_wp2
      go_ret
      exact ⟨rfl, below_alloc (Below.refl _ _) _⟩
    · have d1 : decide (x.kind < 0) = false := by simpa using h1
      have d2 : decide (16 < x.kind) = true := by simp; omega
      go_enter Tryz.func211, Tryz.ntmps211
      go_wp2
      go_ret
      exact ⟨rfl, below_alloc (Below.refl _ _) _⟩
  · have d1 : decide (x.kind < 0) = false := by simp; omega
    have d2 : decide (16 < x.kind) = false := by simp; omega
    by_cases hk : x.kind = 0
    · have he : insMay x = isNum x.a := by unfold insMay; rw [if_neg h0, if_pos hk]
      rw [he]
      have d3 : (x.kind == 0) = true := by simpa using hk
      go_enter Tryz.func211, Tryz.ntmps211
      go_wp2_with (go_at_call 102; refine (is_any _ _).mono ?_; rintro e w' ⟨rfl, rfl⟩)
      go_ret
      exact ⟨rfl, below_alloc (Below.refl _ _) _⟩
    · have he : insMay x = (decide (0 ≤ x.a) && decide (x.a < belowOf x.kind)) := by unfold insMay; rw [if_neg h0, if_neg hk]
      rw [he]
      have d3 : (x.kind == 0) = false := by simpa using hk
      go_enter Tryz.func211, Tryz.ntmps211
      by_cases ha : 0 ≤ x.a
      · have d4 : decide (0 ≤ x.a) = true := by simpa using ha
        go_wp2
        go_quiet (first | (go_at_call 222; refine Calls.quiet_of_same (below_any _ _)))
        go_wp2
        go_ret
        exact ⟨ret_bool (by simp [ha]), below_drew (below_alloc (Below.refl _ _) _) _⟩
      · have d4 : decide (0 ≤ x.a) = false := by simpa using ha
        go_wp2
        go_quiet (first | (go_at_call 222; refine Calls.quiet_of_same (below_any _ _)))
        go_wp2
        go_ret
        exact ⟨ret_bool (by rw [d4]; rfl), below_drew (below_alloc (Below.refl _ _) _) _⟩

theorem may_of {x : Ins} (h : insMay x = true) : 0 ≤ x.kind ∧ x.kind ≤ 16 ∧ (x.kind ≠ 0 → 0 ≤ x.a ∧ x.a < belowOf x.kind) := by
  unfold insMay at h
  by_cases h0 : x.kind < 0 ∨ 16 < x.kind
  · rw [if_pos h0] at h; cases h
  · rw [if_neg h0] at h
    refine ⟨by omega, by omega, fun hk => ?_⟩
    rw [if_neg hk] at h
    simpa using h
theorem may_eq {x : Ins} (k : Int) (h : x.kind = k) (h0 : 0 ≤ k) (h16 : k ≤ 16) (hk : k ≠ 0) : insMay x = (decide (0 ≤ x.a) && decide (x.a < belowOf k)) := by
  unfold insMay; rw [if_neg (by omega), if_neg (by omega), h]
set_option maxRecDepth 100000 in
set_option maxHeartbeats 1000000 in
theorem rmay_any (x : Ins) (w : World) : Calls Tryz.prog 202 #[x.v] w (Ret (.bool (insMay x)) w) := by
  have B : Below w.heap.size w (w.alloc (.cells #[.int .i64 x.kind, .int .i64 x.a] 48)) := below_alloc (Below.refl _ _) _
  obtain ⟨k, a⟩ := x
  have HB := Lib.hid B
  clear B
  unfold Ins.v
  go_enter Tryz.func202, Tryz.ntmps202
  go_wp2_with (go_at_call 76; refine (number_any _ _).mono ?_; rintro e w' ⟨rfl, rfl⟩)
  all_goals go_ret
  all_goals refine ⟨ret_bool ?_, HB.out⟩
  all_goals unfold insMay belowOf
  all_goals first | (simp_all; done) | (simp_all; omega) | (rw [Bool.eq_iff_iff]; simp_all; done) | (rw [Bool.eq_iff_iff]; simp_all; omega)

/-- What 'Effect' answers. -/
def effOf (x : Ins) (n : Int) : Int × Int × Int := if insMay x = true ∧ 0 ≤ n ∧ n ≤ 4 then (takesOf x.kind n, putsOf x.kind, 0) else (0, 0, 200)
def Trip (p : Int × Int × Int) : Value := .tuple #[.int .i64 p.1, .int .i64 p.2.1, .int .i64 p.2.2]
theorem ret_trip {a b c : Int} {p : Int × Int × Int} (h : p = (a, b, c)) : Ending.returned (.tuple #[.int .i64 a, .int .i64 b, .int .i64 c]) = .returned (Trip p) := by rw [h]; rfl
set_option maxRecDepth 100000 in
set_option maxHeartbeats 2000000 in
theorem effect_any (x : Ins) (n : Int) (w : World) : Calls Tryz.prog 217 #[x.v, .int .i64 n] w (Ret (Trip (effOf x n)) w) := by
  have B : Below w.heap.size w (w.alloc (.cells #[.int .i64 x.kind, .int .i64 x.a] 48)) := below_alloc (Below.refl _ _) _
  have HM := Lib.hid (may_any x (w.alloc (.cells #[.int .i64 x.kind, .int .i64 x.a] 48)))
  obtain ⟨k, a⟩ := x
  unfold Ins.v at HM ⊢
  cases hm : insMay ⟨k, a⟩ with
  | false =>
    rw [hm] at HM
    go_enter Tryz.func217, Tryz.ntmps217
    go_wp2_with (go_at_call 211; refine HM.out.mono ?_; rintro e w1 ⟨rfl, hB⟩)
    go_ret3
    exact ⟨ret_trip (by unfold effOf; rw [if_neg (by simp [hm])]), below_trans B hB⟩
  | true =>
    obtain ⟨k0, k16, _⟩ := may_of hm
    rw [hm] at HM
    by_cases hn : 0 ≤ n ∧ n ≤ 4
    · have d1 : decide (n < 0) = false := by simp; omega
      have d2 : decide (4 < n) = false := by simp; omega
      have he : effOf ⟨k, a⟩ n = (takesOf k n, putsOf k, 0) := by unfold effOf; rw [if_pos ⟨hm, hn.1, hn.2⟩]
      rw [he]
      go_enter Tryz.func217, Tryz.ntmps217
      go_wp2_with fail
      refine HM.out.mono ?_
      rintro e w1 ⟨rfl, hB⟩
      have c0 : w1.cell? ⟨w.heap.size, 0, none⟩ = some (.int .i64 k) := by rw [hB.cell (by simp)]; simp
      have B1 := Lib.hid (below_trans B hB)
      clear hB B hm he
      go_wp2
      all_goals go_ret3
      all_goals exact ⟨ret_trip (by unfold takesOf putsOf; first | (simp_all; done) | (simp_all; omega)), B1.out⟩
    · have he : effOf ⟨k, a⟩ n = (0, 0, 200) := by unfold effOf; rw [if_neg (fun h => hn ⟨h.2.1, h.2.2⟩)]
      rw [he]
      go_enter Tryz.func217, Tryz.ntmps217
      go_wp2_with (go_at_call 211; refine HM.out.mono ?_; rintro e w1 ⟨rfl, hB⟩)
      all_goals go_ret3
      all_goals first | exact ⟨rfl, below_trans B hB⟩ | (exfalso; omega)
set_option maxRecDepth 100000 in
set_option maxHeartbeats 2000000 in
theorem reffect_any (x : Ins) (n : Int) (w : World) : Calls Tryz.prog 204 #[x.v, .int .i64 n] w (Ret (Trip (effOf x n)) w) := by
  have B : Below w.heap.size w (w.alloc (.cells #[.int .i64 x.kind, .int .i64 x.a] 48)) := below_alloc (Below.refl _ _) _
  have HM := Lib.hid (rmay_any x (w.alloc (.cells #[.int .i64 x.kind, .int .i64 x.a] 48)))
  obtain ⟨k, a⟩ := x
  unfold Ins.v at HM ⊢
  cases hm : insMay ⟨k, a⟩ with
  | false =>
    rw [hm] at HM
    go_enter Tryz.func204, Tryz.ntmps204
    go_wp2_with (go_at_call 202; refine HM.out.mono ?_; rintro e w1 ⟨rfl, hB⟩)
    go_ret3
    exact ⟨ret_trip (by unfold effOf; rw [if_neg (by simp [hm])]), below_trans B hB⟩
  | true =>
    obtain ⟨k0, k16, _⟩ := may_of hm
    rw [hm] at HM
    by_cases hn : 0 ≤ n ∧ n ≤ 4
    · have d1 : decide (n < 0) = false := by simp; omega
      have d2 : decide (4 < n) = false := by simp; omega
      have he : effOf ⟨k, a⟩ n = (takesOf k n, putsOf k, 0) := by unfold effOf; rw [if_pos ⟨hm, hn.1, hn.2⟩]
      rw [he]
      go_enter Tryz.func204, Tryz.ntmps204
      go_wp2_with fail
      refine HM.out.mono ?_
      rintro e w1 ⟨rfl, hB⟩
      have c0 : w1.cell? ⟨w.heap.size, 0, none⟩ = some (.int .i64 k) := by rw [hB.cell (by simp)]; simp
      have B1 := Lib.hid (below_trans B hB)
      clear hB B hm he
      go_wp2
      all_goals go_ret3
      all_goals exact ⟨ret_trip (by unfold takesOf putsOf; first | (simp_all; done) | (simp_all; omega)), B1.out⟩
    · have he : effOf ⟨k, a⟩ n = (0, 0, 200) := by unfold effOf; rw [if_neg (fun h => hn ⟨h.2.1, h.2.2⟩)]
      rw [he]
      go_enter Tryz.func204, Tryz.ntmps204
      go_wp2_with (go_at_call 202; refine HM.out.mono ?_; rintro e w1 ⟨rfl, hB⟩)
      all_goals go_ret3
      all_goals first | exact ⟨rfl, below_trans B hB⟩ | (exfalso; omega)
end Go.Proofs.YtjghibdlmmjobaaGreatDoor

namespace Go.Proofs.YtjghibdlmmjobaaGreatDoor
open Go.RowKit

/-- Code, as it is read. -/
def ReadsC (w : World) (A : Option Addr) (xs : List Ins) : Prop :=
  xs.length ≤ 9223372036854775807 ∧ (0 < xs.length → ∃ ad : Addr, A = some ad ∧ ∀ k (h : k < xs.length), w.cell? (ad.add (k * 2)) = some (.int .i64 xs[k].kind) ∧ w.cell? ⟨(ad.add (k * 2)).block, (ad.add (k * 2)).off + 1, none⟩ = some (.int .i64 xs[k].a))
theorem ReadsC.at_ {w w1 : World} {A : Option Addr} {xs : List Ins} (h : ReadsC w A xs) (hb : Below w.heap.size w w1) {k : Nat} (hk : k < xs.length) : ∃ ad : Addr, A = some ad ∧ w1.cell? (ad.add (k * 2)) = some (.int .i64 xs[k].kind) ∧ w1.cell? ⟨(ad.add (k * 2)).block, (ad.add (k * 2)).off + 1, none⟩ = some (.int .i64 xs[k].a) := by
  obtain ⟨ad, e, hc⟩ := h.2 (by omega)
  obtain ⟨c0, c1⟩ := hc k hk
  exact ⟨ad, e, (hb.cell (World.block_lt_of_cell? w _ c0)).trans c0, (hb.cell (World.block_lt_of_cell? w _ c1)).trans c1⟩
theorem ReadsC.below {w w1 : World} {A : Option Addr} {xs : List Ins} (h : ReadsC w A xs) (hb : Below w.heap.size w w1) : ReadsC w1 A xs := ⟨h.1, fun h0 => by
  obtain ⟨ad, e, _⟩ := h.2 h0
  refine ⟨ad, e, fun k hk => ?_⟩
  obtain ⟨ad', e', c⟩ := h.at_ hb hk
  cases e.symm.trans e'
  exact c⟩
structure Fn where
  args : Int
  locals : Int
  code : List Ins
def fnMay (f : Fn) : Bool := decide (0 ≤ f.args) && decide (f.args ≤ 4) && decide (f.args ≤ f.locals) && decide (f.locals ≤ 8) && decide (1 ≤ f.code.length) && decide (f.code.length ≤ 64) && f.code.all insMay
def codeMay (xs : List Ins) : Bool := decide (1 ≤ xs.length) && decide (xs.length ≤ 64) && xs.all insMay
def packs (p : List Fn) : Bool := decide (1 ≤ p.length) && decide (p.length ≤ 8) && p.all fnMay
/-- A function's value. -/
def fnV (f : Fn) (A : Option Addr) (c : Nat) : Value := .agg #[.int .i64 f.args, .int .i64 f.locals, .slice A f.code.length c]
/-- Functions, as they are read. -/
def ReadsF (w : World) (A : Option Addr) (fs : List Fn) : Prop :=
  fs.length ≤ 9223372036854775807 ∧ (0 < fs.length → ∃ ad : Addr, A = some ad ∧ ∀ k (h : k < fs.length), w.cell? (ad.add (k * 3)) = some (.int .i64 fs[k].args) ∧ w.cell? ⟨(ad.add (k * 3)).block, (ad.add (k * 3)).off + 1, none⟩ = some (.int .i64 fs[k].locals) ∧
    ∃ Ac c, w.cell? ⟨(ad.add (k * 3)).block, (ad.add (k * 3)).off + 2, none⟩ = some (.slice Ac fs[k].code.length c) ∧ ReadsC w Ac fs[k].code)
theorem ReadsF.at_ {w w1 : World} {A : Option Addr} {fs : List Fn} (h : ReadsF w A fs) (hb : Below w.heap.size w w1) {k : Nat} (hk : k < fs.length) :
    ∃ ad : Addr, A = some ad ∧ w1.cell? (ad.add (k * 3)) = some (.int .i64 fs[k].args) ∧ w1.cell? ⟨(ad.add (k * 3)).block, (ad.add (k * 3)).off + 1, none⟩ = some (.int .i64 fs[k].locals) ∧
    ∃ Ac c, w1.cell? ⟨(ad.add (k * 3)).block, (ad.add (k * 3)).off + 2, none⟩ = some (.slice Ac fs[k].code.length c) ∧ ReadsC w1 Ac fs[k].code := by
  obtain ⟨ad, e, hc⟩ := h.2 (by omega)
  obtain ⟨c0, c1, Ac, c, c2, c3⟩ := hc k hk
  exact ⟨ad, e, (hb.cell (World.block_lt_of_cell? w _ c0)).trans c0, (hb.cell (World.block_lt_of_cell? w _ c1)).trans c1, Ac, c, (hb.cell (World.block_lt_of_cell? w _ c2)).trans c2, c3.below hb⟩
theorem ReadsF.below {w w1 : World} {A : Option Addr} {fs : List Fn} (h : ReadsF w A fs) (hb : Below w.heap.size w w1) : ReadsF w1 A fs := ⟨h.1, fun h0 => by
  obtain ⟨ad, e, _⟩ := h.2 h0
  refine ⟨ad, e, fun k hk => ?_⟩
  obtain ⟨ad', e', c⟩ := h.at_ hb hk
  cases e.symm.trans e'
  exact c⟩
theorem all_upto {α : Type} {p : α → Bool} {xs : List α} {k : Nat} (hk : xs.length ≤ k) (h : ∀ j (hj : j < xs.length), j < k → p xs[j] = true) : xs.all p = true := by
  rw [List.all_eq_true]
  intro x hx
  obtain ⟨j, hj, rfl⟩ := List.mem_iff_getElem.1 hx
  exact h j hj (by omega)
theorem all_not {α : Type} {p : α → Bool} {xs : List α} {k : Nat} (hk : k < xs.length) (h : p xs[k] = false) : xs.all p = false := by
  rw [List.all_eq_false]
  exact ⟨xs[k], List.getElem_mem hk, by simp [h]⟩
theorem upto_succ {α : Type} {p : α → Bool} {xs : List α} {k : Nat} (h : ∀ j (hj : j < xs.length), j < k → p xs[j] = true) (hk : k < xs.length) (he : p xs[k] = true) : ∀ j (hj : j < xs.length), j < k + 1 → p xs[j] = true := fun j hj h1 => by
  rcases Nat.lt_or_ge j k with h2 | h2
  · exact h j hj h2
  · obtain rfl : j = k := by omega
    exact he
/-- An index that tells whether all are so. -/
def IxAll (b : Bool) (w : World) (e : Ending) (w' : World) : Prop := ∃ r : Int, e = .returned (.int .i64 r) ∧ decide (0 ≤ r) = !b ∧ Below w.heap.size w w'

theorem badP_any (x : Ins) (w : World) : Calls Tryz.prog 210 #[x.v] w (Ret (.bool (!insMay x)) w) := by
  have B : Below w.heap.size w (w.alloc (.cells #[.int .i64 x.kind, .int .i64 x.a] 48)) := below_alloc (Below.refl _ _) _
  have HM := Lib.hid (may_any x (w.alloc (.cells #[.int .i64 x.kind, .int .i64 x.a] 48)))
  unfold Ins.v at HM ⊢
  go_enter Tryz.func210, Tryz.ntmps210
  go_wp2_with fail
  refine HM.out.mono ?_
  rintro e w1 ⟨rfl, hB⟩
  have B1 := Lib.hid (below_trans B hB)
  clear hB B
  go_wp2
  go_ret
  exact ⟨rfl, B1.out⟩
set_option maxHeartbeats 1000000 in
theorem indexP_any (A : Option Addr) (c : Nat) (xs : List Ins) (w : World) (hr : ReadsC w A xs) :
    Calls Tryz.prog 223 #[.slice A xs.length c, .func (.func 210) #[] #[]] w (IxAll (xs.all insMay) w) := by
  have HR := Lib.hid hr
  have hn : xs.length ≤ 9223372036854775807 := hr.1
  clear hr
  go_enter Tryz.func223, Tryz.ntmps223
  go_wp2
  go_loopw [5, 8] (fun _ i wr => ∃ k : Nat, k ≤ xs.length ∧ i = .int .i64 k ∧ (∀ j (hj : j < xs.length), j < k → insMay xs[j] = true) ∧ Below w.heap.size w wr) (fun _ i _ => xs.length - (intOf i).toNat)
  case atStart => exact ⟨0, Nat.zero_le _, rfl, fun _ _ h => absurd h (Nat.not_lt_zero _), Below.refl _ _⟩
  case round =>
    obtain ⟨k, hk, rfl, hv, hB⟩ := hrel
    have HV := Lib.hid hv
    have HB := Lib.hid hB
    clear hv hB
    by_cases hlt : k < xs.length
    · obtain ⟨ad, rfl, c0, c1⟩ := HR.out.at_ HB.out hlt
      have HN := Lib.hid (badP_any xs[k] wr)
      cases hm : insMay xs[k] with
      | true =>
        rw [hm] at HN
        unfold Ins.v at HN
        go_wp2_with (go_at_call 210; refine HN.out.mono ?_; rintro e w2 ⟨rfl, hB2⟩)
        go_roundw
        case rel => exact ⟨k + 1, by omega, by go_num, upto_succ HV.out hlt hm, below_trans HB.out hB2⟩
        case measure => simp only [intOf]; omega
      | false =>
        rw [hm] at HN
        unfold Ins.v at HN
        go_wp2_with (go_at_call 210; refine HN.out.mono ?_; rintro e w2 ⟨rfl, hB2⟩)
        go_ret
        exact ⟨k, rfl, by rw [all_not hlt hm]; simp, below_trans HB.out hB2⟩
    · go_wp2
      go_ret
      exact ⟨-1, rfl, by rw [all_upto (by omega) HV.out]; rfl, HB.out⟩
theorem containsP_any (A : Option Addr) (c : Nat) (xs : List Ins) (w : World) (hr : ReadsC w A xs) :
    Calls Tryz.prog 212 #[.slice A xs.length c, .func (.func 210) #[] #[]] w (Ret (.bool (!xs.all insMay)) w) := by
  have HI := Lib.hid (indexP_any A c xs w hr)
  clear hr
  go_enter Tryz.func212, Tryz.ntmps212
  go_wp2_with fail
  refine HI.out.mono ?_
  rintro e w1 ⟨r, rfl, hr, hB⟩
  go_wp2
  go_ret
  exact ⟨ret_bool (by simp), hB⟩

theorem badF_any (x : Ins) (w : World) : Calls Tryz.prog 224 #[x.v] w (Ret (.bool (!insMay x)) w) := by
  have B : Below w.heap.size w (w.alloc (.cells #[.int .i64 x.kind, .int .i64 x.a] 48)) := below_alloc (Below.refl _ _) _
  have HM := Lib.hid (may_any x (w.alloc (.cells #[.int .i64 x.kind, .int .i64 x.a] 48)))
  unfold Ins.v at HM ⊢
  go_enter Tryz.func224, Tryz.ntmps224
  go_wp2_with fail
  refine HM.out.mono ?_
  rintro e w1 ⟨rfl, hB⟩
  have B1 := Lib.hid (below_trans B hB)
  clear hB B
  go_wp2
  go_ret
  exact ⟨rfl, B1.out⟩
set_option maxHeartbeats 1000000 in
theorem indexF_any (A : Option Addr) (c : Nat) (xs : List Ins) (w : World) (hr : ReadsC w A xs) :
    Calls Tryz.prog 223 #[.slice A xs.length c, .func (.func 224) #[] #[]] w (IxAll (xs.all insMay) w) := by
  have HR := Lib.hid hr
  have hn : xs.length ≤ 9223372036854775807 := hr.1
  clear hr
  go_enter Tryz.func223, Tryz.ntmps223
  go_wp2
  go_loopw [5, 8] (fun _ i wr => ∃ k : Nat, k ≤ xs.length ∧ i = .int .i64 k ∧ (∀ j (hj : j < xs.length), j < k → insMay xs[j] = true) ∧ Below w.heap.size w wr) (fun _ i _ => xs.length - (intOf i).toNat)
  case atStart => exact ⟨0, Nat.zero_le _, rfl, fun _ _ h => absurd h (Nat.not_lt_zero _), Below.refl _ _⟩
  case round =>
    obtain ⟨k, hk, rfl, hv, hB⟩ := hrel
    have HV := Lib.hid hv
    have HB := Lib.hid hB
    clear hv hB
    by_cases hlt : k < xs.length
    · obtain ⟨ad, rfl, c0, c1⟩ := HR.out.at_ HB.out hlt
      have HN := Lib.hid (badF_any xs[k] wr)
      cases hm : insMay xs[k] with
      | true =>
        rw [hm] at HN
        unfold Ins.v at HN
        go_wp2_with (go_at_call 224; refine HN.out.mono ?_; rintro e w2 ⟨rfl, hB2⟩)
        go_roundw
        case rel => exact ⟨k + 1, by omega, by go_num, upto_succ HV.out hlt hm, below_trans HB.out hB2⟩
        case measure => simp only [intOf]; omega
      | false =>
        rw [hm] at HN
        unfold Ins.v at HN
        go_wp2_with (go_at_call 224; refine HN.out.mono ?_; rintro e w2 ⟨rfl, hB2⟩)
        go_ret
        exact ⟨k, rfl, by rw [all_not hlt hm]; simp, below_trans HB.out hB2⟩
    · go_wp2
      go_ret
      exact ⟨-1, rfl, by rw [all_upto (by omega) HV.out]; rfl, HB.out⟩
theorem containsF_any (A : Option Addr) (c : Nat) (xs : List Ins) (w : World) (hr : ReadsC w A xs) :
    Calls Tryz.prog 212 #[.slice A xs.length c, .func (.func 224) #[] #[]] w (Ret (.bool (!xs.all insMay)) w) := by
  have HI := Lib.hid (indexF_any A c xs w hr)
  clear hr
  go_enter Tryz.func212, Tryz.ntmps212
  go_wp2_with fail
  refine HI.out.mono ?_
  rintro e w1 ⟨r, rfl, hr, hB⟩
  go_wp2
  go_ret
  exact ⟨ret_bool (by simp), hB⟩

set_option maxRecDepth 100000 in
set_option maxHeartbeats 1000000 in
theorem not_any (f : Fn) (A : Option Addr) (c : Nat) (w : World) (hr : ReadsC w A f.code) : Calls Tryz.prog 197 #[fnV f A c] w (Ret (.bool (!fnMay f)) w) := by
  have B : Below w.heap.size w (w.alloc (.cells #[.int .i64 f.args, .int .i64 f.locals, .slice A f.code.length c] 84)) := below_alloc (Below.refl _ _) _
  have HC := Lib.hid (containsP_any A c f.code _ (hr.below B))
  obtain ⟨a, l, code⟩ := f
  have hn : code.length ≤ 9223372036854775807 := hr.1
  have HB := Lib.hid B
  clear hr B
  unfold fnV
  simp only [] at HC ⊢
  obtain ⟨m, hm⟩ : ∃ m, code.all insMay = m := ⟨_, rfl⟩
  rw [hm] at HC
  go_enter Tryz.func197, Tryz.ntmps197
  go_wp2_with (go_at_call 212; refine HC.out.mono ?_; rintro e w1 ⟨rfl, hB⟩)
  all_goals go_ret
  all_goals (refine ⟨ret_bool ?_, by first | exact below_trans HB.out (by assumption) | exact HB.out⟩; unfold fnMay; first | (rw [hm]; done) | (simp_all; done) | (simp_all; omega) | (rw [Bool.eq_iff_iff]; simp [hm]; done) | (rw [Bool.eq_iff_iff]; simp [hm]; omega) | (simp [hm]; omega) | (cases m <;> first | (simp [hm]; done) | (simp [hm]; omega) | (rw [Bool.eq_iff_iff]; simp [hm]; omega) | (rw [hm]; generalize code.length = L at *; rw [Bool.eq_iff_iff]; simp; omega)))
set_option maxHeartbeats 1000000 in
theorem indexN_any (A : Option Addr) (c : Nat) (fs : List Fn) (w : World) (hr : ReadsF w A fs) :
    Calls Tryz.prog 209 #[.slice A fs.length c, .func (.func 197) #[] #[]] w (IxAll (fs.all fnMay) w) := by
  have HR := Lib.hid hr
  have hn : fs.length ≤ 9223372036854775807 := hr.1
  clear hr
  go_enter Tryz.func209, Tryz.ntmps209
  go_wp2
  go_loopw [5, 8] (fun _ i wr => ∃ k : Nat, k ≤ fs.length ∧ i = .int .i64 k ∧ (∀ j (hj : j < fs.length), j < k → fnMay fs[j] = true) ∧ Below w.heap.size w wr) (fun _ i _ => fs.length - (intOf i).toNat)
  case atStart => exact ⟨0, Nat.zero_le _, rfl, fun _ _ h => absurd h (Nat.not_lt_zero _), Below.refl _ _⟩
  case round =>
    obtain ⟨k, hk, rfl, hv, hB⟩ := hrel
    have HV := Lib.hid hv
    have HB := Lib.hid hB
    clear hv hB
    by_cases hlt : k < fs.length
    · obtain ⟨ad, rfl, c0, c1, Ac, cc, c2, rc⟩ := HR.out.at_ HB.out hlt
      have HN := Lib.hid (not_any fs[k] Ac cc wr rc)
      clear rc
      unfold fnV at HN
      cases hm : fnMay fs[k] with
      | true =>
        rw [hm] at HN
        go_wp2_with (go_at_call 197; refine HN.out.mono ?_; rintro e w2 ⟨rfl, hB2⟩)
        go_roundw
        case rel => exact ⟨k + 1, by omega, by go_num, upto_succ HV.out hlt hm, below_trans HB.out hB2⟩
        case measure => simp only [intOf]; omega
      | false =>
        rw [hm] at HN
        go_wp2_with (go_at_call 197; refine HN.out.mono ?_; rintro e w2 ⟨rfl, hB2⟩)
        go_ret
        exact ⟨k, rfl, by rw [all_not hlt hm]; simp, below_trans HB.out hB2⟩
    · go_wp2
      go_ret
      exact ⟨-1, rfl, by rw [all_upto (by omega) HV.out]; rfl, HB.out⟩
theorem containsN_any (A : Option Addr) (c : Nat) (fs : List Fn) (w : World) (hr : ReadsF w A fs) :
    Calls Tryz.prog 196 #[.slice A fs.length c, .func (.func 197) #[] #[]] w (Ret (.bool (!fs.all fnMay)) w) := by
  have HI := Lib.hid (indexN_any A c fs w hr)
  clear hr
  go_enter Tryz.func196, Tryz.ntmps196
  go_wp2_with fail
  refine HI.out.mono ?_
  rintro e w1 ⟨r, rfl, hr, hB⟩
  go_wp2
  go_ret
  exact ⟨ret_bool (by simp), hB⟩
/-- A program at its address: one cell, its functions' slice. -/
theorem packMay_any (P : Addr) (A : Option Addr) (c : Nat) (p : List Fn) (w : World) (hp : w.cell? P = some (.slice A p.length c)) (hr : ReadsF w A p) : Calls Tryz.prog 164 #[.pointer (some P)] w (Ret (.bool (packs p)) w) := by
  have HC := Lib.hid (containsN_any A c p w hr)
  have hn : p.length ≤ 9223372036854775807 := hr.1
  clear hr
  obtain ⟨m, hm⟩ : ∃ m, p.all fnMay = m := ⟨_, rfl⟩
  rw [hm] at HC
  go_enter Tryz.func164, Tryz.ntmps164
  go_wp2_with (go_at_call 196; refine HC.out.mono ?_; rintro e w1 ⟨rfl, hB⟩)
  all_goals go_ret
  all_goals (refine ⟨ret_bool ?_, by first | exact (by assumption) | exact Below.refl _ _⟩; unfold packs; first | (rw [hm]; done) | (simp_all; done) | (simp_all; omega) | (rw [Bool.eq_iff_iff]; simp [hm]; done) | (rw [Bool.eq_iff_iff]; simp [hm]; omega) | (simp [hm]; omega) | (cases m <;> first | (simp [hm]; done) | (simp [hm]; omega) | (rw [Bool.eq_iff_iff]; simp [hm]; omega)))
/-- A function at its address. -/
structure FnAt (w : World) (F : Addr) (f : Fn) (A : Option Addr) (c : Nat) : Prop where
  c0 : w.cell? F = some (.int .i64 f.args)
  c1 : w.cell? ⟨F.block, F.off + 1, none⟩ = some (.int .i64 f.locals)
  c2 : w.cell? ⟨F.block, F.off + 2, none⟩ = some (.slice A f.code.length c)
  r : ReadsC w A f.code
theorem FnAt.below {w w1 : World} {F : Addr} {f : Fn} {A : Option Addr} {c : Nat} (h : FnAt w F f A c) (hb : Below w.heap.size w w1) : FnAt w1 F f A c :=
  ⟨(hb.cell (World.block_lt_of_cell? w _ h.c0)).trans h.c0, (hb.cell (World.block_lt_of_cell? w _ h.c1)).trans h.c1, (hb.cell (World.block_lt_of_cell? w _ h.c2)).trans h.c2, h.r.below hb⟩
theorem flowMay_any (F : Addr) (f : Fn) (A : Option Addr) (c : Nat) (w : World) (h : FnAt w F f A c) : Calls Tryz.prog 213 #[.pointer (some F)] w (Ret (.bool (codeMay f.code)) w) := by
  have HC := Lib.hid (containsF_any A c f.code w h.r)
  have hn : f.code.length ≤ 9223372036854775807 := h.r.1
  have c2 := h.c2
  clear h
  obtain ⟨m, hm⟩ : ∃ m, f.code.all insMay = m := ⟨_, rfl⟩
  rw [hm] at HC
  go_enter Tryz.func213, Tryz.ntmps213
  go_wp2_with (go_at_call 212; refine HC.out.mono ?_; rintro e w1 ⟨rfl, hB⟩)
  all_goals go_ret
  all_goals (refine ⟨ret_bool ?_, by first | exact (by assumption) | exact Below.refl _ _⟩; unfold codeMay; first | (rw [hm]; done) | (simp_all; done) | (simp_all; omega) | (rw [Bool.eq_iff_iff]; simp [hm]; done) | (rw [Bool.eq_iff_iff]; simp [hm]; omega) | (simp [hm]; omega) | (cases m <;> first | (simp [hm]; done) | (simp [hm]; omega) | (rw [Bool.eq_iff_iff]; simp [hm]; omega)))
end Go.Proofs.YtjghibdlmmjobaaGreatDoor

/- Programs: how they lie in memory, which may be packed; the program's functions and the document's answer so. Conditions: the code, the functions lie in memory as they are said. -/
import Derived.Test.YtpfgklkdldkajaaDoorIns
namespace Go.Proofs.YtpfgklkdldkajaaDoor
open Go.RowKit

/-- Code, as it is read. -/
def ReadsC (w : World) (A : Option Addr) (xs : List Ins) : Prop :=
  xs.length ≤ 9223372036854775807 ∧ (0 < xs.length → ∃ ad : Addr, A = some ad ∧ ∀ k (h : k < xs.length), w.cell? (ad.add (k * 2)) = some (.int .i64 xs[k].kind) ∧ w.cell? ⟨(ad.add (k * 2)).block, (ad.add (k * 2)).off + 1, none⟩ = some (.int .i64 xs[k].a))
theorem ReadsC.at_ {w w1 : World} {A : Option Addr} {xs : List Ins} (h : ReadsC w A xs) (hb : Below w.heap.size w w1) {k : Nat} (hk : k < xs.length) : ∃ ad : Addr, A = some ad ∧ w1.cell? (ad.add (k * 2)) = some (.int .i64 xs[k].kind) ∧ w1.cell? ⟨(ad.add (k * 2)).block, (ad.add (k * 2)).off + 1, none⟩ = some (.int .i64 xs[k].a) := by
  obtain ⟨ad, e, hc⟩ := h.2 (by omega)
  obtain ⟨c0, c1⟩ := hc k hk
  exact ⟨ad, e, (hb.cell (World.block_lt_of_cell? w _ c0)).trans c0, (hb.cell (World.block_lt_of_cell? w _ c1)).trans c1⟩
theorem ReadsC.below {w w1 : World} {A : Option Addr} {xs : List Ins} (h : ReadsC w A xs) (hb : Below w.heap.size w w1) : ReadsC w1 A xs := ⟨h.1, fun h0 => by
  obtain ⟨ad, e, _⟩ := h.2 h0
  refine ⟨ad, e, fun k hk => ?_⟩
  obtain ⟨ad', e', c⟩ := h.at_ hb hk
  cases e.symm.trans e'
  exact c⟩
structure Fn where
  args : Int
  locals : Int
  code : List Ins
def fnMay (f : Fn) : Bool := decide (0 ≤ f.args) && decide (f.args ≤ 4) && decide (f.args ≤ f.locals) && decide (f.locals ≤ 8) && decide (1 ≤ f.code.length) && decide (f.code.length ≤ 64) && f.code.all insMay
def codeMay (xs : List Ins) : Bool := decide (1 ≤ xs.length) && decide (xs.length ≤ 64) && xs.all insMay
def packs (p : List Fn) : Bool := decide (1 ≤ p.length) && decide (p.length ≤ 8) && p.all fnMay
/-- A function's value. -/
def fnV (f : Fn) (A : Option Addr) (c : Nat) : Value := .agg #[.int .i64 f.args, .int .i64 f.locals, .slice A f.code.length c]
/-- Functions, as they are read. -/
def ReadsF (w : World) (A : Option Addr) (fs : List Fn) : Prop :=
  fs.length ≤ 9223372036854775807 ∧ (0 < fs.length → ∃ ad : Addr, A = some ad ∧ ∀ k (h : k < fs.length), w.cell? (ad.add (k * 3)) = some (.int .i64 fs[k].args) ∧ w.cell? ⟨(ad.add (k * 3)).block, (ad.add (k * 3)).off + 1, none⟩ = some (.int .i64 fs[k].locals) ∧
    ∃ Ac c, w.cell? ⟨(ad.add (k * 3)).block, (ad.add (k * 3)).off + 2, none⟩ = some (.slice Ac fs[k].code.length c) ∧ ReadsC w Ac fs[k].code)
theorem ReadsF.at_ {w w1 : World} {A : Option Addr} {fs : List Fn} (h : ReadsF w A fs) (hb : Below w.heap.size w w1) {k : Nat} (hk : k < fs.length) :
    ∃ ad : Addr, A = some ad ∧ w1.cell? (ad.add (k * 3)) = some (.int .i64 fs[k].args) ∧ w1.cell? ⟨(ad.add (k * 3)).block, (ad.add (k * 3)).off + 1, none⟩ = some (.int .i64 fs[k].locals) ∧
    ∃ Ac c, w1.cell? ⟨(ad.add (k * 3)).block, (ad.add (k * 3)).off + 2, none⟩ = some (.slice Ac fs[k].code.length c) ∧ ReadsC w1 Ac fs[k].code := by
  obtain ⟨ad, e, hc⟩ := h.2 (by omega)
  obtain ⟨c0, c1, Ac, c, c2, c3⟩ := hc k hk
  exact ⟨ad, e, (hb.cell (World.block_lt_of_cell? w _ c0)).trans c0, (hb.cell (World.block_lt_of_cell? w _ c1)).trans c1, Ac, c, (hb.cell (World.block_lt_of_cell? w _ c2)).trans c2, c3.below hb⟩
theorem ReadsF.below {w w1 : World} {A : Option Addr} {fs : List Fn} (h : ReadsF w A fs) (hb : Below w.heap.size w w1) : ReadsF w1 A fs := ⟨h.1, fun h0 => by
  obtain ⟨ad, e, _⟩ := h.2 h0
  refine ⟨ad, e, fun k hk => ?_⟩
  obtain ⟨ad', e', c⟩ := h.at_ hb hk
  cases e.symm.trans e'
  exact c⟩
theorem all_upto {α : Type} {p : α → Bool} {xs : List α} {k : Nat} (hk : xs.length ≤ k) (h : ∀ j (hj : j < xs.length), j < k → p xs[j] = true) : xs.all p = true := by
  rw [List.all_eq_true]
  intro x hx
  obtain ⟨j, hj, rfl⟩ := List.mem_iff_getElem.1 hx
  exact h j hj (by omega)
theorem all_not {α : Type} {p : α → Bool} {xs : List α} {k : Nat} (hk : k < xs.length) (h : p xs[k] = false) : xs.all p = false := by
  rw [List.all_eq_false]
  exact ⟨xs[k], List.getElem_mem hk, by simp [h]⟩
theorem upto_succ {α : Type} {p : α → Bool} {xs : List α} {k : Nat} (h : ∀ j (hj : j < xs.length), j < k → p xs[j] = true) (hk : k < xs.length) (he : p xs[k] = true) : ∀ j (hj : j < xs.length), j < k + 1 → p xs[j] = true := fun j hj h1 => by
  rcases Nat.lt_or_ge j k with h2 | h2
  · exact h j hj h2
  · obtain rfl : j = k := by omega
    exact he
/-- An index that tells whether all are so. -/
def IxAll (b : Bool) (w : World) (e : Ending) (w' : World) : Prop := ∃ r : Int, e = .returned (.int .i64 r) ∧ decide (0 ≤ r) = !b ∧ Below w.heap.size w w'

theorem badP_any (x : Ins) (w : World) : Calls Tryd.prog 93 #[x.v] w (Ret (.bool (!insMay x)) w) := by
  have B : Below w.heap.size w (w.alloc (.cells #[.int .i64 x.kind, .int .i64 x.a] 28)) := below_alloc (Below.refl _ _) _
  have HM := Lib.hid (may_any x (w.alloc (.cells #[.int .i64 x.kind, .int .i64 x.a] 28)))
  unfold Ins.v at HM ⊢
  go_enter Tryd.func93, Tryd.ntmps93
  go_wp2_with fail
  refine HM.out.mono ?_
  rintro e w1 ⟨rfl, hB⟩
  have B1 := Lib.hid (below_trans B hB)
  clear hB B
  go_wp2
  go_ret
  exact ⟨rfl, B1.out⟩
set_option maxHeartbeats 1000000 in
theorem indexP_any (A : Option Addr) (c : Nat) (xs : List Ins) (w : World) (hr : ReadsC w A xs) :
    Calls Tryd.prog 116 #[.slice A xs.length c, .func (.func 93) #[] #[]] w (IxAll (xs.all insMay) w) := by
  have HR := Lib.hid hr
  have hn : xs.length ≤ 9223372036854775807 := hr.1
  clear hr
  go_enter Tryd.func116, Tryd.ntmps116
  go_wp2
  go_loopw [5, 8] (fun _ i wr => ∃ k : Nat, k ≤ xs.length ∧ i = .int .i64 k ∧ (∀ j (hj : j < xs.length), j < k → insMay xs[j] = true) ∧ Below w.heap.size w wr) (fun _ i _ => xs.length - (intOf i).toNat)
  case atStart => exact ⟨0, Nat.zero_le _, rfl, fun _ _ h => absurd h (Nat.not_lt_zero _), Below.refl _ _⟩
  case round =>
    obtain ⟨k, hk, rfl, hv, hB⟩ := hrel
    have HV := Lib.hid hv
    have HB := Lib.hid hB
    clear hv hB
    by_cases hlt : k < xs.length
    · obtain ⟨ad, rfl, c0, c1⟩ := HR.out.at_ HB.out hlt
      have HN := Lib.hid (badP_any xs[k] wr)
      cases hm : insMay xs[k] with
      | true =>
        rw [hm] at HN
        unfold Ins.v at HN
        go_wp2_with (go_at_call 93; refine HN.out.mono ?_; rintro e w2 ⟨rfl, hB2⟩)
        go_roundw
        case rel => exact ⟨k + 1, by omega, by go_num, upto_succ HV.out hlt hm, below_trans HB.out hB2⟩
        case measure => simp only [intOf]; omega
      | false =>
        rw [hm] at HN
        unfold Ins.v at HN
        go_wp2_with (go_at_call 93; refine HN.out.mono ?_; rintro e w2 ⟨rfl, hB2⟩)
        go_ret
        exact ⟨k, rfl, by rw [all_not hlt hm]; simp, below_trans HB.out hB2⟩
    · go_wp2
      go_ret
      exact ⟨-1, rfl, by rw [all_upto (by omega) HV.out]; rfl, HB.out⟩
theorem containsP_any (A : Option Addr) (c : Nat) (xs : List Ins) (w : World) (hr : ReadsC w A xs) :
    Calls Tryd.prog 95 #[.slice A xs.length c, .func (.func 93) #[] #[]] w (Ret (.bool (!xs.all insMay)) w) := by
  have HI := Lib.hid (indexP_any A c xs w hr)
  clear hr
  go_enter Tryd.func95, Tryd.ntmps95
  go_wp2_with fail
  refine HI.out.mono ?_
  rintro e w1 ⟨r, rfl, hr, hB⟩
  go_wp2
  go_ret
  exact ⟨ret_bool (by simp), hB⟩

theorem badF_any (x : Ins) (w : World) : Calls Tryd.prog 96 #[x.v] w (Ret (.bool (!insMay x)) w) := by
  have B : Below w.heap.size w (w.alloc (.cells #[.int .i64 x.kind, .int .i64 x.a] 28)) := below_alloc (Below.refl _ _) _
  have HM := Lib.hid (may_any x (w.alloc (.cells #[.int .i64 x.kind, .int .i64 x.a] 28)))
  unfold Ins.v at HM ⊢
  go_enter Tryd.func96, Tryd.ntmps96
  go_wp2_with fail
  refine HM.out.mono ?_
  rintro e w1 ⟨rfl, hB⟩
  have B1 := Lib.hid (below_trans B hB)
  clear hB B
  go_wp2
  go_ret
  exact ⟨rfl, B1.out⟩
set_option maxHeartbeats 1000000 in
theorem indexF_any (A : Option Addr) (c : Nat) (xs : List Ins) (w : World) (hr : ReadsC w A xs) :
    Calls Tryd.prog 116 #[.slice A xs.length c, .func (.func 96) #[] #[]] w (IxAll (xs.all insMay) w) := by
  have HR := Lib.hid hr
  have hn : xs.length ≤ 9223372036854775807 := hr.1
  clear hr
  go_enter Tryd.func116, Tryd.ntmps116
  go_wp2
  go_loopw [5, 8] (fun _ i wr => ∃ k : Nat, k ≤ xs.length ∧ i = .int .i64 k ∧ (∀ j (hj : j < xs.length), j < k → insMay xs[j] = true) ∧ Below w.heap.size w wr) (fun _ i _ => xs.length - (intOf i).toNat)
  case atStart => exact ⟨0, Nat.zero_le _, rfl, fun _ _ h => absurd h (Nat.not_lt_zero _), Below.refl _ _⟩
  case round =>
    obtain ⟨k, hk, rfl, hv, hB⟩ := hrel
    have HV := Lib.hid hv
    have HB := Lib.hid hB
    clear hv hB
    by_cases hlt : k < xs.length
    · obtain ⟨ad, rfl, c0, c1⟩ := HR.out.at_ HB.out hlt
      have HN := Lib.hid (badF_any xs[k] wr)
      cases hm : insMay xs[k] with
      | true =>
        rw [hm] at HN
        unfold Ins.v at HN
        go_wp2_with (go_at_call 96; refine HN.out.mono ?_; rintro e w2 ⟨rfl, hB2⟩)
        go_roundw
        case rel => exact ⟨k + 1, by omega, by go_num, upto_succ HV.out hlt hm, below_trans HB.out hB2⟩
        case measure => simp only [intOf]; omega
      | false =>
        rw [hm] at HN
        unfold Ins.v at HN
        go_wp2_with (go_at_call 96; refine HN.out.mono ?_; rintro e w2 ⟨rfl, hB2⟩)
        go_ret
        exact ⟨k, rfl, by rw [all_not hlt hm]; simp, below_trans HB.out hB2⟩
    · go_wp2
      go_ret
      exact ⟨-1, rfl, by rw [all_upto (by omega) HV.out]; rfl, HB.out⟩
theorem containsF_any (A : Option Addr) (c : Nat) (xs : List Ins) (w : World) (hr : ReadsC w A xs) :
    Calls Tryd.prog 95 #[.slice A xs.length c, .func (.func 96) #[] #[]] w (Ret (.bool (!xs.all insMay)) w) := by
  have HI := Lib.hid (indexF_any A c xs w hr)
  clear hr
  go_enter Tryd.func95, Tryd.ntmps95
  go_wp2_with fail
  refine HI.out.mono ?_
  rintro e w1 ⟨r, rfl, hr, hB⟩
  go_wp2
  go_ret
  exact ⟨ret_bool (by simp), hB⟩

set_option maxRecDepth 100000 in
set_option maxHeartbeats 1000000 in
theorem not_any (f : Fn) (A : Option Addr) (c : Nat) (w : World) (hr : ReadsC w A f.code) : Calls Tryd.prog 63 #[fnV f A c] w (Ret (.bool (!fnMay f)) w) := by
  have B : Below w.heap.size w (w.alloc (.cells #[.int .i64 f.args, .int .i64 f.locals, .slice A f.code.length c] 31)) := below_alloc (Below.refl _ _) _
  have HC := Lib.hid (containsP_any A c f.code _ (hr.below B))
  obtain ⟨a, l, code⟩ := f
  have hn : code.length ≤ 9223372036854775807 := hr.1
  have HB := Lib.hid B
  clear hr B
  unfold fnV
  simp only [] at HC ⊢
  obtain ⟨m, hm⟩ : ∃ m, code.all insMay = m := ⟨_, rfl⟩
  rw [hm] at HC
  go_enter Tryd.func63, Tryd.ntmps63
  go_wp2_with (go_at_call 95; refine HC.out.mono ?_; rintro e w1 ⟨rfl, hB⟩)
  all_goals go_ret
  all_goals (refine ⟨ret_bool ?_, by first | exact below_trans HB.out (by assumption) | exact HB.out⟩; unfold fnMay; first | (rw [hm]; done) | (simp_all; done) | (simp_all; omega) | (rw [Bool.eq_iff_iff]; simp [hm]; done) | (rw [Bool.eq_iff_iff]; simp [hm]; omega) | (simp [hm]; omega) | (cases m <;> first | (simp [hm]; done) | (simp [hm]; omega) | (rw [Bool.eq_iff_iff]; simp [hm]; omega) | (rw [hm]; generalize code.length = L at *; rw [Bool.eq_iff_iff]; simp; omega)))
set_option maxHeartbeats 1000000 in
theorem indexN_any (A : Option Addr) (c : Nat) (fs : List Fn) (w : World) (hr : ReadsF w A fs) :
    Calls Tryd.prog 92 #[.slice A fs.length c, .func (.func 63) #[] #[]] w (IxAll (fs.all fnMay) w) := by
  have HR := Lib.hid hr
  have hn : fs.length ≤ 9223372036854775807 := hr.1
  clear hr
  go_enter Tryd.func92, Tryd.ntmps92
  go_wp2
  go_loopw [5, 8] (fun _ i wr => ∃ k : Nat, k ≤ fs.length ∧ i = .int .i64 k ∧ (∀ j (hj : j < fs.length), j < k → fnMay fs[j] = true) ∧ Below w.heap.size w wr) (fun _ i _ => fs.length - (intOf i).toNat)
  case atStart => exact ⟨0, Nat.zero_le _, rfl, fun _ _ h => absurd h (Nat.not_lt_zero _), Below.refl _ _⟩
  case round =>
    obtain ⟨k, hk, rfl, hv, hB⟩ := hrel
    have HV := Lib.hid hv
    have HB := Lib.hid hB
    clear hv hB
    by_cases hlt : k < fs.length
    · obtain ⟨ad, rfl, c0, c1, Ac, cc, c2, rc⟩ := HR.out.at_ HB.out hlt
      have HN := Lib.hid (not_any fs[k] Ac cc wr rc)
      clear rc
      unfold fnV at HN
      cases hm : fnMay fs[k] with
      | true =>
        rw [hm] at HN
        go_wp2_with (go_at_call 63; refine HN.out.mono ?_; rintro e w2 ⟨rfl, hB2⟩)
        go_roundw
        case rel => exact ⟨k + 1, by omega, by go_num, upto_succ HV.out hlt hm, below_trans HB.out hB2⟩
        case measure => simp only [intOf]; omega
      | false =>
        rw [hm] at HN
        go_wp2_with (go_at_call 63; refine HN.out.mono ?_; rintro e w2 ⟨rfl, hB2⟩)
        go_ret
        exact ⟨k, rfl, by rw [all_not hlt hm]; simp, below_trans HB.out hB2⟩
    · go_wp2
      go_ret
      exact ⟨-1, rfl, by rw [all_upto (by omega) HV.out]; rfl, HB.out⟩
theorem containsN_any (A : Option Addr) (c : Nat) (fs : List Fn) (w : World) (hr : ReadsF w A fs) :
    Calls Tryd.prog 62 #[.slice A fs.length c, .func (.func 63) #[] #[]] w (Ret (.bool (!fs.all fnMay)) w) := by
  have HI := Lib.hid (indexN_any A c fs w hr)
  clear hr
  go_enter Tryd.func62, Tryd.ntmps62
  go_wp2_with fail
  refine HI.out.mono ?_
  rintro e w1 ⟨r, rfl, hr, hB⟩
  go_wp2
  go_ret
  exact ⟨ret_bool (by simp), hB⟩
/-- A program at its address: one cell, its functions' slice. -/
theorem packMay_any (P : Addr) (A : Option Addr) (c : Nat) (p : List Fn) (w : World) (hp : w.cell? P = some (.slice A p.length c)) (hr : ReadsF w A p) : Calls Tryd.prog 37 #[.pointer (some P)] w (Ret (.bool (packs p)) w) := by
  have HC := Lib.hid (containsN_any A c p w hr)
  have hn : p.length ≤ 9223372036854775807 := hr.1
  clear hr
  obtain ⟨m, hm⟩ : ∃ m, p.all fnMay = m := ⟨_, rfl⟩
  rw [hm] at HC
  go_enter Tryd.func37, Tryd.ntmps37
  go_wp2_with (go_at_call 62; refine HC.out.mono ?_; rintro e w1 ⟨rfl, hB⟩)
  all_goals go_ret
  all_goals (refine ⟨ret_bool ?_, by first | exact (by assumption) | exact Below.refl _ _⟩; unfold packs; first | (rw [hm]; done) | (simp_all; done) | (simp_all; omega) | (rw [Bool.eq_iff_iff]; simp [hm]; done) | (rw [Bool.eq_iff_iff]; simp [hm]; omega) | (simp [hm]; omega) | (cases m <;> first | (simp [hm]; done) | (simp [hm]; omega) | (rw [Bool.eq_iff_iff]; simp [hm]; omega)))
/-- A function at its address. -/
structure FnAt (w : World) (F : Addr) (f : Fn) (A : Option Addr) (c : Nat) : Prop where
  c0 : w.cell? F = some (.int .i64 f.args)
  c1 : w.cell? ⟨F.block, F.off + 1, none⟩ = some (.int .i64 f.locals)
  c2 : w.cell? ⟨F.block, F.off + 2, none⟩ = some (.slice A f.code.length c)
  r : ReadsC w A f.code
theorem FnAt.below {w w1 : World} {F : Addr} {f : Fn} {A : Option Addr} {c : Nat} (h : FnAt w F f A c) (hb : Below w.heap.size w w1) : FnAt w1 F f A c :=
  ⟨(hb.cell (World.block_lt_of_cell? w _ h.c0)).trans h.c0, (hb.cell (World.block_lt_of_cell? w _ h.c1)).trans h.c1, (hb.cell (World.block_lt_of_cell? w _ h.c2)).trans h.c2, h.r.below hb⟩
theorem flowMay_any (F : Addr) (f : Fn) (A : Option Addr) (c : Nat) (w : World) (h : FnAt w F f A c) : Calls Tryd.prog 64 #[.pointer (some F)] w (Ret (.bool (codeMay f.code)) w) := by
  have HC := Lib.hid (containsF_any A c f.code w h.r)
  have hn : f.code.length ≤ 9223372036854775807 := h.r.1
  have c2 := h.c2
  clear h
  obtain ⟨m, hm⟩ : ∃ m, f.code.all insMay = m := ⟨_, rfl⟩
  rw [hm] at HC
  go_enter Tryd.func64, Tryd.ntmps64
  go_wp2_with (go_at_call 95; refine HC.out.mono ?_; rintro e w1 ⟨rfl, hB⟩)
  all_goals go_ret
  all_goals (refine ⟨ret_bool ?_, by first | exact (by assumption) | exact Below.refl _ _⟩; unfold codeMay; first | (rw [hm]; done) | (simp_all; done) | (simp_all; omega) | (rw [Bool.eq_iff_iff]; simp [hm]; done) | (rw [Bool.eq_iff_iff]; simp [hm]; omega) | (simp [hm]; omega) | (cases m <;> first | (simp [hm]; done) | (simp [hm]; omega) | (rw [Bool.eq_iff_iff]; simp [hm]; omega)))
end Go.Proofs.YtpfgklkdldkajaaDoor

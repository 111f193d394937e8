/- Frames and states: plain definitions, how they lie in memory. No condition. -/
import Derived.Test.YtpfgklkdldkajaaDoorCopy
namespace Go.Proofs.YtpfgklkdldkajaaDoor
open Go.RowKit

structure Frm where
  fn : Int
  pc : Int
  locals : List Int
  stack : List Int
structure Stt where
  frames : List Frm
  fuel : Int
  out : List Int
  done : Int
  value : Int
instance : DecidableEq Frm := fun x y => if h : x.fn = y.fn ∧ x.pc = y.pc ∧ x.locals = y.locals ∧ x.stack = y.stack then isTrue (by cases x; cases y; obtain ⟨h1, h2, h3, h4⟩ := h; simp only at h1 h2 h3 h4; rw [h1, h2, h3, h4]) else isFalse (fun e => h (by rw [e]; exact ⟨rfl, rfl, rfl, rfl⟩))
instance : DecidableEq Stt := fun x y => if h : x.frames = y.frames ∧ x.fuel = y.fuel ∧ x.out = y.out ∧ x.done = y.done ∧ x.value = y.value then isTrue (by cases x; cases y; obtain ⟨h1, h2, h3, h4, h5⟩ := h; simp only at h1 h2 h3 h4 h5; rw [h1, h2, h3, h4, h5]) else isFalse (fun e => h (by rw [e]; exact ⟨rfl, rfl, rfl, rfl, rfl⟩))
instance : Inhabited Frm := ⟨⟨0, 0, [], []⟩⟩

/-- How many stand on the stack at a pc; -1: it is not reached, or there is none. -/
def heightAt (p : List Fn) (fn pc : Int) : Int := if (heightsOf p fn).2.2 = 0 ∧ 0 ≤ pc then ((heightsOf p fn).1[pc.toNat]?).getD (-1) else -1
def localsAt (p : List Fn) (fn : Int) : Int := match p[fn.toNat]? with | some g => g.locals | none => 0
def frameB (p : List Fn) (f : Frm) (less : Int) : Bool :=
  decide (0 ≤ heightAt p f.fn f.pc) && decide ((f.locals.length : Int) = localsAt p f.fn) && decide ((f.stack.length : Int) = heightAt p f.fn f.pc - less) && f.locals.all isNum && f.stack.all isNum
def codeAt (p : List Fn) (fn pc : Int) : Option Ins := match p[fn.toNat]? with | some g => g.code[pc.toNat]? | none => none
/-- Is a pc right behind a reached call of a function? -/
def behindB (p : List Fn) (fn pc called : Int) : Bool := decide (0 ≤ heightAt p fn (pc - 1)) && decide (codeAt p fn (pc - 1) = some ⟨14, called⟩)
def lessB (p : List Fn) (f g : Frm) : Bool := frameB p f 1 && behindB p f.fn f.pc g.fn
def runsFrom (p : List Fn) : List Frm → Bool
  | [] => false
  | [f] => frameB p f 0
  | f :: g :: fs => lessB p f g && runsFrom p (g :: fs)
def runsB (p : List Fn) (fs : List Frm) : Bool := decide (1 ≤ fs.length) && decide (fs.length ≤ 12) && runsFrom p fs
def overB (s : Stt) : Bool := decide (s.frames.length = 0) && (if s.done = 1 then isNum s.value else decide (s.value = 0))
def stateB (p : List Fn) (s : Stt) : Bool :=
  decide (verifyOf p = 0) && decide (0 ≤ s.fuel) && decide (s.fuel ≤ 100000) && decide ((s.out.length : Int) ≤ 100000 - s.fuel) && s.out.all isNum &&
    (if s.done = 0 then decide (s.value = 0) && runsB p s.frames else decide (0 < s.done) && decide (s.done ≤ 4) && overB s)
def frameMayB (p : List Fn) (f : Frm) : Bool := decide (verifyOf p = 0) && frameB p f 0

theorem runs_iff (p : List Fn) : ∀ (fs : List Frm) (h : 0 < fs.length), runsFrom p fs = true ↔ (∀ i (hi : i + 1 < fs.length), lessB p fs[i] fs[i + 1] = true) ∧ frameB p fs[fs.length - 1] 0 = true
  | [], h => absurd h (by decide)
  | [f], _ => by simp [runsFrom]
  | f :: g :: fs, _ => by
    rw [runsFrom, Bool.and_eq_true, runs_iff p (g :: fs) (by simp)]
    constructor
    · rintro ⟨h1, h2, h3⟩
      refine ⟨fun i hi => ?_, by simpa using h3⟩
      cases i with
      | zero => exact h1
      | succ i => exact h2 i (by simpa using hi)
    · rintro ⟨h1, h2⟩
      exact ⟨h1 0 (by simp), fun i hi => h1 (i + 1) (by simpa using hi), by simpa using h2⟩

/-- A frame, as it is read; in blocks of S. -/
def FrmAt (w : World) (a : Addr) (f : Frm) : Prop :=
  w.cell? a = some (.int .i64 f.fn) ∧ w.cell? ⟨a.block, a.off + 1, none⟩ = some (.int .i64 f.pc) ∧
    (∃ A c, w.cell? ⟨a.block, a.off + 2, none⟩ = some (.slice A f.locals.length c) ∧ ReadsI w A f.locals) ∧ ∃ A c, w.cell? ⟨a.block, a.off + 3, none⟩ = some (.slice A f.stack.length c) ∧ ReadsI w A f.stack
theorem FrmAt.below {w w1 : World} {a : Addr} {f : Frm} (h : FrmAt w a f) (hb : Below w.heap.size w w1) : FrmAt w1 a f := by
  obtain ⟨c0, c1, ⟨A, c, c2, r2⟩, B, d, c3, r3⟩ := h
  exact ⟨(hb.cell (World.block_lt_of_cell? w _ c0)).trans c0, (hb.cell (World.block_lt_of_cell? w _ c1)).trans c1, ⟨A, c, (hb.cell (World.block_lt_of_cell? w _ c2)).trans c2, r2.below hb⟩, B, d, (hb.cell (World.block_lt_of_cell? w _ c3)).trans c3, r3.below hb⟩
def frV (f : Frm) (l s : Value) : Value := .agg #[.int .i64 f.fn, .int .i64 f.pc, l, s]
/-- Frames, as they are read. -/
def ReadsFr (w : World) (A : Option Addr) (fs : List Frm) : Prop :=
  fs.length ≤ 9223372036854775807 ∧ (0 < fs.length → ∃ ad : Addr, A = some ad ∧ ∀ k (h : k < fs.length), FrmAt w (ad.add (k * 4)) fs[k])
theorem ReadsFr.at_ {w w1 : World} {A : Option Addr} {fs : List Frm} (h : ReadsFr w A fs) (hb : Below w.heap.size w w1) {k : Nat} (hk : k < fs.length) : ∃ ad : Addr, A = some ad ∧ FrmAt w1 (ad.add (k * 4)) fs[k] := by
  obtain ⟨ad, e, hc⟩ := h.2 (by omega)
  exact ⟨ad, e, (hc k hk).below hb⟩
theorem ReadsFr.below {w w1 : World} {A : Option Addr} {fs : List Frm} (h : ReadsFr w A fs) (hb : Below w.heap.size w w1) : ReadsFr w1 A fs := ⟨h.1, fun h0 => by
  obtain ⟨ad, e, hc⟩ := h.2 h0
  exact ⟨ad, e, fun k hk => (hc k hk).below hb⟩⟩
/-- A value that is a state. -/
def sttV (s : Stt) (fs out : Value) : Value := .agg #[fs, .int .i64 s.fuel, out, .int .i64 s.done, .int .i64 s.value]

theorem all_len {α : Type} {p : α → Bool} {xs : List α} {k : Nat} (hk : xs.length ≤ k) (h : ∀ j (hj : j < xs.length), j < k → p xs[j] = true) : xs.all p = true := all_upto hk h

set_option maxHeartbeats 1000000 in
theorem wrapAll_any (A : Option Addr) (c : Nat) (xs : List Int) (w : World) (hr : ReadsI w A xs) :
    Calls Tryd.prog 47 #[.slice A xs.length c] w fun e w' => e = .returned (.bool (xs.all isNum)) ∧ w' = w := by
  have HR := Lib.hid hr
  have hn : xs.length ≤ 9223372036854775807 := hr.1
  clear hr
  go_enter Tryd.func47, Tryd.ntmps47
  go_wp2_with fail
  go_loop [7] (fun i => ∃ k : Nat, k ≤ xs.length ∧ i = .int .i64 k ∧ (∀ j (hj : j < xs.length), j < k → isNum xs[j] = true)) (fun i => xs.length - (intOf i).toNat)
  case atStart => exact ⟨0, Nat.zero_le _, rfl, fun _ _ h => absurd h (Nat.not_lt_zero _)⟩
  case round =>
    obtain ⟨k, hk, rfl, hv⟩ := hrel
    have HV := Lib.hid hv
    clear hv
    by_cases hlt : k < xs.length
    · obtain ⟨ad, rfl, hc⟩ := HR.out.at_ hlt
      cases hm : isNum xs[k] with
      | true =>
        have HM := Lib.hid hm
        have HI := Lib.hid (is_any xs[k])
        rw [hm] at HI
        clear hm
        go_wp2_with (go_at_call 75; refine (HI.out _).mono ?_; rintro e w' ⟨rfl, rfl⟩)
        go_round
        case rel => exact ⟨k + 1, by omega, by go_num, upto_succ HV.out hlt HM.out⟩
        case measure => simp only [intOf]; omega
      | false =>
        have HM := Lib.hid hm
        have HI := Lib.hid (is_any xs[k])
        rw [hm] at HI
        clear hm
        go_wp2_with (go_at_call 75; refine (HI.out _).mono ?_; rintro e w' ⟨rfl, rfl⟩)
        go_ret
        exact ⟨ret_bool (all_not hlt HM.out).symm, rfl⟩
    · go_wp2_with fail
      go_ret
      exact ⟨ret_bool (all_upto (by omega) HV.out).symm, rfl⟩
end Go.Proofs.YtpfgklkdldkajaaDoor

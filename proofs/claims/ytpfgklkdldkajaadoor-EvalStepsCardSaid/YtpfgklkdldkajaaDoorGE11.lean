/- Frames and states: plain definitions, how they lie in memory. No condition. 'frame.open', '(*book).may', 'frame.After': which frames may be. Conditions: the program, the frame lie in memory as they are said; errors.errorType is laid. A step of a state, plainly. No program in sight. -/
import Derived.Test.YtpfgklkdldkajaaDoorGE09
import Derived.Test.YtpfgklkdldkajaaDoorGE10
namespace Go.Proofs.YtpfgklkdldkajaaDoor
open Go.RowKit

structure Frm where
  fn : Int
  pc : Int
  locals : List Int
  stack : List Int
structure Stt where
  frames : List Frm
  fuel : Int
  out : List Int
  done : Int
  value : Int
instance : DecidableEq Frm := fun x y => if h : x.fn = y.fn ∧ x.pc = y.pc ∧ x.locals = y.locals ∧ x.stack = y.stack then isTrue (by cases x; cases y; obtain ⟨h1, h2, h3, h4⟩ := h; simp only at h1 h2 h3 h4; rw [h1, h2, h3, h4]) else isFalse (fun e => h (by rw [e]; exact ⟨rfl, rfl, rfl, rfl⟩))
instance : DecidableEq Stt := fun x y => if h : x.frames = y.frames ∧ x.fuel = y.fuel ∧ x.out = y.out ∧ x.done = y.done ∧ x.value = y.value then isTrue (by cases x; cases y; obtain ⟨h1, h2, h3, h4, h5⟩ := h; simp only at h1 h2 h3 h4 h5; rw [h1, h2, h3, h4, h5]) else isFalse (fun e => h (by rw [e]; exact ⟨rfl, rfl, rfl, rfl, rfl⟩))
instance : Inhabited Frm := ⟨⟨0, 0, [], []⟩⟩

/-- How many stand on the stack at a pc; -1: it is not reached, or there is none. -/
def heightAt (p : List Fn) (fn pc : Int) : Int := if (heightsOf p fn).2.2 = 0 ∧ 0 ≤ pc then ((heightsOf p fn).1[pc.toNat]?).getD (-1) else -1
def localsAt (p : List Fn) (fn : Int) : Int := match p[fn.toNat]? with | some g => g.locals | none => 0
def frameB (p : List Fn) (f : Frm) (less : Int) : Bool :=
  decide (0 ≤ heightAt p f.fn f.pc) && decide ((f.locals.length : Int) = localsAt p f.fn) && decide ((f.stack.length : Int) = heightAt p f.fn f.pc - less) && f.locals.all isNum && f.stack.all isNum
def codeAt (p : List Fn) (fn pc : Int) : Option Ins := match p[fn.toNat]? with | some g => g.code[pc.toNat]? | none => none
/-- Is a pc right behind a reached call of a function? -/
def behindB (p : List Fn) (fn pc called : Int) : Bool := decide (0 ≤ heightAt p fn (pc - 1)) && decide (codeAt p fn (pc - 1) = some ⟨14, called⟩)
def lessB (p : List Fn) (f g : Frm) : Bool := frameB p f 1 && behindB p f.fn f.pc g.fn
def runsFrom (p : List Fn) : List Frm → Bool
  | [] => false
  | [f] => frameB p f 0
  | f :: g :: fs => lessB p f g && runsFrom p (g :: fs)
def runsB (p : List Fn) (fs : List Frm) : Bool := decide (1 ≤ fs.length) && decide (fs.length ≤ 12) && runsFrom p fs
def overB (s : Stt) : Bool := decide (s.frames.length = 0) && (if s.done = 1 then isNum s.value else decide (s.value = 0))
def stateB (p : List Fn) (s : Stt) : Bool :=
  decide (verifyOf p = 0) && decide (0 ≤ s.fuel) && decide (s.fuel ≤ 100000) && decide ((s.out.length : Int) ≤ 100000 - s.fuel) && s.out.all isNum &&
    (if s.done = 0 then decide (s.value = 0) && runsB p s.frames else decide (0 < s.done) && decide (s.done ≤ 4) && overB s)
def frameMayB (p : List Fn) (f : Frm) : Bool := decide (verifyOf p = 0) && frameB p f 0

theorem runs_iff (p : List Fn) : ∀ (fs : List Frm) (h : 0 < fs.length), runsFrom p fs = true ↔ (∀ i (hi : i + 1 < fs.length), lessB p fs[i] fs[i + 1] = true) ∧ frameB p fs[fs.length - 1] 0 = true
  | [], h => absurd h (by decide)
  | [f], _ => by simp [runsFrom]
  | f :: g :: fs, _ => by
    rw [runsFrom, Bool.and_eq_true, runs_iff p (g :: fs) (by simp)]
    constructor
    · rintro ⟨h1, h2, h3⟩
      refine ⟨fun i hi => ?_, by simpa using h3⟩
      cases i with
      | zero => exact h1
      | succ i => exact h2 i (by simpa using hi)
    · rintro ⟨h1, h2⟩
      exact ⟨h1 0 (by simp), fun i hi => h1 (i + 1) (by simpa using hi), by simpa using h2⟩

/-- A frame, as it is read; in blocks of S. -/
def FrmAt (w : World) (a : Addr) (f : Frm) : Prop :=
  w.cell? a = some (.int .i64 f.fn) ∧ w.cell? ⟨a.block, a.off + 1, none⟩ = some (.int .i64 f.pc) ∧
    (∃ A c, w.cell? ⟨a.block, a.off + 2, none⟩ = some (.slice A f.locals.length c) ∧ ReadsI w A f.locals) ∧ ∃ A c, w.cell? ⟨a.block, a.off + 3, none⟩ = some (.slice A f.stack.length c) ∧ ReadsI w A f.stack
theorem FrmAt.below {w w1 : World} {a : Addr} {f : Frm} (h : FrmAt w a f) (hb : Below w.heap.size w w1) : FrmAt w1 a f := by
  obtain ⟨c0, c1, ⟨A, c, c2, r2⟩, B, d, c3, r3⟩ := h
  exact ⟨(hb.cell (World.block_lt_of_cell? w _ c0)).trans c0, (hb.cell (World.block_lt_of_cell? w _ c1)).trans c1, ⟨A, c, (hb.cell (World.block_lt_of_cell? w _ c2)).trans c2, r2.below hb⟩, B, d, (hb.cell (World.block_lt_of_cell? w _ c3)).trans c3, r3.below hb⟩
def frV (f : Frm) (l s : Value) : Value := .agg #[.int .i64 f.fn, .int .i64 f.pc, l, s]
/-- Frames, as they are read. -/
def ReadsFr (w : World) (A : Option Addr) (fs : List Frm) : Prop :=
  fs.length ≤ 9223372036854775807 ∧ (0 < fs.length → ∃ ad : Addr, A = some ad ∧ ∀ k (h : k < fs.length), FrmAt w (ad.add (k * 4)) fs[k])
theorem ReadsFr.at_ {w w1 : World} {A : Option Addr} {fs : List Frm} (h : ReadsFr w A fs) (hb : Below w.heap.size w w1) {k : Nat} (hk : k < fs.length) : ∃ ad : Addr, A = some ad ∧ FrmAt w1 (ad.add (k * 4)) fs[k] := by
  obtain ⟨ad, e, hc⟩ := h.2 (by omega)
  exact ⟨ad, e, (hc k hk).below hb⟩
theorem ReadsFr.below {w w1 : World} {A : Option Addr} {fs : List Frm} (h : ReadsFr w A fs) (hb : Below w.heap.size w w1) : ReadsFr w1 A fs := ⟨h.1, fun h0 => by
  obtain ⟨ad, e, hc⟩ := h.2 h0
  exact ⟨ad, e, fun k hk => (hc k hk).below hb⟩⟩
/-- A value that is a state. -/
def sttV (s : Stt) (fs out : Value) : Value := .agg #[fs, .int .i64 s.fuel, out, .int .i64 s.done, .int .i64 s.value]

theorem all_len {α : Type} {p : α → Bool} {xs : List α} {k : Nat} (hk : xs.length ≤ k) (h : ∀ j (hj : j < xs.length), j < k → p xs[j] = true) : xs.all p = true := all_upto hk h

set_option maxHeartbeats 1000000 in
theorem wrapAll_any (A : Option Addr) (c : Nat) (xs : List Int) (w : World) (hr : ReadsI w A xs) :
    Calls Tryd.prog 47 #[.slice A xs.length c] w fun e w' => e = .returned (.bool (xs.all isNum)) ∧ w' = w := by
  have HR := Lib.hid hr
  have hn : xs.length ≤ 9223372036854775807 := hr.1
  clear hr
  go_enter Tryd.func47, Tryd.ntmps47
  go_wp2_with fail
  go_loop [7] (fun i => ∃ k : Nat, k ≤ xs.length ∧ i = .int .i64 k ∧ (∀ j (hj : j < xs.length), j < k → isNum xs[j] = true)) (fun i => xs.length - (intOf i).toNat)
  case atStart => exact ⟨0, Nat.zero_le _, rfl, fun _ _ h => absurd h (Nat.not_lt_zero _)⟩
  case round =>
    obtain ⟨k, hk, rfl, hv⟩ := hrel
    have HV := Lib.hid hv
    clear hv
    by_cases hlt : k < xs.length
    · obtain ⟨ad, rfl, hc⟩ := HR.out.at_ hlt
      cases hm : isNum xs[k] with
      | true =>
        have HM := Lib.hid hm
        have HI := Lib.hid (is_any xs[k])
        rw [hm] at HI
        clear hm
        go_wp2_with (go_at_call 75; refine (HI.out _).mono ?_; rintro e w' ⟨rfl, rfl⟩)
        go_round
        case rel => exact ⟨k + 1, by omega, by go_num, upto_succ HV.out hlt HM.out⟩
        case measure => simp only [intOf]; omega
      | false =>
        have HM := Lib.hid hm
        have HI := Lib.hid (is_any xs[k])
        rw [hm] at HI
        clear hm
        go_wp2_with (go_at_call 75; refine (HI.out _).mono ?_; rintro e w' ⟨rfl, rfl⟩)
        go_ret
        exact ⟨ret_bool (all_not hlt HM.out).symm, rfl⟩
    · go_wp2_with fail
      go_ret
      exact ⟨ret_bool (all_upto (by omega) HV.out).symm, rfl⟩
end Go.Proofs.YtpfgklkdldkajaaDoor

namespace Go.Proofs.YtpfgklkdldkajaaDoor
open Go.RowKit

/-- Rows of ints, as they are read. -/
def ReadsII (w : World) (A : Option Addr) (hs : List (List Int)) : Prop :=
  hs.length ≤ 9223372036854775807 ∧ (0 < hs.length → ∃ ad : Addr, A = some ad ∧ ∀ k (h : k < hs.length), ∃ B c, w.cell? (ad.add k) = some (.slice B hs[k].length c) ∧ ReadsI w B hs[k])
theorem ReadsII.below {w w1 : World} {A : Option Addr} {hs : List (List Int)} (h : ReadsII w A hs) (hb : Below w.heap.size w w1) : ReadsII w1 A hs := ⟨h.1, fun h0 => by
  obtain ⟨ad, e, hc⟩ := h.2 h0
  refine ⟨ad, e, fun k hk => ?_⟩
  obtain ⟨B, c, c0, r⟩ := hc k hk
  exact ⟨B, c, (hb.cell (World.block_lt_of_cell? w _ c0)).trans c0, r.below hb⟩⟩
theorem ReadsII.at_ {w : World} {A : Option Addr} {hs : List (List Int)} (h : ReadsII w A hs) {k : Nat} (hk : k < hs.length) : ∃ ad : Addr, A = some ad ∧ ∃ B c, w.cell? (ad.add k) = some (.slice B hs[k].length c) ∧ ReadsI w B hs[k] := by
  obtain ⟨ad, e, hc⟩ := h.2 (by omega)
  exact ⟨ad, e, hc k hk⟩
theorem Book.reads {w : World} {base : Nat} {v : Value} {hs : List (List Int)} (h : Book w base v hs) : ∃ A c, v = .slice A hs.length c ∧ ReadsII w A hs := by
  obtain ⟨vs, h1, h2⟩ := h
  obtain ⟨A, c, rfl, hn, hm⟩ := h1.shape
  have hl := h1.len
  rw [Nat.mul_one] at hl
  refine ⟨A, c, rfl, by unfold maxLen at hm; omega, fun h0 => ?_⟩
  obtain ⟨g, off, rfl, _, _, hc⟩ := h1.cell (k := 0) (by omega)
  refine ⟨_, rfl, fun k hk => ?_⟩
  obtain ⟨hr, _⟩ := h2 k hk (by omega)
  obtain ⟨B, d, e, _, _⟩ := hr.shape
  rw [e] at hr
  exact ⟨B, d, by rw [Addr.add_lit, (hc k (by omega)).1, e], hr.ints.2⟩
/-- A verified program's book. -/
structure BookAt (w : World) (B P : Addr) (p : List Fn) (Ap : Option Addr) (cp : Nat) (H : Option Addr) (ch : Nat) : Prop where
  b0 : w.cell? B = some (.pointer (some P))
  b1 : w.cell? ⟨B.block, B.off + 1, none⟩ = some (.slice H p.length ch)
  hp : w.cell? P = some (.slice Ap p.length cp)
  rp : ReadsF w Ap p
  rh : ReadsII w H (bookOf p)
theorem BookAt.below {w w1 : World} {B P : Addr} {p : List Fn} {Ap H : Option Addr} {cp ch : Nat} (h : BookAt w B P p Ap cp H ch) (hb : Below w.heap.size w w1) : BookAt w1 B P p Ap cp H ch :=
  ⟨(hb.cell (World.block_lt_of_cell? w _ h.b0)).trans h.b0, (hb.cell (World.block_lt_of_cell? w _ h.b1)).trans h.b1, (hb.cell (World.block_lt_of_cell? w _ h.hp)).trans h.hp, h.rp.below hb, h.rh.below hb⟩
/-- What 'open' answers. -/
def OpenE (p : List Fn) (P : Addr) (Ap : Option Addr) (cp : Nat) (w : World) (e : Ending) (w' : World) : Prop :=
  ∃ B, e = .returned (.tuple #[.pointer (some B), .bool (verifyOf p == 0)]) ∧ Below w.heap.size w w' ∧ (verifyOf p = 0 → ∃ H ch, BookAt w' B P p Ap cp H ch)
theorem cell_below {w w1 : World} {a : Addr} {v : Value} (hb : Below w.heap.size w w1) (h : w.cell? a = some v) : w1.cell? a = some v := (hb.cell (World.block_lt_of_cell? w _ h)).trans h
set_option maxHeartbeats 1000000 in
theorem open_any (P : Addr) (p : List Fn) (Ap : Option Addr) (cp : Nat) (w : World) (hl : Laid w) (hP : w.cell? P = some (.slice Ap p.length cp)) (hr : ReadsF w Ap p) :
    Calls Tryd.prog 85 #[.pointer (some P)] w (OpenE p P Ap cp w) := by
  have HA := Lib.hid (all_any P p Ap cp w hl hP hr)
  have HP := Lib.hid hP
  have HR := Lib.hid hr
  obtain ⟨vf, hvf⟩ : ∃ vf, verifyOf p = vf := ⟨_, rfl⟩
  unfold AllE at HA
  unfold OpenE
  rw [hvf] at HA ⊢
  clear hl hP hr hvf
  go_enter Tryd.func85, Tryd.ntmps85
  go_wp2_with fail
  refine HA.out.mono ?_
  rintro e w1 ⟨v, rfl, hB, hbk, hnil⟩
  have hv : ∃ A n c, v = .slice A n c := by
    by_cases h0 : vf = 0
    · obtain ⟨A, c, e, _⟩ := (hbk h0).reads
      exact ⟨A, _, c, e⟩
    · exact ⟨none, 0, 0, hnil h0⟩
  obtain ⟨A, n, c, rfl⟩ := hv
  have HB := Lib.hid hB
  have HBK := Lib.hid hbk
  clear hB hbk hnil
  go_wp2_with fail
  go_ret2
  have b2 := below_alloc (Below.refl w1.heap.size w1) (.cells #[.pointer (some P), .slice A n c] 184)
  refine ⟨_, rfl, below_trans HB.out b2, fun hv => ?_⟩
  obtain ⟨A', c', eh, hrd⟩ := (HBK.out hv).reads
  injection eh with e1 e2 e3
  subst e1 e2 e3
  have e0 : (bookOf p).length = p.length := by simp [bookOf]
  have k0 := (blk_cell (blk_new w1 (.cells #[.pointer (some P), .slice A (bookOf p).length c] 184)) 0)
  have k1 := (blk_cell (blk_new w1 (.cells #[.pointer (some P), .slice A (bookOf p).length c] 184)) 1)
  exact ⟨A, c, ⟨k0.trans rfl, k1.trans (by rw [e0]; rfl), cell_below (below_trans HB.out b2) HP.out, HR.out.below (below_trans HB.out b2), hrd.below b2⟩⟩

theorem heightAt_no {p : List Fn} {fn pc : Int} (h : ¬ (0 ≤ fn ∧ fn < p.length)) : heightAt p fn pc = -1 := by
  unfold heightAt
  rw [heightsOf_no (fun h1 => h h1.2)]
  rfl
theorem heightAt_yes {p : List Fn} {k : Nat} {pc : Int} (hv : verifyOf p = 0) (hk : k < p.length) (h0 : 0 ≤ pc) : heightAt p k pc = ((heightsF p p[k]).1[pc.toNat]?).getD (-1) := by
  unfold heightAt
  rw [heightsOf_yes (verifyOf_packs hv) hk, if_pos ⟨verifyOf_fn hv hk, h0⟩]
theorem heightAt_neg {p : List Fn} {fn pc : Int} (h0 : pc < 0) : heightAt p fn pc = -1 := by
  unfold heightAt; rw [if_neg (by omega)]
theorem heightAt_far {p : List Fn} {k : Nat} {pc : Int} (hv : verifyOf p = 0) (hk : k < p.length) (h0 : (p[k].code.length : Int) ≤ pc) : heightAt p k pc = -1 := by
  rw [heightAt_yes hv hk (by omega), List.getElem?_eq_none (by rw [(heights_len (verifyOf_fn hv hk)).1]; omega)]
  rfl
theorem heightAt_in {p : List Fn} (hv : verifyOf p = 0) {k m : Nat} (hk : k < p.length) (hm : m < p[k].code.length) : ∃ hb : m < (heightsF p p[k]).1.length, heightAt p k m = (heightsF p p[k]).1[m] ∧ ((heightsF p p[k]).1[m] = -1 ∨ (0 ≤ (heightsF p p[k]).1[m] ∧ (heightsF p p[k]).1[m] ≤ 12)) := by
  have hl := (heights_len (verifyOf_fn hv hk)).1
  have hb : m < (heightsF p p[k]).1.length := by omega
  refine ⟨hb, by rw [heightAt_yes hv hk (by omega), Int.toNat_natCast, List.getElem?_eq_getElem hb]; rfl, ?_⟩
  by_cases h : (heightsF p p[k]).1[m] = -1
  · exact .inl h
  · have hg := heights_good (fnMay_of (packs_fn (verifyOf_packs hv) hk)).2.2.2.2 (verifyOf_fn hv hk)
    refine .inr ⟨(hg.sound m _ (List.getElem?_eq_getElem hb) h).2, ?_⟩
    obtain ⟨hq, g1, g2, _⟩ := (hg.good m _ (List.getElem?_eq_getElem hb) h).resolve_left (by simp)
    obtain ⟨a0, a4⟩ := argsOf_in (verifyOf_packs hv) p[k].code[m]
    have := takes_in p[k].code[m].kind _ a0 a4
    have := puts_in p[k].code[m].kind
    unfold behindH at g2
    omega
theorem bookOf_at {p : List Fn} {k : Nat} (hk : k < p.length) (h : k < (bookOf p).length) : (bookOf p)[k] = (heightsF p p[k]).1 := by simp [bookOf]
theorem frameB_no {p : List Fn} {f : Frm} {less : Int} (h : heightAt p f.fn f.pc = -1) : frameB p f less = false := by unfold frameB; rw [h]; rfl
theorem retD_of {b : Bool} {v : Value} {w w' : World} (e : v = .bool b) (h : ∃ n, w' = w.drewN n) : RetD (.bool b) w (.returned v) w' := ⟨by rw [e], h⟩
end Go.Proofs.YtpfgklkdldkajaaDoor

namespace Go.Proofs.YtpfgklkdldkajaaDoor

/-- The number of 32 bits. -/
def wrapN (x : Int) : Int := (x + 2147483648) % 4294967296 - 2147483648
theorem wrapN_num (x : Int) : isNum (wrapN x) = true := by rw [num_yes]; unfold wrapN; omega
theorem wrapN_id {x : Int} (h : isNum x = true) : wrapN x = x := by rw [num_yes] at h; unfold wrapN; omega
/-- An operation of two numbers; is it a trap? -/
def doN (k a b : Int) : Int × Bool :=
  if (k = 6 ∨ k = 7) ∧ b = 0 then (0, true) else
  (wrapN (if k = 3 then a + b else if k = 4 then a - b else if k = 5 then a * b else if k = 6 then a.tdiv b else if k = 7 then a.tmod b else if k = 8 then (if a = b then 1 else 0) else (if a < b then 1 else 0)), false)
/-- What an instruction comes to. -/
inductive Res
  | next
  | print (v : Int)
  | call (fn : Int) (args : List Int)
  | ret (v : Int)
  | over (done : Int)
def lastN (l : List Int) : Int := l.getLastD 0
/-- An instruction of a frame, with so many frames; its pc has gone on. -/
def oneI (p : List Fn) (f : Frm) (x : Ins) (depth : Nat) : Frm × Res :=
  if x.kind = 0 then (⟨f.fn, f.pc + 1, f.locals, f.stack ++ [x.a]⟩, .next)
  else if x.kind = 1 then (⟨f.fn, f.pc + 1, f.locals, f.stack ++ [f.locals.getD x.a.toNat 0]⟩, .next)
  else if x.kind = 2 then (⟨f.fn, f.pc + 1, f.locals.set x.a.toNat (lastN f.stack), f.stack.dropLast⟩, .next)
  else if x.kind = 10 then (⟨f.fn, f.pc + 1, f.locals, f.stack ++ [lastN f.stack]⟩, .next)
  else if x.kind = 11 then (⟨f.fn, f.pc + 1, f.locals, f.stack.dropLast⟩, .next)
  else if x.kind = 12 then (⟨f.fn, x.a, f.locals, f.stack⟩, .next)
  else if x.kind = 13 then (⟨f.fn, if lastN f.stack = 0 then x.a else f.pc + 1, f.locals, f.stack.dropLast⟩, .next)
  else if x.kind = 14 then
    if 12 ≤ depth then (⟨f.fn, f.pc + 1, f.locals, f.stack⟩, .over 3)
    else (⟨f.fn, f.pc + 1, f.locals, f.stack.take (f.stack.length - (argsOf p x).toNat)⟩, .call x.a (f.stack.drop (f.stack.length - (argsOf p x).toNat)))
  else if x.kind = 15 then (⟨f.fn, f.pc + 1, f.locals, f.stack.dropLast⟩, .print (lastN f.stack))
  else if x.kind = 16 then (⟨f.fn, f.pc + 1, f.locals, f.stack.dropLast⟩, .ret (lastN f.stack))
  else
    let d := doN x.kind (lastN f.stack.dropLast) (lastN f.stack)
    if d.2 = true then (⟨f.fn, f.pc + 1, f.locals, f.stack.dropLast.dropLast⟩, .over 2) else (⟨f.fn, f.pc + 1, f.locals, f.stack.dropLast.dropLast ++ [d.1]⟩, .next)
def insAt (p : List Fn) (f : Frm) : Ins := (codeAt p f.fn f.pc).getD ⟨0, 0⟩
def beginF (p : List Fn) (fn : Int) (args : List Int) : Frm := ⟨fn, 0, args ++ List.replicate ((localsAt p fn).toNat - args.length) 0, []⟩
def topF (s : Stt) : Frm := s.frames.getLastD default
/-- A step of a state that goes on. -/
def onceS (p : List Fn) (s : Stt) : Stt :=
  if s.fuel = 0 then ⟨[], 0, s.out, 4, 0⟩ else
  let r := oneI p (topF s) (insAt p (topF s)) s.frames.length
  match r.2 with
  | .next => ⟨s.frames.dropLast ++ [r.1], s.fuel - 1, s.out, 0, 0⟩
  | .print v => ⟨s.frames.dropLast ++ [r.1], s.fuel - 1, s.out ++ [v], 0, 0⟩
  | .call fn args => ⟨s.frames.dropLast ++ [r.1, beginF p fn args], s.fuel - 1, s.out, 0, 0⟩
  | .ret v => if s.frames.length ≤ 1 then ⟨[], s.fuel - 1, s.out, 1, v⟩ else
    let g := s.frames.dropLast.getLastD default
    ⟨s.frames.dropLast.dropLast ++ [⟨g.fn, g.pc, g.locals, g.stack ++ [v]⟩], s.fuel - 1, s.out, 0, 0⟩
  | .over d => ⟨[], s.fuel - 1, s.out, d, 0⟩
def stepN (p : List Fn) (s : Stt) : Stt := if s.done = 0 then onceS p s else s
def stepS (p : List Fn) (s : Stt) : Stt := if stateB p s = true then stepN p s else ⟨[], 0, [], 0, 0⟩
def stepC (p : List Fn) (s : Stt) : Int := if stateB p s = true then 0 else 700

/-- Where a frame of a program that is verified stands. -/
structure At (p : List Fn) (f : Frm) (h : Int) (fn pc : Nat) : Prop where
  efn : f.fn = fn
  epc : f.pc = pc
  hfn : fn < p.length
  hpc : pc < p[fn].code.length
  reach : Reach p[fn].code pc
  height : (heightsF p p[fn]).1[pc]? = some h
  h0 : 0 ≤ h
theorem At.of {p : List Fn} (hv : verifyOf p = 0) {f : Frm} (h : 0 ≤ heightAt p f.fn f.pc) : ∃ fn pc : Nat, At p f (heightAt p f.fn f.pc) fn pc := by
  have hp := verifyOf_packs hv
  have h1 : 0 ≤ f.pc := by
    by_cases hc : f.pc < 0
    · rw [heightAt_neg hc] at h; omega
    · omega
  have h2 : 0 ≤ f.fn ∧ f.fn < p.length := by
    by_cases hc : 0 ≤ f.fn ∧ f.fn < p.length
    · exact hc
    · rw [heightAt_no hc] at h; omega
  obtain ⟨pc, hpc⟩ := Int.eq_ofNat_of_zero_le h1
  obtain ⟨fn, hfn⟩ := Int.eq_ofNat_of_zero_le h2.1
  have hfl : fn < p.length := by omega
  have hg := heights_good (fnMay_of (packs_fn hp hfl)).2.2.2.2 (verifyOf_fn hv hfl)
  have hlt : pc < p[fn].code.length := by
    by_cases hc : (p[fn].code.length : Int) ≤ pc
    · rw [hfn, hpc, heightAt_far hv hfl hc] at h; omega
    · omega
  have hlt' : pc < (heightsF p p[fn]).1.length := by rw [hg.len]; exact hlt
  have hh : heightAt p f.fn f.pc = (heightsF p p[fn]).1[pc] := by
    rw [hfn, hpc, heightAt_yes hv hfl (by omega), Int.toNat_natCast, List.getElem?_eq_getElem hlt']; rfl
  have hs : (heightsF p p[fn]).1[pc]? = some (heightAt p f.fn f.pc) := by rw [hh]; exact List.getElem?_eq_getElem hlt'
  exact ⟨fn, pc, hfn, hpc, hfl, hlt, (hg.sound pc _ hs (by omega)).1, hs, h⟩
/-- What the instruction there finds. -/
structure Finds (p : List Fn) (f : Frm) (h : Int) (fn pc : Nat) (x : Ins) : Prop where
  ins : insAt p f = x
  code : codeAt p f.fn f.pc = some x
  may : insMay x = true
  ranged : ∀ hfn : fn < p.length, rangedB p p[fn] x = true
  takes : takesOf x.kind (argsOf p x) ≤ h
  behind : behindH p x h ≤ 8
  goes : ∀ t : Nat, (∃ hfn : fn < p.length, t ∈ nx p[fn].code pc) → heightAt p f.fn t = behindH p x h
theorem At.finds {p : List Fn} (hv : verifyOf p = 0) {f : Frm} {h : Int} {fn pc : Nat} (ha : At p f h fn pc) : ∃ x, Finds p f h fn pc x ∧ ∃ hfn : fn < p.length, ∃ hpc : pc < p[fn].code.length, x = p[fn].code[pc] := by
  have hp := verifyOf_packs hv
  have hfl := ha.hfn
  have hlt := ha.hpc
  have hm := (fnMay_of (packs_fn hp hfl)).2.2.2.2
  have hg := heights_good hm (verifyOf_fn hv hfl)
  obtain ⟨hq, g1, g2, g3⟩ := (hg.good pc h ha.height (by have := ha.h0; omega)).resolve_left (by simp)
  have hc : codeAt p f.fn f.pc = some p[fn].code[pc] := by
    unfold codeAt
    rw [ha.efn, ha.epc, Int.toNat_natCast, Int.toNat_natCast, List.getElem?_eq_getElem hfl]
    simp only
    rw [List.getElem?_eq_getElem hlt]
  refine ⟨p[fn].code[pc], ⟨by unfold insAt; rw [hc]; rfl, hc, may_mem hm hlt, fun _ => ranged_of hm (heights_len (verifyOf_fn hv hfl)).2.2 ha.reach hlt, g1, g2, fun t ⟨_, ht⟩ => ?_⟩, hfl, hlt, rfl⟩
  rw [ha.efn, heightAt_yes hv hfl (by omega), Int.toNat_natCast, g3 t ht]; rfl
end Go.Proofs.YtpfgklkdldkajaaDoor

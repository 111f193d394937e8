/- Frames and states: plain definitions, how they lie in memory. No condition. What heights that were reckoned have: each pc that is reached has what it takes and leaves to each one next to it what that has. Plain law; no program in sight. 'frame.open', '(*book).may', 'frame.After': which frames may be. Conditions: the program, the frame lie in memory as they are said; errors.errorType is laid. -/
import Derived.Test.YtjghibdlmmjobaaGreatDoorGZ09
namespace Go.Proofs.YtjghibdlmmjobaaGreatDoor
open Go.RowKit

structure Frm where
  fn : Int
  pc : Int
  locals : List Int
  stack : List Int
structure Stt where
  frames : List Frm
  fuel : Int
  out : List Int
  done : Int
  value : Int
instance : DecidableEq Frm := fun x y => if h : x.fn = y.fn ∧ x.pc = y.pc ∧ x.locals = y.locals ∧ x.stack = y.stack then isTrue (by cases x; cases y; obtain ⟨h1, h2, h3, h4⟩ := h; simp only at h1 h2 h3 h4; rw [h1, h2, h3, h4]) else isFalse (fun e => h (by rw [e]; exact ⟨rfl, rfl, rfl, rfl⟩))
instance : DecidableEq Stt := fun x y => if h : x.frames = y.frames ∧ x.fuel = y.fuel ∧ x.out = y.out ∧ x.done = y.done ∧ x.value = y.value then isTrue (by cases x; cases y; obtain ⟨h1, h2, h3, h4, h5⟩ := h; simp only at h1 h2 h3 h4 h5; rw [h1, h2, h3, h4, h5]) else isFalse (fun e => h (by rw [e]; exact ⟨rfl, rfl, rfl, rfl, rfl⟩))
instance : Inhabited Frm := ⟨⟨0, 0, [], []⟩⟩

/-- How many stand on the stack at a pc; -1: it is not reached, or there is none. -/
def heightAt (p : List Fn) (fn pc : Int) : Int := if (heightsOf p fn).2.2 = 0 ∧ 0 ≤ pc then ((heightsOf p fn).1[pc.toNat]?).getD (-1) else -1
def localsAt (p : List Fn) (fn : Int) : Int := match p[fn.toNat]? with | some g => g.locals | none => 0
def frameB (p : List Fn) (f : Frm) (less : Int) : Bool :=
  decide (0 ≤ heightAt p f.fn f.pc) && decide ((f.locals.length : Int) = localsAt p f.fn) && decide ((f.stack.length : Int) = heightAt p f.fn f.pc - less) && f.locals.all isNum && f.stack.all isNum
def codeAt (p : List Fn) (fn pc : Int) : Option Ins := match p[fn.toNat]? with | some g => g.code[pc.toNat]? | none => none
/-- Is a pc right behind a reached call of a function? -/
def behindB (p : List Fn) (fn pc called : Int) : Bool := decide (0 ≤ heightAt p fn (pc - 1)) && decide (codeAt p fn (pc - 1) = some ⟨14, called⟩)
def lessB (p : List Fn) (f g : Frm) : Bool := frameB p f 1 && behindB p f.fn f.pc g.fn
def runsFrom (p : List Fn) : List Frm → Bool
  | [] => false
  | [f] => frameB p f 0
  | f :: g :: fs => lessB p f g && runsFrom p (g :: fs)
def runsB (p : List Fn) (fs : List Frm) : Bool := decide (1 ≤ fs.length) && decide (fs.length ≤ 12) && runsFrom p fs
def overB (s : Stt) : Bool := decide (s.frames.length = 0) && (if s.done = 1 then isNum s.value else decide (s.value = 0))
def stateB (p : List Fn) (s : Stt) : Bool :=
  decide (verifyOf p = 0) && decide (0 ≤ s.fuel) && decide (s.fuel ≤ 100000) && decide ((s.out.length : Int) ≤ 100000 - s.fuel) && s.out.all isNum &&
    (if s.done = 0 then decide (s.value = 0) && runsB p s.frames else decide (0 < s.done) && decide (s.done ≤ 4) && overB s)
def frameMayB (p : List Fn) (f : Frm) : Bool := decide (verifyOf p = 0) && frameB p f 0

theorem runs_iff (p : List Fn) : ∀ (fs : List Frm) (h : 0 < fs.length), runsFrom p fs = true ↔ (∀ i (hi : i + 1 < fs.length), lessB p fs[i] fs[i + 1] = true) ∧ frameB p fs[fs.length - 1] 0 = true
  | [], h => absurd h (by decide)
  | [f], _ => by simp [runsFrom]
  | f :: g :: fs, _ => by
    rw [runsFrom, Bool.and_eq_true, runs_iff p (g :: fs) (by simp)]
    constructor
    · rintro ⟨h1, h2, h3⟩
      refine ⟨fun i hi => ?_, by simpa using h3⟩
      cases i with
      | zero => exact h1
      | succ i => exact h2 i (by simpa using hi)
    · rintro ⟨h1, h2⟩
      exact ⟨h1 0 (by simp), fun i hi => h1 (i + 1) (by simpa using hi), by simpa using h2⟩

/-- A frame, as it is read; in blocks of S. -/
def FrmAt (w : World) (a : Addr) (f : Frm) : Prop :=
  w.cell? a = some (.int .i64 f.fn) ∧ w.cell? ⟨a.block, a.off + 1, none⟩ = some (.int .i64 f.pc) ∧
    (∃ A c, w.cell? ⟨a.block, a.off + 2, none⟩ = some (.slice A f.locals.length c) ∧ ReadsI w A f.locals) ∧ ∃ A c, w.cell? ⟨a.block, a.off + 3, none⟩ = some (.slice A f.stack.length c) ∧ ReadsI w A f.stack
theorem FrmAt.below {w w1 : World} {a : Addr} {f : Frm} (h : FrmAt w a f) (hb : Below w.heap.size w w1) : FrmAt w1 a f := by
  obtain ⟨c0, c1, ⟨A, c, c2, r2⟩, B, d, c3, r3⟩ := h
  exact ⟨(hb.cell (World.block_lt_of_cell? w _ c0)).trans c0, (hb.cell (World.block_lt_of_cell? w _ c1)).trans c1, ⟨A, c, (hb.cell (World.block_lt_of_cell? w _ c2)).trans c2, r2.below hb⟩, B, d, (hb.cell (World.block_lt_of_cell? w _ c3)).trans c3, r3.below hb⟩
def frV (f : Frm) (l s : Value) : Value := .agg #[.int .i64 f.fn, .int .i64 f.pc, l, s]
/-- Frames, as they are read. -/
def ReadsFr (w : World) (A : Option Addr) (fs : List Frm) : Prop :=
  fs.length ≤ 9223372036854775807 ∧ (0 < fs.length → ∃ ad : Addr, A = some ad ∧ ∀ k (h : k < fs.length), FrmAt w (ad.add (k * 4)) fs[k])
theorem ReadsFr.at_ {w w1 : World} {A : Option Addr} {fs : List Frm} (h : ReadsFr w A fs) (hb : Below w.heap.size w w1) {k : Nat} (hk : k < fs.length) : ∃ ad : Addr, A = some ad ∧ FrmAt w1 (ad.add (k * 4)) fs[k] := by
  obtain ⟨ad, e, hc⟩ := h.2 (by omega)
  exact ⟨ad, e, (hc k hk).below hb⟩
theorem ReadsFr.below {w w1 : World} {A : Option Addr} {fs : List Frm} (h : ReadsFr w A fs) (hb : Below w.heap.size w w1) : ReadsFr w1 A fs := ⟨h.1, fun h0 => by
  obtain ⟨ad, e, hc⟩ := h.2 h0
  exact ⟨ad, e, fun k hk => (hc k hk).below hb⟩⟩
/-- A value that is a state. -/
def sttV (s : Stt) (fs out : Value) : Value := .agg #[fs, .int .i64 s.fuel, out, .int .i64 s.done, .int .i64 s.value]

theorem all_len {α : Type} {p : α → Bool} {xs : List α} {k : Nat} (hk : xs.length ≤ k) (h : ∀ j (hj : j < xs.length), j < k → p xs[j] = true) : xs.all p = true := all_upto hk h

set_option maxHeartbeats 1000000 in
theorem wrapAll_any (A : Option Addr) (c : Nat) (xs : List Int) (w : World) (hr : ReadsI w A xs) :
    Calls Tryz.prog 66 #[.slice A xs.length c] w fun e w' => e = .returned (.bool (xs.all isNum)) ∧ w' = w := by
  have HR := Lib.hid hr
  have hn : xs.length ≤ 9223372036854775807 := hr.1
  clear hr
  go_enter Tryz.func66, Tryz.ntmps66
  go_wp2_with fail
  go_loop [7] (fun i => ∃ k : Nat, k ≤ xs.length ∧ i = .int .i64 k ∧ (∀ j (hj : j < xs.length), j < k → isNum xs[j] = true)) (fun i => xs.length - (intOf i).toNat)
  case atStart => exact ⟨0, Nat.zero_le _, rfl, fun _ _ h => absurd h (Nat.not_lt_zero _)⟩
  case round =>
    obtain ⟨k, hk, rfl, hv⟩ := hrel
    have HV := Lib.hid hv
    clear hv
    by_cases hlt : k < xs.length
    · obtain ⟨ad, rfl, hc⟩ := HR.out.at_ hlt
      cases hm : isNum xs[k] with
      | true =>
        have HM := Lib.hid hm
        have HI := Lib.hid (is_any xs[k])
        rw [hm] at HI
        clear hm
        go_wp2_with (go_at_call 102; refine (HI.out _).mono ?_; rintro e w' ⟨rfl, rfl⟩)
        go_round
        case rel => exact ⟨k + 1, by omega, by go_num, upto_succ HV.out hlt HM.out⟩
        case measure => simp only [intOf]; omega
      | false =>
        have HM := Lib.hid hm
        have HI := Lib.hid (is_any xs[k])
        rw [hm] at HI
        clear hm
        go_wp2_with (go_at_call 102; refine (HI.out _).mono ?_; rintro e w' ⟨rfl, rfl⟩)
        go_ret
        exact ⟨ret_bool (all_not hlt HM.out).symm, rfl⟩
    · go_wp2_with fail
      go_ret
      exact ⟨ret_bool (all_upto (by omega) HV.out).symm, rfl⟩
end Go.Proofs.YtjghibdlmmjobaaGreatDoor

namespace Go.Proofs.YtjghibdlmmjobaaGreatDoor

theorem hstep_spec {h : Int} (hn : h ≠ -1) : ∀ (ts : List Nat) (out : List Int) (row : List Nat) (s : List Int × List Nat), hstep h ts out row = some s →
    s.1.length = out.length ∧ (∀ (t : Nat) (x : Int), out[t]? = some x → x ≠ -1 → s.1[t]? = some x) ∧ (∀ t ∈ ts, s.1[t]? = some h) ∧ (∀ (t : Nat) (x : Int), s.1[t]? = some x → x ≠ -1 → out[t]? = some x ∨ (t ∈ s.2 ∧ t ∈ ts)) ∧ (∀ q ∈ row, q ∈ s.2) ∧ (∀ q ∈ s.2, q ∈ row ∨ ∃ x : Int, s.1[q]? = some x ∧ x ≠ -1) ∧ unsetH s.1 + s.2.length = unsetH out + row.length
  | [], out, row, s, e => by
    cases e
    exact ⟨rfl, fun _ _ h _ => h, fun _ h => by simp at h, fun _ _ h _ => .inl h, fun _ h => h, fun _ h => .inl h, rfl⟩
  | t :: ts, out, row, s, e => by
    rw [hstep] at e
    by_cases h1 : out[t]? = some (-1)
    · rw [if_pos h1] at e
      obtain ⟨ht, h1'⟩ := List.getElem?_eq_some_iff.1 h1
      obtain ⟨i1, i2, i3, i4, i5, i6, i7⟩ := hstep_spec hn ts _ _ s e
      have hset : (out.set t h)[t]? = some h := by simp [ht]
      have hoth : ∀ u, u ≠ t → (out.set t h)[u]? = out[u]? := fun u hu => by rw [List.getElem?_set, if_neg (Ne.symm hu)]
      have htin : t ∈ s.2 := i5 t (by simp)
      refine ⟨by rw [i1]; simp, fun u x hu hx => ?_, fun u hu => ?_, fun u x hu hx => ?_, fun q hq => i5 q (by simp [hq]), fun q hq => ?_, ?_⟩
      · have hne : u ≠ t := fun e => by subst e; rw [h1] at hu; cases hu; exact hx rfl
        exact i2 u x (by rw [hoth u hne]; exact hu) hx
      · rcases List.mem_cons.1 hu with rfl | hu
        · exact i2 _ h hset hn
        · exact i3 u hu
      · by_cases hne : u = t
        · subst hne; exact .inr ⟨htin, by simp⟩
        · rcases i4 u x hu hx with h | ⟨h, h'⟩
          · rw [hoth u hne] at h; exact .inl h
          · exact .inr ⟨h, by simp [h']⟩
      · rcases i6 q hq with h | h
        · rcases List.mem_append.1 h with h | h
          · exact .inl h
          · simp at h; subst h; exact .inr ⟨_, i2 _ _ hset hn, hn⟩
        · exact .inr h
      · have := unsetH_set ht h1' hn
        rw [i7]; simp; omega
    · rw [if_neg h1] at e
      by_cases h2 : out[t]? = some h
      · rw [if_pos h2] at e
        obtain ⟨i1, i2, i3, i4, i5, i6, i7⟩ := hstep_spec hn ts _ _ s e
        refine ⟨i1, i2, fun u hu => ?_, fun u x hu hx => ?_, i5, i6, i7⟩
        · rcases List.mem_cons.1 hu with rfl | hu
          · exact i2 _ h h2 hn
          · exact i3 u hu
        · rcases i4 u x hu hx with h | ⟨h, h'⟩
          · exact .inl h
          · exact .inr ⟨h, by simp [h']⟩
      · rw [if_neg h2] at e; cases e
/-- A pc of the height x, in heights. -/
def Good (p : List Fn) (code : List Ins) (o : List Int) (q : Nat) (x : Int) : Prop := ∃ hq : q < code.length, takesOf code[q].kind (argsOf p code[q]) ≤ x ∧ behindH p code[q] x ≤ 8 ∧ ∀ t ∈ nx code q, o[t]? = some (behindH p code[q] x)
structure GInv (p : List Fn) (code : List Ins) (out : List Int) (row : List Nat) : Prop where
  len : out.length = code.length
  zero : out[0]? = some 0
  inrow : ∀ q ∈ row, ∃ x : Int, out[q]? = some x ∧ x ≠ -1
  sound : ∀ (q : Nat) (x : Int), out[q]? = some x → x ≠ -1 → Reach code q ∧ 0 ≤ x
  good : ∀ (q : Nat) (x : Int), out[q]? = some x → x ≠ -1 → q ∈ row ∨ Good p code out q x
theorem behind_nonneg {p : List Fn} {x : Ins} {o : Int} (h : takesOf x.kind (argsOf p x) ≤ o) : 0 ≤ behindH p x o := by
  have := (puts_in x.kind).1
  unfold behindH; omega
theorem hwalk_good {p : List Fn} {code : List Ins} : ∀ (n : Nat) (out : List Int) (row : List Nat) (o : List Int), GInv p code out row → unsetH out + row.length ≤ n → hwalk p code n out row = .inr o → GInv p code o []
  | 0, out, row, o, hi, hm, e => by
    cases e
    obtain rfl : row = [] := List.eq_nil_of_length_eq_zero (by omega)
    exact hi
  | n + 1, out, [], o, hi, _, e => by cases e; exact hi
  | n + 1, out, pc :: row, o, hi, hm, e => by
    obtain ⟨x, hx, hxn⟩ := hi.inrow pc (by simp)
    obtain ⟨hpo, hpx⟩ := List.getElem?_eq_some_iff.1 hx
    have hpc : pc < code.length := by rw [← hi.len]; exact hpo
    by_cases hbad : out[pc] < takesOf code[pc].kind (argsOf p code[pc]) ∨ 8 < behindH p code[pc] out[pc]
    · rw [hwalk_bad hpc hpo hbad] at e; cases e
    · have h1 : ¬ out[pc] < takesOf code[pc].kind (argsOf p code[pc]) := fun h => hbad (.inl h)
      have h2 : ¬ 8 < behindH p code[pc] out[pc] := fun h => hbad (.inr h)
      rw [hwalk_step hpc hpo h1 h2] at e
      rw [hpx] at e h1 h2
      have hb0 := behind_nonneg (p := p) (x := code[pc]) (o := x) (by omega)
      cases hs : hstep (behindH p code[pc] x) (nx code pc) out row with
      | none => rw [hs] at e; cases e
      | some s =>
        rw [hs] at e
        obtain ⟨i1, i2, i3, i4, i5, i6, i7⟩ := hstep_spec (by omega) _ _ _ _ hs
        have hpr := (hi.sound pc x hx hxn).1
        refine hwalk_good n s.1 s.2 o ⟨by rw [i1]; exact hi.len, i2 0 0 hi.zero (by decide), fun q hq => ?_, fun q y hq hy => ?_, fun q y hq hy => ?_⟩ (by rw [i7]; simp at hm; omega) e
        · rcases i6 q hq with h | h
          · obtain ⟨y, hy, hyn⟩ := hi.inrow q (by simp [h])
            exact ⟨y, i2 q y hy hyn, hyn⟩
          · exact h
        · rcases i4 q y hq hy with h | ⟨h, h'⟩
          · exact hi.sound q y h hy
          · have := i3 q h'
            rw [this] at hq
            cases hq
            exact ⟨.step hpr h', hb0⟩
        · have mono : ∀ q y, Good p code out q y → Good p code s.1 q y := fun q y ⟨g1, g2, g3, g4⟩ => ⟨g1, g2, g3, fun t ht => i2 t _ (g4 t ht) (by have := behind_nonneg (p := p) g2; omega)⟩
          rcases i4 q y hq hy with h | ⟨h, h'⟩
          · rcases hi.good q y h hy with h3 | h3
            · rcases List.mem_cons.1 h3 with rfl | h3
              · rw [hx] at h
                cases h
                exact .inr ⟨hpc, by omega, by omega, i3⟩
              · exact .inl (i5 q h3)
            · exact .inr (mono q y h3)
          · exact .inl h
theorem GInv.start {p : List Fn} {code : List Ins} (hm : codeMay code = true) : GInv p code (hstart code) [0] := by
  have h0 := (codeMay_len hm).1
  have hz : (hstart code)[0]? = some 0 := by unfold hstart; rw [List.getElem?_set_self (by simp; omega)]
  have hall : ∀ q x, (hstart code)[q]? = some x → x ≠ -1 → q = 0 ∧ x = 0 := fun q x hq hx => by
    unfold hstart at hq
    rw [List.getElem?_set] at hq
    split at hq
    · rename_i e
      simp at hq
      exact ⟨e.symm, hq.2.symm⟩
    · rw [List.getElem?_replicate] at hq
      split at hq
      · cases hq; exact absurd rfl hx
      · cases hq
  refine ⟨by simp [hstart], hz, fun q hq => ?_, fun q x hq hx => ?_, fun q x hq hx => ?_⟩
  · simp at hq; subst hq; exact ⟨0, hz, by decide⟩
  · obtain ⟨rfl, rfl⟩ := hall q x hq hx; exact ⟨.zero, by decide⟩
  · obtain ⟨rfl, rfl⟩ := hall q x hq hx; exact .inl (by simp)
theorem heights_good {p : List Fn} {f : Fn} (hm : codeMay f.code = true) (h : (heightsF p f).2.2 = 0) : GInv p f.code (heightsF p f).1 [] := by
  obtain ⟨_, hw, _⟩ := heights_len h
  unfold hwalkOf at hw
  refine hwalk_good _ _ _ _ (GInv.start hm) ?_ hw
  have h0 := (codeMay_len hm).1
  have : unsetH (hstart f.code) + 1 = f.code.length := by
    unfold hstart
    unfold unsetH
    rw [List.countP_set (by simp; omega)]
    simp [List.countP_replicate]; omega
  simp; omega
/-- What comes next of nothing is a return. -/
theorem next_none {p : List Fn} {f : Fn} (hm : codeMay f.code = true) (hpl : plainOf p f = none) {pc : Nat} (hr : Reach f.code pc) (hpc : pc < f.code.length) (h : nx f.code pc = []) : f.code[pc].kind = 16 := by
  have h1 := nx_eq hm hpc
  rw [h] at h1
  simp only [List.map_nil] at h1
  have hrg := ranged_of hm hpl hr hpc
  have hend := (plainOf_none hpl).2
  unfold endBad at hend
  unfold rangedB at hrg
  unfold nextOf at h1
  rcases Decidable.em (f.code[pc].kind = 16) with h16 | h16
  · exact h16
  · exfalso
    rw [List.append_eq_nil_iff] at h1
    obtain ⟨e1, e2⟩ := h1
    have hnp : ¬ (f.code[pc].kind ≠ 16 ∧ f.code[pc].kind ≠ 12 ∧ pc + 1 < f.code.length) := fun hc => by rw [if_pos hc] at e1; cases e1
    by_cases h12 : f.code[pc].kind = 12
    · rw [if_neg (by omega), if_pos (by omega)] at hrg
      rw [if_pos ⟨.inl h12, by simpa using hrg, by rw [e1]; simp⟩] at e2
      cases e2
    · have hlast : pc = f.code.length - 1 := by omega
      subst hlast
      have hR := (reachL_iff hm).2 hr
      unfold Has at hR
      rw [hR, List.getElem?_eq_getElem hpc] at hend
      simp [h12, h16] at hend
end Go.Proofs.YtjghibdlmmjobaaGreatDoor

namespace Go.Proofs.YtjghibdlmmjobaaGreatDoor
open Go.RowKit

/-- Rows of ints, as they are read. -/
def ReadsII (w : World) (A : Option Addr) (hs : List (List Int)) : Prop :=
  hs.length ≤ 9223372036854775807 ∧ (0 < hs.length → ∃ ad : Addr, A = some ad ∧ ∀ k (h : k < hs.length), ∃ B c, w.cell? (ad.add k) = some (.slice B hs[k].length c) ∧ ReadsI w B hs[k])
theorem ReadsII.below {w w1 : World} {A : Option Addr} {hs : List (List Int)} (h : ReadsII w A hs) (hb : Below w.heap.size w w1) : ReadsII w1 A hs := ⟨h.1, fun h0 => by
  obtain ⟨ad, e, hc⟩ := h.2 h0
  refine ⟨ad, e, fun k hk => ?_⟩
  obtain ⟨B, c, c0, r⟩ := hc k hk
  exact ⟨B, c, (hb.cell (World.block_lt_of_cell? w _ c0)).trans c0, r.below hb⟩⟩
theorem ReadsII.at_ {w : World} {A : Option Addr} {hs : List (List Int)} (h : ReadsII w A hs) {k : Nat} (hk : k < hs.length) : ∃ ad : Addr, A = some ad ∧ ∃ B c, w.cell? (ad.add k) = some (.slice B hs[k].length c) ∧ ReadsI w B hs[k] := by
  obtain ⟨ad, e, hc⟩ := h.2 (by omega)
  exact ⟨ad, e, hc k hk⟩
theorem Book.reads {w : World} {base : Nat} {v : Value} {hs : List (List Int)} (h : Book w base v hs) : ∃ A c, v = .slice A hs.length c ∧ ReadsII w A hs := by
  obtain ⟨vs, h1, h2⟩ := h
  obtain ⟨A, c, rfl, hn, hm⟩ := h1.shape
  have hl := h1.len
  rw [Nat.mul_one] at hl
  refine ⟨A, c, rfl, by unfold maxLen at hm; omega, fun h0 => ?_⟩
  obtain ⟨g, off, rfl, _, _, hc⟩ := h1.cell (k := 0) (by omega)
  refine ⟨_, rfl, fun k hk => ?_⟩
  obtain ⟨hr, _⟩ := h2 k hk (by omega)
  obtain ⟨B, d, e, _, _⟩ := hr.shape
  rw [e] at hr
  exact ⟨B, d, by rw [Addr.add_lit, (hc k (by omega)).1, e], hr.ints.2⟩
/-- A verified program's book. -/
structure BookAt (w : World) (B P : Addr) (p : List Fn) (Ap : Option Addr) (cp : Nat) (H : Option Addr) (ch : Nat) : Prop where
  b0 : w.cell? B = some (.pointer (some P))
  b1 : w.cell? ⟨B.block, B.off + 1, none⟩ = some (.slice H p.length ch)
  hp : w.cell? P = some (.slice Ap p.length cp)
  rp : ReadsF w Ap p
  rh : ReadsII w H (bookOf p)
theorem BookAt.below {w w1 : World} {B P : Addr} {p : List Fn} {Ap H : Option Addr} {cp ch : Nat} (h : BookAt w B P p Ap cp H ch) (hb : Below w.heap.size w w1) : BookAt w1 B P p Ap cp H ch :=
  ⟨(hb.cell (World.block_lt_of_cell? w _ h.b0)).trans h.b0, (hb.cell (World.block_lt_of_cell? w _ h.b1)).trans h.b1, (hb.cell (World.block_lt_of_cell? w _ h.hp)).trans h.hp, h.rp.below hb, h.rh.below hb⟩
/-- What 'open' answers. -/
def OpenE (p : List Fn) (P : Addr) (Ap : Option Addr) (cp : Nat) (w : World) (e : Ending) (w' : World) : Prop :=
  ∃ B, e = .returned (.tuple #[.pointer (some B), .bool (verifyOf p == 0)]) ∧ Below w.heap.size w w' ∧ (verifyOf p = 0 → ∃ H ch, BookAt w' B P p Ap cp H ch)
theorem cell_below {w w1 : World} {a : Addr} {v : Value} (hb : Below w.heap.size w w1) (h : w.cell? a = some v) : w1.cell? a = some v := (hb.cell (World.block_lt_of_cell? w _ h)).trans h
set_option maxHeartbeats 1000000 in
theorem open_any (P : Addr) (p : List Fn) (Ap : Option Addr) (cp : Nat) (w : World) (hl : Laid w) (hP : w.cell? P = some (.slice Ap p.length cp)) (hr : ReadsF w Ap p) :
    Calls Tryz.prog 100 #[.pointer (some P)] w (OpenE p P Ap cp w) := by
  have HA := Lib.hid (all_any P p Ap cp w hl hP hr)
  have HP := Lib.hid hP
  have HR := Lib.hid hr
  obtain ⟨vf, hvf⟩ : ∃ vf, verifyOf p = vf := ⟨_, rfl⟩
  unfold AllE at HA
  unfold OpenE
  rw [hvf] at HA ⊢
  clear hl hP hr hvf
  go_enter Tryz.func100, Tryz.ntmps100
  go_wp2_with fail
  refine HA.out.mono ?_
  rintro e w1 ⟨v, rfl, hB, hbk, hnil⟩
  have hv : ∃ A n c, v = .slice A n c := by
    by_cases h0 : vf = 0
    · obtain ⟨A, c, e, _⟩ := (hbk h0).reads
      exact ⟨A, _, c, e⟩
    · exact ⟨none, 0, 0, hnil h0⟩
  obtain ⟨A, n, c, rfl⟩ := hv
  have HB := Lib.hid hB
  have HBK := Lib.hid hbk
  clear hB hbk hnil
  go_wp2_with fail
  go_ret2
  have b2 := below_alloc (Below.refl w1.heap.size w1) (.cells #[.pointer (some P), .slice A n c] 213)
  refine ⟨_, rfl, below_trans HB.out b2, fun hv => ?_⟩
  obtain ⟨A', c', eh, hrd⟩ := (HBK.out hv).reads
  injection eh with e1 e2 e3
  subst e1 e2 e3
  have e0 : (bookOf p).length = p.length := by simp [bookOf]
  have k0 := (blk_cell (blk_new w1 (.cells #[.pointer (some P), .slice A (bookOf p).length c] 213)) 0)
  have k1 := (blk_cell (blk_new w1 (.cells #[.pointer (some P), .slice A (bookOf p).length c] 213)) 1)
  exact ⟨A, c, ⟨k0.trans rfl, k1.trans (by rw [e0]; rfl), cell_below (below_trans HB.out b2) HP.out, HR.out.below (below_trans HB.out b2), hrd.below b2⟩⟩

theorem heightAt_no {p : List Fn} {fn pc : Int} (h : ¬ (0 ≤ fn ∧ fn < p.length)) : heightAt p fn pc = -1 := by
  unfold heightAt
  rw [heightsOf_no (fun h1 => h h1.2)]
  rfl
theorem heightAt_yes {p : List Fn} {k : Nat} {pc : Int} (hv : verifyOf p = 0) (hk : k < p.length) (h0 : 0 ≤ pc) : heightAt p k pc = ((heightsF p p[k]).1[pc.toNat]?).getD (-1) := by
  unfold heightAt
  rw [heightsOf_yes (verifyOf_packs hv) hk, if_pos ⟨verifyOf_fn hv hk, h0⟩]
theorem heightAt_neg {p : List Fn} {fn pc : Int} (h0 : pc < 0) : heightAt p fn pc = -1 := by
  unfold heightAt; rw [if_neg (by omega)]
theorem heightAt_far {p : List Fn} {k : Nat} {pc : Int} (hv : verifyOf p = 0) (hk : k < p.length) (h0 : (p[k].code.length : Int) ≤ pc) : heightAt p k pc = -1 := by
  rw [heightAt_yes hv hk (by omega), List.getElem?_eq_none (by rw [(heights_len (verifyOf_fn hv hk)).1]; omega)]
  rfl
theorem heightAt_in {p : List Fn} (hv : verifyOf p = 0) {k m : Nat} (hk : k < p.length) (hm : m < p[k].code.length) : ∃ hb : m < (heightsF p p[k]).1.length, heightAt p k m = (heightsF p p[k]).1[m] ∧ ((heightsF p p[k]).1[m] = -1 ∨ (0 ≤ (heightsF p p[k]).1[m] ∧ (heightsF p p[k]).1[m] ≤ 12)) := by
  have hl := (heights_len (verifyOf_fn hv hk)).1
  have hb : m < (heightsF p p[k]).1.length := by omega
  refine ⟨hb, by rw [heightAt_yes hv hk (by omega), Int.toNat_natCast, List.getElem?_eq_getElem hb]; rfl, ?_⟩
  by_cases h : (heightsF p p[k]).1[m] = -1
  · exact .inl h
  · have hg := heights_good (fnMay_of (packs_fn (verifyOf_packs hv) hk)).2.2.2.2 (verifyOf_fn hv hk)
    refine .inr ⟨(hg.sound m _ (List.getElem?_eq_getElem hb) h).2, ?_⟩
    obtain ⟨hq, g1, g2, _⟩ := (hg.good m _ (List.getElem?_eq_getElem hb) h).resolve_left (by simp)
    obtain ⟨a0, a4⟩ := argsOf_in (verifyOf_packs hv) p[k].code[m]
    have := takes_in p[k].code[m].kind _ a0 a4
    have := puts_in p[k].code[m].kind
    unfold behindH at g2
    omega
theorem bookOf_at {p : List Fn} {k : Nat} (hk : k < p.length) (h : k < (bookOf p).length) : (bookOf p)[k] = (heightsF p p[k]).1 := by simp [bookOf]
theorem frameB_no {p : List Fn} {f : Frm} {less : Int} (h : heightAt p f.fn f.pc = -1) : frameB p f less = false := by unfold frameB; rw [h]; rfl
theorem retD_of {b : Bool} {v : Value} {w w' : World} (e : v = .bool b) (h : ∃ n, w' = w.drewN n) : RetD (.bool b) w (.returned v) w' := ⟨by rw [e], h⟩
end Go.Proofs.YtjghibdlmmjobaaGreatDoor

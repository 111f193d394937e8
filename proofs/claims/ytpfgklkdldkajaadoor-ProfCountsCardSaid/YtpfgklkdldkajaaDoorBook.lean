/- 'frame.open', '(*book).may', 'frame.After': which frames may be. Conditions: the program, the frame lie in memory as they are said; errors.errorType is laid. -/
import Derived.Test.YtpfgklkdldkajaaDoorFrm
import Derived.Test.YtpfgklkdldkajaaDoorVerLaw
namespace Go.Proofs.YtpfgklkdldkajaaDoor
open Go.RowKit

/-- Rows of ints, as they are read. -/
def ReadsII (w : World) (A : Option Addr) (hs : List (List Int)) : Prop :=
  hs.length ≤ 9223372036854775807 ∧ (0 < hs.length → ∃ ad : Addr, A = some ad ∧ ∀ k (h : k < hs.length), ∃ B c, w.cell? (ad.add k) = some (.slice B hs[k].length c) ∧ ReadsI w B hs[k])
theorem ReadsII.below {w w1 : World} {A : Option Addr} {hs : List (List Int)} (h : ReadsII w A hs) (hb : Below w.heap.size w w1) : ReadsII w1 A hs := ⟨h.1, fun h0 => by
  obtain ⟨ad, e, hc⟩ := h.2 h0
  refine ⟨ad, e, fun k hk => ?_⟩
  obtain ⟨B, c, c0, r⟩ := hc k hk
  exact ⟨B, c, (hb.cell (World.block_lt_of_cell? w _ c0)).trans c0, r.below hb⟩⟩
theorem ReadsII.at_ {w : World} {A : Option Addr} {hs : List (List Int)} (h : ReadsII w A hs) {k : Nat} (hk : k < hs.length) : ∃ ad : Addr, A = some ad ∧ ∃ B c, w.cell? (ad.add k) = some (.slice B hs[k].length c) ∧ ReadsI w B hs[k] := by
  obtain ⟨ad, e, hc⟩ := h.2 (by omega)
  exact ⟨ad, e, hc k hk⟩
theorem Book.reads {w : World} {base : Nat} {v : Value} {hs : List (List Int)} (h : Book w base v hs) : ∃ A c, v = .slice A hs.length c ∧ ReadsII w A hs := by
  obtain ⟨vs, h1, h2⟩ := h
  obtain ⟨A, c, rfl, hn, hm⟩ := h1.shape
  have hl := h1.len
  rw [Nat.mul_one] at hl
  refine ⟨A, c, rfl, by unfold maxLen at hm; omega, fun h0 => ?_⟩
  obtain ⟨g, off, rfl, _, _, hc⟩ := h1.cell (k := 0) (by omega)
  refine ⟨_, rfl, fun k hk => ?_⟩
  obtain ⟨hr, _⟩ := h2 k hk (by omega)
  obtain ⟨B, d, e, _, _⟩ := hr.shape
  rw [e] at hr
  exact ⟨B, d, by rw [Addr.add_lit, (hc k (by omega)).1, e], hr.ints.2⟩
/-- A verified program's book. -/
structure BookAt (w : World) (B P : Addr) (p : List Fn) (Ap : Option Addr) (cp : Nat) (H : Option Addr) (ch : Nat) : Prop where
  b0 : w.cell? B = some (.pointer (some P))
  b1 : w.cell? ⟨B.block, B.off + 1, none⟩ = some (.slice H p.length ch)
  hp : w.cell? P = some (.slice Ap p.length cp)
  rp : ReadsF w Ap p
  rh : ReadsII w H (bookOf p)
theorem BookAt.below {w w1 : World} {B P : Addr} {p : List Fn} {Ap H : Option Addr} {cp ch : Nat} (h : BookAt w B P p Ap cp H ch) (hb : Below w.heap.size w w1) : BookAt w1 B P p Ap cp H ch :=
  ⟨(hb.cell (World.block_lt_of_cell? w _ h.b0)).trans h.b0, (hb.cell (World.block_lt_of_cell? w _ h.b1)).trans h.b1, (hb.cell (World.block_lt_of_cell? w _ h.hp)).trans h.hp, h.rp.below hb, h.rh.below hb⟩
/-- What 'open' answers. -/
def OpenE (p : List Fn) (P : Addr) (Ap : Option Addr) (cp : Nat) (w : World) (e : Ending) (w' : World) : Prop :=
  ∃ B, e = .returned (.tuple #[.pointer (some B), .bool (verifyOf p == 0)]) ∧ Below w.heap.size w w' ∧ (verifyOf p = 0 → ∃ H ch, BookAt w' B P p Ap cp H ch)
theorem cell_below {w w1 : World} {a : Addr} {v : Value} (hb : Below w.heap.size w w1) (h : w.cell? a = some v) : w1.cell? a = some v := (hb.cell (World.block_lt_of_cell? w _ h)).trans h
set_option maxHeartbeats 1000000 in
theorem open_any (P : Addr) (p : List Fn) (Ap : Option Addr) (cp : Nat) (w : World) (hl : Laid w) (hP : w.cell? P = some (.slice Ap p.length cp)) (hr : ReadsF w Ap p) :
    Calls Tryd.prog 85 #[.pointer (some P)] w (OpenE p P Ap cp w) := by
  have HA := Lib.hid (all_any P p Ap cp w hl hP hr)
  have HP := Lib.hid hP
  have HR := Lib.hid hr
  obtain ⟨vf, hvf⟩ : ∃ vf, verifyOf p = vf := ⟨_, rfl⟩
  unfold AllE at HA
  unfold OpenE
  rw [hvf] at HA ⊢
  clear hl hP hr hvf
  go_enter Tryd.func85, Tryd.ntmps85
  go_wp2_with fail
  refine HA.out.mono ?_
  rintro e w1 ⟨v, rfl, hB, hbk, hnil⟩
  have hv : ∃ A n c, v = .slice A n c := by
    by_cases h0 : vf = 0
    · obtain ⟨A, c, e, _⟩ := (hbk h0).reads
      exact ⟨A, _, c, e⟩
    · exact ⟨none, 0, 0, hnil h0⟩
  obtain ⟨A, n, c, rfl⟩ := hv
  have HB := Lib.hid hB
  have HBK := Lib.hid hbk
  clear hB hbk hnil
  go_wp2_with fail
  go_ret2
  have b2 := below_alloc (Below.refl w1.heap.size w1) (.cells #[.pointer (some P), .slice A n c] 184)
  refine ⟨_, rfl, below_trans HB.out b2, fun hv => ?_⟩
  obtain ⟨A', c', eh, hrd⟩ := (HBK.out hv).reads
  injection eh with e1 e2 e3
  subst e1 e2 e3
  have e0 : (bookOf p).length = p.length := by simp [bookOf]
  have k0 := (blk_cell (blk_new w1 (.cells #[.pointer (some P), .slice A (bookOf p).length c] 184)) 0)
  have k1 := (blk_cell (blk_new w1 (.cells #[.pointer (some P), .slice A (bookOf p).length c] 184)) 1)
  exact ⟨A, c, ⟨k0.trans rfl, k1.trans (by rw [e0]; rfl), cell_below (below_trans HB.out b2) HP.out, HR.out.below (below_trans HB.out b2), hrd.below b2⟩⟩

theorem heightAt_no {p : List Fn} {fn pc : Int} (h : ¬ (0 ≤ fn ∧ fn < p.length)) : heightAt p fn pc = -1 := by
  unfold heightAt
  rw [heightsOf_no (fun h1 => h h1.2)]
  rfl
theorem heightAt_yes {p : List Fn} {k : Nat} {pc : Int} (hv : verifyOf p = 0) (hk : k < p.length) (h0 : 0 ≤ pc) : heightAt p k pc = ((heightsF p p[k]).1[pc.toNat]?).getD (-1) := by
  unfold heightAt
  rw [heightsOf_yes (verifyOf_packs hv) hk, if_pos ⟨verifyOf_fn hv hk, h0⟩]
theorem heightAt_neg {p : List Fn} {fn pc : Int} (h0 : pc < 0) : heightAt p fn pc = -1 := by
  unfold heightAt; rw [if_neg (by omega)]
theorem heightAt_far {p : List Fn} {k : Nat} {pc : Int} (hv : verifyOf p = 0) (hk : k < p.length) (h0 : (p[k].code.length : Int) ≤ pc) : heightAt p k pc = -1 := by
  rw [heightAt_yes hv hk (by omega), List.getElem?_eq_none (by rw [(heights_len (verifyOf_fn hv hk)).1]; omega)]
  rfl
theorem heightAt_in {p : List Fn} (hv : verifyOf p = 0) {k m : Nat} (hk : k < p.length) (hm : m < p[k].code.length) : ∃ hb : m < (heightsF p p[k]).1.length, heightAt p k m = (heightsF p p[k]).1[m] ∧ ((heightsF p p[k]).1[m] = -1 ∨ (0 ≤ (heightsF p p[k]).1[m] ∧ (heightsF p p[k]).1[m] ≤ 12)) := by
  have hl := (heights_len (verifyOf_fn hv hk)).1
  have hb : m < (heightsF p p[k]).1.length := by omega
  refine ⟨hb, by rw [heightAt_yes hv hk (by omega), Int.toNat_natCast, List.getElem?_eq_getElem hb]; rfl, ?_⟩
  by_cases h : (heightsF p p[k]).1[m] = -1
  · exact .inl h
  · have hg := heights_good (fnMay_of (packs_fn (verifyOf_packs hv) hk)).2.2.2.2 (verifyOf_fn hv hk)
    refine .inr ⟨(hg.sound m _ (List.getElem?_eq_getElem hb) h).2, ?_⟩
    obtain ⟨hq, g1, g2, _⟩ := (hg.good m _ (List.getElem?_eq_getElem hb) h).resolve_left (by simp)
    obtain ⟨a0, a4⟩ := argsOf_in (verifyOf_packs hv) p[k].code[m]
    have := takes_in p[k].code[m].kind _ a0 a4
    have := puts_in p[k].code[m].kind
    unfold behindH at g2
    omega
theorem bookOf_at {p : List Fn} {k : Nat} (hk : k < p.length) (h : k < (bookOf p).length) : (bookOf p)[k] = (heightsF p p[k]).1 := by simp [bookOf]
theorem frameB_no {p : List Fn} {f : Frm} {less : Int} (h : heightAt p f.fn f.pc = -1) : frameB p f less = false := by unfold frameB; rw [h]; rfl
theorem retD_of {b : Bool} {v : Value} {w w' : World} (e : v = .bool b) (h : ∃ n, w' = w.drewN n) : RetD (.bool b) w (.returned v) w' := ⟨by rw [e], h⟩
end Go.Proofs.YtpfgklkdldkajaaDoor

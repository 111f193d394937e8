/- Contracts of steps with the lengths and numbers put in by hand: for states that the statements lay themselves. Conditions: the program, the state lie in memory; errors.errorType is laid. -/
import Derived.Test.YtjghibdlmmjobaaGreatDoorGZ24
import Derived.Test.YtjghibdlmmjobaaGreatDoorGZ26
import Derived.Test.YtjghibdlmmjobaaGreatDoorGZ13
import Derived.Test.YtjghibdlmmjobaaGreatDoorGZ25
namespace Go.Proofs.YtjghibdlmmjobaaGreatDoor
open Go.RowKit

/-- A call that answers a state, how many frames it has, how long its trace is, its numbers, and a code. -/
def StateM (t : Stt) (mf mo : Nat) (fu dn va code : Int) (w : World) (e : Ending) (w' : World) : Prop :=
  ∃ A c Ao co, e = .returned (.tuple #[.agg #[.slice A mf c, .int .i64 fu, .slice Ao mo co, .int .i64 dn, .int .i64 va], .int .i64 code]) ∧ mf ≤ c ∧ mo ≤ co ∧ ReadsS w' t A Ao ∧ Below w.heap.size w w'
theorem StateE.m {t : Stt} {code : Int} {w : World} {e : Ending} {w' : World} (h : StateE t code w e w') : StateM t t.frames.length t.out.length t.fuel t.done t.value code w e w' := by
  obtain ⟨fv, ov, vss, rfl, hO, hB⟩ := h
  have hsh := hO.out.shape
  obtain ⟨A, c, Ao, co, rfl, rfl, hc, hR⟩ := hO.reads
  obtain ⟨_, _, e, h2, _⟩ := hsh
  injection e with _ _ e3
  subst e3
  exact ⟨A, c, Ao, co, rfl, hc, h2, hR, hB⟩
theorem step_m {p : List Fn} {Ap A Ao : Option Addr} {cp c co np nf no mf mo : Nat} {s t : Stt} {fu dn va fu2 dn2 va2 code : Int} {w : World} (hl : Laid w) (hr : ReadsF w Ap p) (hs : ReadsS w s A Ao) (hc : nf ≤ c) (e1 : p.length = np) (e2 : s.frames.length = nf) (e3 : s.out.length = no) (e4 : s.fuel = fu) (e5 : s.done = dn) (e6 : s.value = va)
    (h1 : stepS p s = t) (h2 : stepC p s = code) (g1 : t.frames.length = mf) (g2 : t.out.length = mo) (g3 : t.fuel = fu2) (g4 : t.done = dn2) (g5 : t.value = va2) :
    Calls Tryz.prog 31 #[.agg #[.slice Ap np cp], .agg #[.slice A nf c, .int .i64 fu, .slice Ao no co, .int .i64 dn, .int .i64 va]] w (StateM t mf mo fu2 dn2 va2 code w) := by
  subst e1 e2 e3 e4 e5 e6 h1 h2 g1 g2 g3 g4 g5
  exact (step_any p Ap A Ao cp c co s w hl hr hs hc).mono fun e w' h => h.m
theorem rstart_m {p : List Fn} {Ap A : Option Addr} {cp c np na mf mo : Nat} {args : List Int} {fuel : Int} {t : Stt} {fu2 dn2 va2 code : Int} {w : World} (hr : ReadsF w Ap p) (ha : ReadsI w A args) (e1 : p.length = np) (e2 : args.length = na)
    (h1 : startS p args fuel = t) (h2 : startC p args fuel = code) (g1 : t.frames.length = mf) (g2 : t.out.length = mo) (g3 : t.fuel = fu2) (g4 : t.done = dn2) (g5 : t.value = va2) :
    Calls Tryz.prog 54 #[.agg #[.slice Ap np cp], .slice A na c, .int .i64 fuel] w (StateM t mf mo fu2 dn2 va2 code w) := by
  subst e1 e2 h1 h2 g1 g2 g3 g4 g5
  exact (rstart_any p Ap A cp c args fuel w hr ha).mono fun e w' h => h.m
theorem same_s {x y : Stt} {A Ao B Bo : Option Addr} {c co d dO n m k j : Nat} {f1 d1 v1 f2 d2 v2 : Int} {b : Bool} {w : World} (hx : ReadsS w x A Ao) (hy : ReadsS w y B Bo) (e1 : x.frames.length = n) (e2 : x.out.length = m) (e3 : y.frames.length = k) (e4 : y.out.length = j)
    (g1 : x.fuel = f1) (g2 : x.done = d1) (g3 : x.value = v1) (g4 : y.fuel = f2) (g5 : y.done = d2) (g6 : y.value = v2) (hb : decide (x = y) = b) :
    Calls Tryz.prog 33 #[.agg #[.slice A n c, .int .i64 f1, .slice Ao m co, .int .i64 d1, .int .i64 v1], .agg #[.slice B k d, .int .i64 f2, .slice Bo j dO, .int .i64 d2, .int .i64 v2]] w (Ret (.bool b) w) := by
  subst e1 e2 e3 e4 g1 g2 g3 g4 g5 g6 hb
  exact sameState_any x y A Ao B Bo c co d dO w hx hy
/-- No frames, no trace. -/
theorem reads_s0 {w : World} {A Ao : Option Addr} {s : Stt} (h1 : s.frames = []) (h2 : s.out = []) : ReadsS w s A Ao := by
  refine ⟨?_, ?_⟩
  · rw [h1]; exact ⟨by simp, fun h => absurd h (by simp)⟩
  · rw [h2]; exact ⟨by simp, fun h => absurd h (by simp)⟩
theorem reads_i0 {w : World} {A : Option Addr} : ReadsI w A [] := ⟨by simp, fun h => absurd h (by simp)⟩
/-- A frame of a row of cells. -/
theorem frm_at {w : World} {b j n1 n2 c1 c2 : Nat} {L S : Option Addr} {f : Frm} {cs : List Value} (h : RowAt 54 b cs w) (hj : j + 3 < cs.length) (e0 : cs[j] = .int .i64 f.fn) (e1 : cs[j + 1] = .int .i64 f.pc) (e2 : cs[j + 2] = .slice L n1 c1) (e3 : cs[j + 3] = .slice S n2 c2) (hl : ReadsI w L f.locals) (hs : ReadsI w S f.stack) (g1 : f.locals.length = n1) (g2 : f.stack.length = n2) :
    FrmAt w ⟨b, j, none⟩ f := by
  subst g1 g2
  have k0 := h.cell (k := j) (by omega)
  have k1 := h.cell (k := j + 1) (by omega)
  have k2 := h.cell (k := j + 2) (by omega)
  have k3 := h.cell (k := j + 3) (by omega)
  rw [e0] at k0
  rw [e1] at k1
  rw [e2] at k2
  rw [e3] at k3
  exact ⟨k0, k1, ⟨L, c1, k2, hl⟩, S, c2, k3, hs⟩
theorem frs1 {w : World} {b : Nat} {f : Frm} (h : FrmAt w ⟨b, 0, none⟩ f) : ReadsFr w (some ⟨b, 0, none⟩) [f] := ⟨by simp, fun _ => ⟨_, rfl, fun k hk => by
  obtain rfl : k = 0 := by simpa using hk
  exact h⟩⟩
theorem frs2 {w : World} {b : Nat} {f g : Frm} (h : FrmAt w ⟨b, 0, none⟩ f) (h2 : FrmAt w ⟨b, 4, none⟩ g) : ReadsFr w (some ⟨b, 0, none⟩) [f, g] := ⟨by simp, fun _ => ⟨_, rfl, fun k hk => by
  match k, hk with
  | 0, _ => exact h
  | 1, _ => exact h2⟩⟩
end Go.Proofs.YtjghibdlmmjobaaGreatDoor

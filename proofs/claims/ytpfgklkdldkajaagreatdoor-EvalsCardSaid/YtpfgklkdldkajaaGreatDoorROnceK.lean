/- What the document's 'once' goes through: plain definitions and lemmas. -/
import Derived.Test.YtpfgklkdldkajaaGreatDoorRInsA
import Derived.Test.YtpfgklkdldkajaaGreatDoorROver
import Derived.Test.YtpfgklkdldkajaaGreatDoorGZ27
namespace Go.Proofs.YtpfgklkdldkajaaGreatDoor
open Go.RowKit

/-- A call that turns a frame, beside a new place for what it tells: what holds while they come up in any order. -/
def RunPd (w : World) (base g off : Nat) (F : Frm) (v1 v2 : Value) (args : List Int) (z : List Value) (bc ba : Bool) (u va : Value) (xb : Nat) (W : World) : Prop :=
  (bc = false → Below w.heap.size w W) ∧ (bc = true → FTurn w W base g off F v1 v2 u ∧ InnAt W w.heap.size va (innI args) ∧ ∀ b, ob va = some b → ob u ≠ some b) ∧
    (ba = true → RowAt 151 xb z W ∧ w.heap.size ≤ xb ∧ (bc = true → ob u ≠ some xb ∧ ob va ≠ some xb))
section
variable {w W W' : World} {base g off xb : Nat} {f F : Frm} {v1 v2 u va u' va' : Value} {args : List Int} {z z' : List Value} {bc ba : Bool}
theorem RunPd.start (hb : Below w.heap.size w W) : RunPd w base g off F v1 v2 args z false false u va xb W := ⟨fun _ => hb, (fun e => by cases e), (fun e => by cases e)⟩
theorem RunPd.call (h : RunPd w base g off F v1 v2 args z false ba u va xb W) (hf : FAt w base g off f v1 v2) (ht : FTurn W W' base g off F v1 v2 u') (hi : InnAt W' W.heap.size va' (innI args)) (hd : ∀ b, ob va' = some b → ob u' ≠ some b) : RunPd w base g off F v1 v2 args z true ba u' va' xb W' := by
  have hb := h.1 rfl
  refine ⟨(fun e => by cases e), fun _ => ⟨FTurn.before hf hb ht, CRow.mono hi hb.size, hd⟩, fun e => ?_⟩
  obtain ⟨hr, hx, _⟩ := h.2.2 e
  have ap := hf.apart hx
  refine ⟨ht.row hr ap.1 ap.2.1 ap.2.2, hx, fun _ => ⟨fun e => ?_, fun e => ?_⟩⟩
  · rcases ht.new _ e with e | e
    · exact ap.2.2 e
    · have := blk_lt hr; omega
  · have := (CRow.in_ hi _ e).1; have := blk_lt hr; omega
theorem RunPd.alloc (h : RunPd w base g off F v1 v2 args z bc false u va xb W) : RunPd w base g off F v1 v2 args z bc true u va W.heap.size (W.alloc (.cells z.toArray 151)) := by
  have b := below_alloc (Below.refl W.heap.size W) (.cells z.toArray 151)
  refine ⟨fun e => below_trans (h.1 e) b, fun e => ?_, fun _ => ⟨RowAt.new _ _ _, ?_, fun e => ⟨fun e2 => ?_, fun e2 => ?_⟩⟩⟩
  · obtain ⟨h1, h2, h3⟩ := h.2.1 e
    exact ⟨h1.after b, CRow.below h2 b, h3⟩
  · cases bc with
    | false => exact (h.1 rfl).size
    | true => exact (h.2.1 rfl).1.chg.size
  · have := ((h.2.1 e).1.at_.lo2 _ e2).2; omega
  · have := (CRow.in_ (h.2.1 e).2.1 _ e2).2; omega
theorem RunPd.store (h : RunPd w base g off F v1 v2 args z true true u va xb W) (hf : FAt w base g off f v1 v2) (hk : Chg (fun b => b = xb) W W') (hr : RowAt 151 xb z' W') : RunPd w base g off F v1 v2 args z' true true u va xb W' := by
  obtain ⟨h1, h2, h3⟩ := h.2.1 rfl
  obtain ⟨h4, h5, h6⟩ := h.2.2 rfl
  obtain ⟨n1, n2⟩ := h6 rfl
  have ap := hf.apart h5
  exact ⟨(fun e => by cases e), fun _ => ⟨h1.past hk h5 ap.1 ap.2.1 n1, h2.chg1 hk n2, h3⟩, fun _ => ⟨hr, h5, fun _ => ⟨n1, n2⟩⟩⟩
theorem RunPd.row {t b : Nat} {cs : List Value} (h : RunPd w base g off F v1 v2 args z bc ba u va xb W) (hr : RowAt t b cs w) (hg : b ≠ g) (h1 : ob v1 ≠ some b) (h2 : ob v2 ≠ some b) : RowAt t b cs W := by
  cases bc with
  | false => exact hr.below (h.1 rfl)
  | true => exact (h.2.1 rfl).1.row hr hg h1 h2
end
/-- A call that answers a state, made of one of the call's own. -/
def OnceE (s' : Stt) (base : Nat) (fv ov : Value) (vss : List (List Value)) (w : World) (e : Ending) (w' : World) : Prop :=
  ∃ A c Ao co vss', e = .returned (.agg #[.slice A s'.frames.length c, .int .i64 s'.fuel, .slice Ao s'.out.length co, .int .i64 s'.done, .int .i64 s'.value]) ∧ OwnS w' base s' (.slice A s'.frames.length c) (.slice Ao s'.out.length co) vss' ∧
    Chg (fun b => FrB fv vss b ∨ ob ov = some b) w w' ∧ ∀ b, (FrB (.slice A s'.frames.length c) vss' b ∨ ob (.slice Ao s'.out.length co) = some b) → (FrB fv vss b ∨ ob ov = some b) ∨ w.heap.size ≤ b
/-- A state of the call's own is the answer. -/
theorem once_end {w w3 W W' : World} {base sb rb n m : Nat} {s2 : Stt} {A Ao : Option Addr} {c co : Nat} {fv ov : Value} {vss vss2 : List (List Value)} {fu dn va : Int} (b03 : Below w.heap.size w w3) (hsb : w.heap.size ≤ sb) (hrb : w.heap.size ≤ rb) (hr3 : rb < w3.heap.size)
    (hold : ∀ b, FrB fv vss b ∨ ob ov = some b → b < w.heap.size) (hO : OwnS W base s2 (.slice A n c) (.slice Ao m co) vss2) (hn : s2.frames.length = n) (hm : s2.out.length = m) (hf : s2.fuel = fu) (hd : s2.done = dn) (hv : s2.value = va) (hC : Chg (StB sb fv ov vss) w3 W)
    (hN : ∀ b, (FrB (.slice A n c) vss2 b ∨ ob (.slice Ao m co) = some b) → (FrB fv vss b ∨ ob ov = some b) ∨ w3.heap.size ≤ b) (hk : Chg (fun b => b = rb) W W') :
    OnceE s2 base fv ov vss w (.returned (.agg #[.slice A n c, .int .i64 fu, .slice Ao m co, .int .i64 dn, .int .i64 va])) W' := by
  subst hn hm hf hd hv
  have hne : ∀ b, (FrB (.slice A s2.frames.length c) vss2 b ∨ ob (.slice Ao s2.out.length co) = some b) → b ≠ rb := fun b hb e => by
    rcases hN b hb with h | h
    · have := hold b h; omega
    · omega
  refine ⟨A, c, Ao, co, vss2, rfl, ⟨OwnG.chg hO.fr hk (fun u hu b hb e => hne b (.inl ⟨u, hu, hb⟩) e), hO.out.chg hk (fun b hb e => hne b (.inr hb) e), hO.sep⟩, ?_, fun b hb => ?_⟩
  · have h1 : Chg (StB sb fv ov vss) w W := (Chg.of_below b03).trans hC (fun _ _ h => h)
    have h2 : Chg (fun b => StB sb fv ov vss b ∨ b = rb) w W' := (h1.mono (fun _ h => .inl h)).trans hk (fun _ _ h => .inr h)
    exact (Chg.cut h2).mono (fun b hb => by
      obtain ⟨h, hlt⟩ := hb
      rcases h with (h | h) | h
      · omega
      · exact h
      · omega)
  · rcases hN b hb with h | h
    · exact .inl h
    · exact .inr (Nat.le_trans b03.size h)
end Go.Proofs.YtpfgklkdldkajaaGreatDoor

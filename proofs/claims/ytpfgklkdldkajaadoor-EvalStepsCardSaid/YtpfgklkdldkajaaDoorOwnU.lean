/- Rows of structs of the call's own, of which the first ones alone have rows of their own. Plain lemmas. -/
import Derived.Test.YtpfgklkdldkajaaDoorGE10
namespace Go.Proofs.YtpfgklkdldkajaaDoor
open Go.RowKit

section
variable {α : Type} {K : Kind α} {w w1 w2 : World} {base : Nat} {v : Value} {xs : List α} {vss : List (List Value)}
/-- Structs of the call's own, of which the first m have rows of their own. -/
structure OwnU {α : Type} (K : Kind α) (w : World) (base : Nat) (v : Value) (xs : List α) (vss : List (List Value)) (m : Nat) : Prop where
  len : vss.length = xs.length
  row : CRow w base K.t K.sz v xs.length (List.zipWith K.cells xs vss).flatten
  inn : ∀ k (h : k < xs.length) (h' : k < vss.length), k < m → vss[k].length = (K.rows xs[k]).length ∧ ∀ j (hj : j < vss[k].length) (hj' : j < (K.rows xs[k]).length), InnAt w base vss[k][j] (K.rows xs[k])[j]
  one : ∀ k (h : k < vss.length) j (hj : j < vss[k].length) b, k < m → ob v = some b → ob vss[k][j] ≠ some b
  two : ∀ k (h : k < vss.length) j (hj : j < vss[k].length) k' (h' : k' < vss.length) j' (hj' : j' < vss[k'].length), k < m → k' < m → (k ≠ k' ∨ j ≠ j') → ∀ b, ob vss[k][j] = some b → ob vss[k'][j'] ≠ some b
theorem OwnU.done (h : OwnU K w base v xs vss xs.length) : OwnG K w base v xs vss :=
  ⟨h.len, h.row, fun k hk hk' => h.inn k hk hk' hk, ⟨fun k hk j hj b hb => h.one k hk j hj b (by have := h.len; omega) hb, fun k hk j hj k' hk' j' hj' hne b hb => h.two k hk j hj k' hk' j' hj' (by have := h.len; omega) (by have := h.len; omega) hne b hb⟩⟩
theorem OwnU.below {m : Nat} (h : OwnU K w base v xs vss m) (hb : Below w.heap.size w w1) : OwnU K w1 base v xs vss m :=
  ⟨h.len, h.row.below hb, fun k hk hk' hm => ⟨(h.inn k hk hk' hm).1, fun j hj hj' => CRow.below ((h.inn k hk hk' hm).2 j hj hj') hb⟩, h.one, h.two⟩
theorem OwnU.chg {S : Nat → Prop} {m : Nat} (h : OwnU K w base v xs vss m) (hk : Chg S w w1) (hs : ∀ b, S b → b < base) : OwnU K w1 base v xs vss m :=
  ⟨h.len, h.row.chg hk (fun b hb hS => by have := (h.row.in_ b hb).1; have := hs b hS; omega), fun k hk0 hk' hm => ⟨(h.inn k hk0 hk' hm).1, fun j hj hj' => CRow.chg ((h.inn k hk0 hk' hm).2 j hj hj') hk (fun b hb hS => by have := (CRow.in_ ((h.inn k hk0 hk' hm).2 j hj hj') b hb).1; have := hs b hS; omega)⟩, h.one, h.two⟩
theorem OwnU.step {m N : Nat} (h : OwnU K w base v xs vss m) (hm : m < xs.length) {us : List Value} (hch : Chg (fun b => ob v = some b) w w1) (hB : Build w1 N us (K.rows xs[m])) (hN : w.heap.size ≤ N) (hbN : base ≤ N)
    (hrow : CRow w1 base K.t K.sz v xs.length (List.zipWith K.cells xs (vss.set m us)).flatten) : OwnU K w1 base v xs (vss.set m us) (m + 1) := by
  have hl := h.len
  have hm' : m < vss.length := by omega
  have getm : (vss.set m us)[m]'(by simpa using hm') = us := List.getElem_set_self _
  have getn : ∀ i (hi : i < (vss.set m us).length), i ≠ m → (vss.set m us)[i] = vss[i]'(by simpa using hi) := fun i hi hne => List.getElem_set_ne (fun e => hne e.symm) _
  have ulo : ∀ j (hj : j < us.length) b, ob us[j] = some b → N ≤ b := fun j hj b hb => by
    have hj' : j < (K.rows xs[m]).length := by rw [← hB.len]; exact hj
    exact (CRow.in_ (hB.inn j hj hj') b hb).1
  have old : ∀ i (hi : i < vss.length) j (hj : j < vss[i].length) b, i < m → ob vss[i][j] = some b → b < w.heap.size := fun i hi j hj b him hb => by
    obtain ⟨e, hin⟩ := h.inn i (by omega) hi him
    exact (CRow.in_ (hin j hj (by omega)) b hb).2
  refine ⟨by simpa using hl, hrow, fun i hi hi' him => ?_, fun i hi j hj b him hb => ?_, fun i hi j hj i' hi' j' hj' him him' hne b hb => ?_⟩
  · by_cases hne : i = m
    · subst hne
      simp only [getm]
      exact ⟨hB.len, fun j hj hj' => CRow.mono (hB.inn j hj hj') hbN⟩
    · have ev := getn i hi' hne
      simp only [ev]
      obtain ⟨e, hin⟩ := h.inn i hi (by simpa using hi') (by omega)
      exact ⟨e, fun j hj hj' => CRow.chg (hin j hj hj') hch (fun b hb hs => h.one i (by simpa using hi') j hj b (by omega) hs hb)⟩
  · by_cases hne : i = m
    · have ei : (vss.set m us)[i] = us := by subst hne; exact getm
      obtain ⟨hj2, ej⟩ := get_cast ei hj
      rw [ej]
      intro hb2
      have := ulo j hj2 b hb2
      have := (h.row.in_ b hb).2
      omega
    · obtain ⟨hj2, ej⟩ := get_cast (getn i hi hne) hj
      rw [ej]
      exact h.one i (by simpa using hi) j hj2 b (by omega) hb
  · by_cases hik : i = m
    · have ei : (vss.set m us)[i] = us := by subst hik; exact getm
      obtain ⟨hj2, ej⟩ := get_cast ei hj
      rw [ej] at hb
      have hge := ulo j hj2 b hb
      by_cases hik' : i' = m
      · have ei' : (vss.set m us)[i'] = us := by subst hik'; exact getm
        obtain ⟨hj3, ej'⟩ := get_cast ei' hj'
        rw [ej']
        exact hB.self j hj2 j' hj3 (hne.resolve_left (fun h => h (hik.trans hik'.symm))) b hb
      · obtain ⟨hj3, ej'⟩ := get_cast (getn i' hi' hik') hj'
        rw [ej']
        intro hb2
        have := old i' (by simpa using hi') j' hj3 b (by omega) hb2
        omega
    · obtain ⟨hj2, ej⟩ := get_cast (getn i hi hik) hj
      rw [ej] at hb
      have hlt := old i (by simpa using hi) j hj2 b (by omega) hb
      by_cases hik' : i' = m
      · have ei' : (vss.set m us)[i'] = us := by subst hik'; exact getm
        obtain ⟨hj3, ej'⟩ := get_cast ei' hj'
        rw [ej']
        intro hb2
        have := ulo j' hj3 b hb2
        omega
      · obtain ⟨hj3, ej'⟩ := get_cast (getn i' hi' hik') hj'
        rw [ej']
        exact h.two i (by simpa using hi) j hj2 i' (by simpa using hi') j' hj3 (by omega) (by omega) hne b hb
/-- An element's cells. -/
theorem OwnU.cell {m : Nat} {ao : Option Addr} {n cap : Nat} (h : OwnU K w base (.slice ao n cap) xs vss m) (hs : 0 < K.sz) {k : Nat} (hk : k < xs.length) :
    ∃ g off, ao = some ⟨g, off, none⟩ ∧ base ≤ g ∧ g < w.heap.size ∧ ob (.slice ao n cap) = some g ∧ ∀ k (hk : k < xs.length) (hk' : k < vss.length) j (hj : j < (K.cells xs[k] vss[k]).length), w.cell? ⟨g, off + k * K.sz + j, none⟩ = some (K.cells xs[k] vss[k])[j] ∧ w.frozen? ⟨g, off + k * K.sz + j, none⟩ = false := by
  have hl := h.len
  have ho := h.row.own (by omega)
  obtain ⟨ao', cap', e, hnc, _⟩ := ho.shape
  injection e with e1 e2 e3
  subst e1 e2 e3
  have hz : (List.zipWith K.cells xs vss).length = xs.length := by simp [hl]
  obtain ⟨g, off, rfl, h1, h2, hc⟩ := ho.elt (zip_len K xs vss) hs (i := k) (by omega)
  refine ⟨g, off, rfl, h1, h2, ob_some (by omega), fun k hk hk' j hj => ?_⟩
  have := hc k (by omega) j (by rw [List.getElem_zipWith]; exact hj)
  simp only [List.getElem_zipWith] at this
  simpa only [Nat.add_assoc] using this
end
end Go.Proofs.YtpfgklkdldkajaaDoor

/- Rows of structs of the call's own, whose fields hold rows of their own: read, written, appended to, cut. Plain definitions and lemmas. Rows of structs of the call's own: an element written anew, an element built and appended. Plain lemmas. What heights that were reckoned have: each pc that is reached has what it takes and leaves to each one next to it what that has. Plain law; no program in sight. -/
import Derived.Test.YtpfgklkdldkajaaDoorGE09
namespace Go.Proofs.YtpfgklkdldkajaaDoor
open Go.RowKit

/-- The block of a slice that has room. -/
def ob : Value → Option Nat
  | .slice (some a) _ (_ + 1) => some a.block
  | _ => none
theorem ob_own {v : Value} {b : Nat} (h : ob v = some b) : v.ownBlock = some b := by
  unfold ob at h
  split at h
  · cases h; rfl
  · cases h
/-- A row of the call's own, or an empty one without room. -/
def CRow (w : World) (base t sz : Nat) (v : Value) (n : Nat) (cs : List Value) : Prop :=
  ORow w base t sz v n cs ∨ (n = 0 ∧ cs = [] ∧ ∃ ao, v = .slice ao 0 0)
theorem CRow.len {w : World} {base t sz n : Nat} {v : Value} {cs : List Value} (h : CRow w base t sz v n cs) : cs.length = n * sz := by
  rcases h with h | ⟨rfl, rfl, _⟩
  · exact h.len
  · simp
theorem CRow.shape {w : World} {base t sz n : Nat} {v : Value} {cs : List Value} (h : CRow w base t sz v n cs) : ∃ ao cap, v = .slice ao n cap ∧ n ≤ cap ∧ cap ≤ maxLen := by
  rcases h with h | ⟨rfl, rfl, ao, rfl⟩
  · exact h.shape
  · exact ⟨ao, 0, rfl, Nat.le_refl _, by decide⟩
theorem CRow.own {w : World} {base t sz n : Nat} {v : Value} {cs : List Value} (h : CRow w base t sz v n cs) (hn : 0 < n) : ORow w base t sz v n cs := by
  rcases h with h | ⟨rfl, _⟩
  · exact h
  · omega
theorem CRow.in_ {w : World} {base t sz n : Nat} {v : Value} {cs : List Value} (h : CRow w base t sz v n cs) : ∀ b, ob v = some b → base ≤ b ∧ b < w.heap.size := fun b hb => by
  rcases h with h | ⟨rfl, rfl, ao, rfl⟩
  · exact h.in_ b (ob_own hb)
  · cases ao <;> cases hb
theorem CRow.chg {S : Nat → Prop} {w w1 : World} {base t sz n : Nat} {v : Value} {cs : List Value} (h : CRow w base t sz v n cs) (hk : Chg S w w1) (ha : ∀ b, ob v = some b → ¬ S b) : CRow w1 base t sz v n cs := by
  rcases h with h | h
  · obtain ⟨ao, cap, e, h1, h2⟩ := h.shape
    cases cap with
    | zero =>
      obtain rfl : n = 0 := by omega
      exact .inr ⟨rfl, List.eq_nil_of_length_eq_zero (by simpa using h.len), ao, e⟩
    | succ cap =>
      refine .inl (h.chg hk fun b hb => ha b ?_)
      subst e
      cases ao with
      | none => cases hb
      | some a => exact hb
  · exact .inr h
theorem CRow.below {w w1 : World} {base t sz n : Nat} {v : Value} {cs : List Value} (h : CRow w base t sz v n cs) (hb : Below w.heap.size w w1) : CRow w1 base t sz v n cs :=
  h.chg (S := fun _ => False) (Chg.of_below hb) (fun _ _ h => h)
theorem CRow.mono {w : World} {base base' t sz n : Nat} {v : Value} {cs : List Value} (h : CRow w base t sz v n cs) (hb : base' ≤ base) : CRow w base' t sz v n cs := by
  rcases h with h | h
  · exact .inl (h.mono hb)
  · exact .inr h
theorem CRow.ints {w : World} {base n cap : Nat} {ao : Option Addr} {xs : List Int} (h : CRow w base 3 1 (.slice ao n cap) n (intsV xs)) : ReadsI w ao xs := by
  rcases h with h | ⟨rfl, h, _⟩
  · exact h.ints.2
  · have : xs = [] := by cases xs with
      | nil => rfl
      | cons x xs => simp [intsV] at h
    subst this
    exact ⟨by simp, fun h => absurd h (by simp)⟩
theorem CRow.nil (w : World) (base t sz : Nat) : CRow w base t sz (.slice none 0 0) 0 [] := .inl (ORow.nil _ _ _ _)

/-- A row within a struct's field: its element's type and size, how many, its cells. -/
structure Inn where
  t : Nat
  sz : Nat
  n : Nat
  cs : List Value
def innI (xs : List Int) : Inn := ⟨3, 1, xs.length, intsV xs⟩
def InnAt (w : World) (base : Nat) (v : Value) (r : Inn) : Prop := CRow w base r.t r.sz v r.n r.cs
/-- No two of them share a block. -/
structure Sep (v : Value) (vss : List (List Value)) : Prop where
  one : ∀ k (h : k < vss.length) j (hj : j < vss[k].length) b, ob v = some b → ob vss[k][j] ≠ some b
  two : ∀ k (h : k < vss.length) j (hj : j < vss[k].length) k' (h' : k' < vss.length) j' (hj' : j' < vss[k'].length), (k ≠ k' ∨ j ≠ j') → ∀ b, ob vss[k][j] = some b → ob vss[k'][j'] ≠ some b
/-- What is of one struct: cells out of its fields and its rows' values; its rows. -/
structure Kind (α : Type) where
  t : Nat
  sz : Nat
  m : Nat
  cells : α → List Value → List Value
  rows : α → List Inn
  len : ∀ x vs, (cells x vs).length = sz
/-- Structs of the call's own, each with rows of its own; no block is shared. -/
structure OwnG {α : Type} (K : Kind α) (w : World) (base : Nat) (v : Value) (xs : List α) (vss : List (List Value)) : Prop where
  len : vss.length = xs.length
  row : CRow w base K.t K.sz v xs.length (List.zipWith K.cells xs vss).flatten
  inn : ∀ k (h : k < xs.length) (h' : k < vss.length), vss[k].length = (K.rows xs[k]).length ∧ ∀ j (hj : j < vss[k].length) (hj' : j < (K.rows xs[k]).length), InnAt w base vss[k][j] (K.rows xs[k])[j]
  sep : Sep v vss
section
variable {α : Type} {K : Kind α} {w w1 : World} {base : Nat} {v : Value} {xs : List α} {vss : List (List Value)}
theorem zip_len (K : Kind α) (xs : List α) (vss : List (List Value)) : ∀ l ∈ List.zipWith K.cells xs vss, l.length = K.sz := fun l hl => by
  obtain ⟨i, hi, rfl⟩ := List.mem_iff_getElem.1 hl
  rw [List.getElem_zipWith]; exact K.len _ _
theorem OwnG.chg {S : Nat → Prop} (h : OwnG K w base v xs vss) (hk : Chg S w w1) (ha : ∀ u ∈ v :: vss.flatten, ∀ b, ob u = some b → ¬ S b) : OwnG K w1 base v xs vss where
  len := h.len
  row := h.row.chg hk (ha v (by simp))
  inn := fun k hk0 hk' => ⟨(h.inn k hk0 hk').1, fun j hj hj' => CRow.chg ((h.inn k hk0 hk').2 j hj hj') hk (ha _ (List.mem_cons_of_mem _ (List.mem_flatten.2 ⟨_, List.getElem_mem hk', List.getElem_mem hj⟩)))⟩
  sep := h.sep
theorem OwnG.below (h : OwnG K w base v xs vss) (hb : Below w.heap.size w w1) : OwnG K w1 base v xs vss := h.chg (S := fun _ => False) (Chg.of_below hb) (fun _ _ _ _ h => h)
theorem OwnG.mono {base' : Nat} (h : OwnG K w base v xs vss) (hb : base' ≤ base) : OwnG K w base' v xs vss :=
  ⟨h.len, h.row.mono hb, fun k hk hk' => ⟨(h.inn k hk hk').1, fun j hj hj' => CRow.mono ((h.inn k hk hk').2 j hj hj') hb⟩, h.sep⟩
/-- All blocks lie from the base on. -/
theorem OwnG.lo (h : OwnG K w base v xs vss) : ∀ u ∈ v :: vss.flatten, ∀ b, ob u = some b → base ≤ b ∧ b < w.heap.size := fun u hu b hb => by
  rcases List.mem_cons.1 hu with rfl | hu
  · exact h.row.in_ b hb
  · obtain ⟨l, hl, hul⟩ := List.mem_flatten.1 hu
    obtain ⟨k, hk, rfl⟩ := List.mem_iff_getElem.1 hl
    obtain ⟨j, hj, rfl⟩ := List.mem_iff_getElem.1 hul
    have hk0 : k < xs.length := by rw [← h.len]; exact hk
    obtain ⟨e, hi⟩ := h.inn k hk0 hk
    exact CRow.in_ (hi j hj (by omega)) b hb
/-- An element's cells. -/
theorem OwnG.cell {ao : Option Addr} {n cap : Nat} (h : OwnG K w base (.slice ao n cap) xs vss) (hs : 0 < K.sz) {k : Nat} (hk : k < xs.length) :
    ∃ g off, ao = some ⟨g, off, none⟩ ∧ base ≤ g ∧ g < w.heap.size ∧ ob (.slice ao n cap) = some g ∧ ∀ k (hk : k < xs.length) (hk' : k < vss.length) j (hj : j < (K.cells xs[k] vss[k]).length), w.cell? ⟨g, off + k * K.sz + j, none⟩ = some (K.cells xs[k] vss[k])[j] ∧ w.frozen? ⟨g, off + k * K.sz + j, none⟩ = false := by
  have hl := h.len
  have ho := h.row.own (by omega)
  obtain ⟨ao', cap', e, hnc, _⟩ := ho.shape
  injection e with e1 e2 e3
  subst e1 e2 e3
  have hz : (List.zipWith K.cells xs vss).length = xs.length := by simp [hl]
  obtain ⟨g, off, rfl, h1, h2, hc⟩ := ho.elt (zip_len K xs vss) hs (i := k) (by omega)
  refine ⟨g, off, rfl, h1, h2, ?_, fun k hk hk' j hj => ?_⟩
  · obtain ⟨c, rfl⟩ : ∃ c, cap = c + 1 := ⟨cap - 1, by omega⟩
    rfl
  · have := hc k (by omega) j (by rw [List.getElem_zipWith]; exact hj)
    simp only [List.getElem_zipWith] at this
    simpa only [Nat.add_assoc] using this
theorem flat_set {L : List (List Value)} {s : Nat} (hL : ∀ l ∈ L, l.length = s) {i j : Nat} (hi : i < L.length) (hj : j < s) (u : Value) : L.flatten.set (i * s + j) u = (L.set i (L[i].set j u)).flatten := by
  induction L generalizing i with
  | nil => exact absurd hi (by simp)
  | cons x L ih =>
    have hx := hL x (by simp)
    cases i with
    | zero =>
      simp only [Nat.zero_mul, Nat.zero_add, List.flatten_cons, List.set_cons_zero, List.getElem_cons_zero]
      rw [List.set_append_left _ _ (by omega)]
    | succ i =>
      have e : (i + 1) * s + j = x.length + (i * s + j) := by rw [Nat.succ_mul, hx]; omega
      simp only [List.flatten_cons, List.set_cons_succ, List.getElem_cons_succ]
      rw [e, List.set_append_right _ _ (by omega), Nat.add_sub_cancel_left, ih (fun l hl => hL l (by simp [hl])) (by simpa using hi)]
theorem zip_set (K : Kind α) {k : Nat} (hk : k < xs.length) (hl : vss.length = xs.length) (x : α) (vs : List Value) : (List.zipWith K.cells xs vss).set k (K.cells x vs) = List.zipWith K.cells (xs.set k x) (vss.set k vs) := by
  induction xs generalizing k vss with
  | nil => exact absurd hk (by simp)
  | cons y xs ih =>
    cases vss with
    | nil => simp at hl
    | cons us vss =>
      cases k with
      | zero => simp
      | succ k => simp [ih (by simpa using hk) (by simpa using hl)]
/-- A field that is written: the element reads as its fields do. -/
theorem OwnG.put {g off n cap : Nat} (h : OwnG K w base (.slice (some ⟨g, off, none⟩) n cap) xs vss) {k j : Nat} (hk : k < xs.length) (hk' : k < vss.length) (hj : j < K.sz) (u : Value) (x : α) (hx : K.cells x vss[k] = (K.cells xs[k] vss[k]).set j u) (hr : K.rows x = K.rows xs[k]) :
    OwnG K (w.setCell ⟨g, off + k * K.sz + j, none⟩ u) base (.slice (some ⟨g, off, none⟩) n cap) (xs.set k x) vss := by
  have hl := h.len
  have ho := h.row.own (by omega)
  obtain ⟨ao', cap', e, hnc, _⟩ := ho.shape
  injection e with e1 e2 e3
  subst e2 e3
  have hzl : (List.zipWith K.cells xs vss).length = xs.length := by simp [hl]
  have hfl := flat_len (zip_len K xs vss)
  have hkk : k * K.sz + j < (List.zipWith K.cells xs vss).flatten.length := by
    rw [hfl, hzl]
    have : k * K.sz + K.sz ≤ xs.length * K.sz := by rw [← Nat.succ_mul]; exact Nat.mul_le_mul_right _ hk
    omega
  have hp := ho.put (k * K.sz + j) u hkk
  rw [flat_set (zip_len K xs vss) (by omega) hj] at hp
  simp only [List.getElem_zipWith] at hp
  rw [← hx, zip_set K hk hl, List.set_getElem_self, ← Nat.add_assoc] at hp
  have hob : ob (.slice (some ⟨g, off, none⟩) xs.length cap) = some g := by
    obtain ⟨c, rfl⟩ : ∃ c, cap = c + 1 := ⟨cap - 1, by omega⟩
    rfl
  have hch : Chg (fun b => b = g) w (w.setCell ⟨g, off + k * K.sz + j, none⟩ u) := Chg.put (S := fun b => b = g) (Chg.refl _ w) (a := ⟨g, off + k * K.sz + j, none⟩) rfl u
  refine ⟨by simpa using hl, by rw [List.length_set]; exact .inl hp, fun i hi hi' => ?_, h.sep⟩
  have hi0 : i < xs.length := by simpa using hi
  obtain ⟨e, hin⟩ := h.inn i hi0 hi'
  have er : K.rows ((xs.set k x)[i]) = K.rows xs[i] := by
    rw [List.getElem_set]
    split
    · rename_i ek; subst ek; exact hr
    · rfl
  refine ⟨by rw [e, er], fun j' hj' hj'' => ?_⟩
  have hjr : j' < (K.rows xs[i]).length := by omega
  have hh := CRow.chg (hin j' hj' hjr) hch (fun b hb ebg => by
    subst ebg
    exact h.sep.one i hi' j' hj' b hob hb)
  have e2 : (K.rows ((xs.set k x)[i]))[j'] = (K.rows xs[i])[j'] := by simp only [er]
  rw [e2]; exact hh
/-- A row within a field that was written over: the others stay. -/
theorem OwnG.turn {k j : Nat} (h : OwnG K w base v xs vss) (hk : k < xs.length) (hk' : k < vss.length) (hj : j < vss[k].length) (x : α) (r : Inn) (hch : Chg (fun b => ob vss[k][j] = some b) w w1) (hi : InnAt w1 base vss[k][j] r)
    (hx : K.cells x vss[k] = K.cells xs[k] vss[k]) (hr : K.rows x = (K.rows xs[k]).set j r) : OwnG K w1 base v (xs.set k x) vss := by
  have hl := h.len
  have hz : List.zipWith K.cells (xs.set k x) vss = List.zipWith K.cells xs vss := by
    rw [show vss = vss.set k vss[k] by rw [List.set_getElem_self], ← zip_set K hk hl]
    simp only [List.set_getElem_self]
    rw [hx, show K.cells xs[k] vss[k] = (List.zipWith K.cells xs vss)[k]'(by simp; omega) by simp, List.set_getElem_self]
  refine ⟨by simpa using hl, ?_, fun i hi0 hi' => ?_, h.sep⟩
  · rw [List.length_set, hz]
    exact h.row.chg hch (fun b hb hb2 => h.sep.one k hk' j hj b hb hb2)
  · have hi1 : i < xs.length := by simpa using hi0
    obtain ⟨e, hin⟩ := h.inn i hi1 hi'
    by_cases eik : i = k
    · subst eik
      have er : K.rows ((xs.set i x)[i]) = (K.rows xs[i]).set j r := by rw [List.getElem_set_self, hr]
      refine ⟨by rw [e, er, List.length_set], fun q hq hq' => ?_⟩
      have e2 : (K.rows ((xs.set i x)[i]))[q] = ((K.rows xs[i]).set j r)[q]'(by rw [List.length_set]; omega) := by simp only [er]
      rw [e2, List.getElem_set]
      split
      · rename_i ejq; subst ejq; exact hi
      · rename_i ejq
        exact CRow.chg (hin q hq (by omega)) hch (fun b hb hb2 => h.sep.two i hi' q hq i hi' j hj (.inr (fun e => ejq e.symm)) b hb hb2)
    · have er : (xs.set k x)[i] = xs[i] := List.getElem_set_ne (fun e => eik e.symm) _
      refine ⟨by rw [er]; exact e, fun q hq hq' => ?_⟩
      have e2 : (K.rows ((xs.set k x)[i]))[q] = (K.rows xs[i])[q]'(by omega) := by simp only [er]
      rw [e2]
      exact CRow.chg (hin q hq (by omega)) hch (fun b hb hb2 => h.sep.two i hi' q hq k hk' j hj (.inl eik) b hb hb2)
/-- Behind 'append': what the row is, what stays. -/
structure GrownC (w : World) (base t sz : Nat) (v : Value) (n : Nat) (cs : List Value) (v' : Value) (w' : World) : Prop where
  row : CRow w' base t sz v' n cs
  kept : w.grownBy w' (ob v)
  at_ : ∀ b, ob v' = some b → ob v = some b ∨ w.heap.size ≤ b
theorem GrownC.chg {t sz n : Nat} {cs : List Value} {v' : Value} (h : GrownC w base t sz v n cs v' w1) : Chg (fun b => ob v = some b) w w1 := Chg.of_grown h.kept (fun _ e => e)
theorem run_append_crow {P : Program} (w : World) (ts t tx ty : TypeId) (i : TypeInfo) (z : Value) (sz bytes : Nat) (hts : P.underlying ts = some (.slice t)) (hi : P.info? t = some i) (hz : i.zero = some z) (hsz : i.size = sz) (hby : i.bytes = bytes) (hzs : z.cells.size = sz)
    (base : Nat) (ao : Option Addr) (n cap : Nat) (cs : List Value) (hq : CRow w base t sz (.slice ao n cap) n cs) (hbase : base ≤ w.heap.size) (x : Value) (m : Nat) (news : List Value) (hs : Src P sz tx x m news w) (hlen : (n + m) * bytes ≤ 140737488355328) (hmax : n + m ≤ maxLen) :
    ∃ v' w', (Builtin.append_ #[ts, tx] ty #[.slice ao n cap, x]).run P w = .ok v' w' ∧ GrownC w base t sz (.slice ao n cap) (n + m) (cs ++ news) v' w' := by
  by_cases hc : cap = 0
  · have hn0 : n = 0 := by
      obtain ⟨_, _, e, h1, _⟩ := hq.shape
      injection e with e1 e2 e3
      omega
    subst hc hn0
    obtain rfl : cs = [] := List.eq_nil_of_length_eq_zero (by simpa using hq.len)
    subst hsz hby
    have hob : ob (.slice ao 0 0) = none := by cases ao <;> rfl
    have old : ∀ W : World, (Builtin.firstCells i.size 0 (.slice ao 0 0)).run P W = .ok ([] : List Value).toArray W := fun W => by
      cases ao with
      | none => exact run_firstCells_none W i.size 0 0 0
      | some a => exact run_firstCells_some W i.size 0 _ 0 0 [] (by simp) (fun j u hu => by simp at hu)
    by_cases hm : m = 0
    · subst hm
      obtain rfl : news = [] := List.eq_nil_of_length_eq_zero (by simpa using hs.newsLen)
      have := run_append_nothing (P := P) w ts tx ty t i hts hi ao 0 0 (by omega) x hs
      exact ⟨_, _, this, .inr ⟨rfl, rfl, ao, rfl⟩, ⟨rfl, rfl, rfl, Nat.le_refl _, fun _ _ _ => rfl⟩, fun b hb => .inl hb⟩
    · have hrun := run_append_grow_src (P := P) w ts tx ty t i z hts hi hz ao 0 0 [] (old w.drew) x m news hs (by omega) (by unfold maxLen at hmax; omega) (growslice_fits (by omega) hlen)
      have hge := grownCap_ge w (0 + m) 0 t
      have hcm := grownCap_le_maxLen w (0 + m) 0 t hmax
      have hl : ([] ++ news).length = (0 + m) * i.size := by rw [List.nil_append, hs.newsLen, Nat.zero_add]
      have hle : (0 + m) * i.size ≤ grownCap w (0 + m) 0 t * i.size := Nat.mul_le_mul_right _ hge
      refine ⟨_, _, hrun, .inl ⟨some ⟨w.heap.size, 0, none⟩, _, rfl, hge, hcm, hl, (fun e => by cases e), (fun a e => by cases e; exact ⟨hbase, by simp⟩), fun _ => ⟨w.heap.size, 0, _, rfl, heap_alloc_new w.drew _, ?_, fun k hk => ?_⟩⟩, ⟨rfl, rfl, rfl, by simp, fun k hk _ => heap_alloc_old w.drew _ hk⟩, fun b hb => ?_⟩
      · simp only [Array.size_append, List.size_toArray, size_zeroCells, hzs, hl, ← Nat.add_mul]
        rw [Nat.zero_add, show 0 + m + (grownCap w (0 + m) 0 t - (0 + m)) = grownCap w (0 + m) 0 t by omega]
        exact Nat.le_refl _
      · rw [Nat.zero_add, Array.getElem?_append_left (by simpa using hk)]
        simp
      · have := ob_own hb
        cases this
        exact .inr (Nat.le_refl _)
  · have ho : ORow w base t sz (.slice ao n cap) n cs := by
      rcases hq with h | ⟨_, _, ao', e⟩
      · exact h
      · injection e with e1 e2 e3; omega
    obtain ⟨v', w', hrun, hg⟩ := run_append_row (P := P) w ts t tx ty i z sz bytes hts hi hz hsz hby hzs base ao n cap cs ho hbase x m news hs hlen hmax
    have hob : ob (.slice ao n cap) = (Value.slice ao n cap).ownBlock := by
      obtain ⟨c, rfl⟩ : ∃ c, cap = c + 1 := ⟨cap - 1, by omega⟩
      cases ao <;> rfl
    refine ⟨v', w', hrun, .inl hg.row, by rw [hob]; exact hg.kept, fun b hb => ?_⟩
    have hb' := ob_own hb
    rcases hg.at_ with e | ⟨g, e, hgg⟩
    · exact .inl (by rw [hob, ← e]; exact hb')
    · rw [e] at hb'; cases hb'; exact .inr hgg
theorem wpList_append_crow {P : Program} {ops : Array Oper} {rest : List Oper} {o : Oper} {a : Act} {Q : Exit → Act → World → Prop} (w : World) (hg : o.guard = none) (s x : Operand) (ts tx t : TypeId)
    (hop : o.op = Op.call { callee := Callee.builtin Builtin.append, args := #[s, x], argTypes := #[ts, tx] }) (i : TypeInfo) (z : Value) (sz bytes : Nat) (hts : P.underlying ts = some (.slice t)) (hi : P.info? t = some i) (hz : i.zero = some z) (hsz : i.size = sz) (hby : i.bytes = bytes) (hzs : z.cells.size = sz)
    (base : Nat) (v : Value) (n : Nat) (cs : List Value) (hs : a.eval s = v) (hq : CRow w base t sz v n cs) (hbase : base ≤ w.heap.size)
    (xv : Value) (m : Nat) (news : List Value) (hx : a.eval x = xv) (hsrc : Src P sz tx xv m news w) (hlen : (n + m) * bytes ≤ 140737488355328) (hmax : n + m ≤ maxLen)
    (h : ∀ v' w', GrownC w base t sz v (n + m) (cs ++ news) v' w' → wpList P ops Q rest (a.put o.dst v') w') : wpList P ops Q (o :: rest) a w := by
  refine wpList_plain hg fun K hK' => ?_
  obtain ⟨ao, cap, rfl, _, _⟩ := hq.shape
  obtain ⟨v', w', hrun, r⟩ := run_append_crow (P := P) w ts t tx o.type i z sz bytes hts hi hz hsz hby hzs base ao n cap cs hq hbase xv m news hsrc hlen hmax
  unfold Oper.wp
  simp [execOp, hop, resolve, invoke, builtin, hs, hx, hrun, Result.andThen]
  exact hK' _ _ (h v' w' r)
/-- An element more. -/
theorem OwnG.grow {v' : Value} {x : α} {vs : List Value} (h : OwnG K w base v xs vss) (hG : GrownC w base K.t K.sz v (xs.length + 1) ((List.zipWith K.cells xs vss).flatten ++ K.cells x vs) v' w1)
    (hvl : vs.length = (K.rows x).length) (hin : ∀ j (hj : j < vs.length) (hj' : j < (K.rows x).length), InnAt w base vs[j] (K.rows x)[j])
    (hov : ∀ j (hj : j < vs.length) b, ob vs[j] = some b → ob v ≠ some b) (hself : ∀ j (hj : j < vs.length) j' (hj' : j' < vs.length), j ≠ j' → ∀ b, ob vs[j] = some b → ob vs[j'] ≠ some b)
    (hother : ∀ j (hj : j < vs.length) b, ob vs[j] = some b → ∀ k (hk : k < vss.length) q (hq : q < vss[k].length), ob vss[k][q] ≠ some b) : OwnG K w1 base v' (xs ++ [x]) (vss ++ [vs]) := by
  have hl := h.len
  have hch := hG.chg
  have far : ∀ {u : Value} {r : Inn}, InnAt w base u r → (∀ b, ob u = some b → ob v ≠ some b) → InnAt w1 base u r ∧ ∀ b, ob v' = some b → ob u ≠ some b := fun {u r} hu hne =>
    ⟨CRow.chg hu hch (fun b hb e => hne b hb e), fun b hb hub => by
      rcases hG.at_ b hb with e | e
      · exact hne b hub e
      · have := (CRow.in_ hu b hub).2; omega⟩
  refine ⟨by simp [hl], ?_, fun k hk hk' => ?_, ?_⟩
  · have := hG.row
    rw [List.length_append, List.zipWith_append hl.symm, List.flatten_append]
    simpa using this
  · rcases Nat.lt_or_ge k xs.length with hlt | hge
    · have hlt' : k < vss.length := by omega
      have e1 : (vss ++ [vs])[k] = vss[k] := List.getElem_append_left hlt'
      have e2 : (xs ++ [x])[k] = xs[k] := List.getElem_append_left hlt
      obtain ⟨e, hi⟩ := h.inn k hlt hlt'
      simp only [e1, e2]
      exact ⟨e, fun j hj hj' => (far (hi j hj hj') (fun b hb e => h.sep.one k hlt' j hj b e hb)).1⟩
    · have hkx : k = xs.length := by rw [List.length_append] at hk; simp at hk; omega
      have e1 : (vss ++ [vs])[k]'hk' = vs := by rw [List.getElem_append_right (by omega)]; simp [hl, hkx]
      have e2 : (xs ++ [x])[k] = x := by rw [List.getElem_append_right (by omega)]; simp [hkx]
      simp only [e1, e2]
      exact ⟨hvl, fun j hj hj' => (far (hin j hj hj') (fun b hb e => hov j hj b hb e)).1⟩
  · have get : ∀ k (hk : k < (vss ++ [vs]).length), (∃ hlt : k < vss.length, (vss ++ [vs])[k] = vss[k]) ∨ (k = vss.length ∧ (vss ++ [vs])[k] = vs) := fun k hk => by
      rcases Nat.lt_or_ge k vss.length with hlt | hge
      · exact .inl ⟨hlt, List.getElem_append_left hlt⟩
      · have hkx : k = vss.length := by rw [List.length_append] at hk; simp at hk; omega
        exact .inr ⟨hkx, by rw [List.getElem_append_right (by omega)]; simp [hkx]⟩
    constructor
    · intro k hk j hj b hb
      rcases get k hk with ⟨hlt, e⟩ | ⟨_, e⟩
      · simp only [e] at hj ⊢
        obtain ⟨_, hi⟩ := h.inn k (by omega) hlt
        exact (far (hi j hj (by omega)) (fun b hb e => h.sep.one k hlt j hj b e hb)).2 b hb
      · simp only [e] at hj ⊢
        exact (far (hin j hj (by omega)) (fun b hb e => hov j hj b hb e)).2 b hb
    · intro k hk j hj k' hk' j' hj' hne b hb
      rcases get k hk with ⟨hlt, e⟩ | ⟨ek, e⟩ <;> rcases get k' hk' with ⟨hlt', e'⟩ | ⟨ek', e'⟩
      · simp only [e] at hj hb; simp only [e'] at hj' ⊢
        exact h.sep.two k hlt j hj k' hlt' j' hj' hne b hb
      · simp only [e] at hj hb; simp only [e'] at hj' ⊢
        exact fun hb' => hother j' hj' b hb' k hlt j hj hb
      · simp only [e] at hj hb; simp only [e'] at hj' ⊢
        exact hother j hj b hb k' hlt' j' hj'
      · simp only [e] at hj hb; simp only [e'] at hj' ⊢
        exact hself j hj j' hj' (hne.resolve_left (by omega)) b hb
/-- 's[:m]'. -/
theorem CRow.take {t sz n cap : Nat} {ao : Option Addr} {cs : List Value} (h : CRow w base t sz (.slice ao n cap) n cs) (m : Nat) (hm : m ≤ n) : CRow w base t sz (.slice ao m cap) m (cs.take (m * sz)) := by
  rcases h with h | ⟨rfl, rfl, ao', e⟩
  · exact .inl (h.take m hm)
  · cases e
    obtain rfl : m = 0 := by omega
    exact .inr ⟨rfl, by simp, ao, rfl⟩
theorem flat_take {L : List (List Value)} {s : Nat} (hL : ∀ l ∈ L, l.length = s) (m : Nat) : L.flatten.take (m * s) = (L.take m).flatten := by
  induction L generalizing m with
  | nil => simp
  | cons x L ih =>
    have hx := hL x (by simp)
    cases m with
    | zero => simp
    | succ m =>
      rw [List.flatten_cons, List.take_succ_cons, List.flatten_cons, ← ih (fun l hl => hL l (by simp [hl])), Nat.succ_mul, List.take_append, hx]
      rw [show m * s + s - s = m * s by omega, List.take_of_length_le (by omega)]
theorem OwnG.take {n cap : Nat} {ao : Option Addr} (h : OwnG K w base (.slice ao n cap) xs vss) (m : Nat) (hm : m ≤ xs.length) : OwnG K w base (.slice ao m cap) (xs.take m) (vss.take m) := by
  have hl := h.len
  have hlm : (xs.take m).length = m := by simp; omega
  obtain ⟨_, _, e, _, _⟩ := h.row.shape
  injection e with e1 e2 e3
  subst e2
  have hsh : ∀ b, ob (.slice ao m cap) = some b → ob (.slice ao xs.length cap) = some b := fun b hb => by
    cases ao with
    | none => cases hb
    | some a => cases cap <;> exact hb
  refine ⟨by simp [hl], ?_, fun k hk hk' => ?_, ?_, ?_⟩
  · rw [hlm]
    have := h.row.take m hm
    rwa [flat_take (zip_len K xs vss), List.take_zipWith] at this
  · have hk1 : k < xs.length := by rw [List.length_take] at hk; omega
    have hk2 : k < vss.length := by omega
    simp only [List.getElem_take]
    exact h.inn k hk1 hk2
  · intro k hk j hj b hb
    have hk2 : k < vss.length := by rw [List.length_take] at hk; omega
    simp only [List.getElem_take] at hj ⊢
    exact h.sep.one k hk2 j hj b (hsh b hb)
  · intro k hk j hj k' hk' j' hj' hne b hb
    have hk2 : k < vss.length := by rw [List.length_take] at hk; omega
    have hk3 : k' < vss.length := by rw [List.length_take] at hk'; omega
    simp only [List.getElem_take] at hj hj' hb ⊢
    exact h.sep.two k hk2 j hj k' hk3 j' hj' hne b hb
theorem OwnG.nil (K : Kind α) (w : World) (base : Nat) : OwnG K w base (.slice none 0 0) [] [] :=
  ⟨rfl, CRow.nil _ _ _ _, fun _ h => absurd h (by simp), fun _ h => absurd h (by simp), fun _ h => absurd h (by simp)⟩
end
end Go.Proofs.YtpfgklkdldkajaaDoor

namespace Go.Proofs.YtpfgklkdldkajaaDoor
open Go.RowKit

theorem Chg.free {S : Nat → Prop} {w w1 : World} (h : Chg S w w1) {a : Addr} (hf : w.frozen? a = false) (hlt : a.block < w.heap.size) (hn : ¬ S a.block) : w1.frozen? a = false :=
  (World.frozen?_of_block (h.block a.block hlt hn)).trans hf
section
variable {α : Type} {K : Kind α} {w w1 w2 : World} {base : Nat} {v : Value} {xs : List α} {vss : List (List Value)}
theorem ob_some {g off n cap : Nat} (h : 0 < cap) : ob (.slice (some ⟨g, off, none⟩) n cap) = some g := by
  obtain ⟨c, rfl⟩ : ∃ c, cap = c + 1 := ⟨cap - 1, by omega⟩
  rfl
theorem CRow.cap {t sz n cap : Nat} {ao : Option Addr} {cs : List Value} (h : CRow w base t sz (.slice ao n cap) n cs) : n ≤ cap := by
  obtain ⟨_, _, e, h1, _⟩ := h.shape
  injection e with e1 e2 e3
  subst e3; exact h1
theorem CRow.elt_put {L : List (List Value)} {s g off n cap t : Nat} (hL : ∀ l ∈ L, l.length = s) (h : CRow w base t s (.slice (some ⟨g, off, none⟩) n cap) n L.flatten) {i j : Nat} (hi : i < L.length) (hj : j < s) (u : Value) :
    CRow (w.setCell ⟨g, off + i * s + j, none⟩ u) base t s (.slice (some ⟨g, off, none⟩) n cap) n (L.set i (L[i].set j u)).flatten := by
  have hfl := flat_len hL
  have hln := h.len
  rw [hfl] at hln
  have his : i * s + s ≤ L.length * s := by rw [← Nat.succ_mul]; exact Nat.mul_le_mul_right _ hi
  have hn : 0 < n := by
    rcases Nat.eq_zero_or_pos n with h0 | h0
    · subst h0; omega
    · exact h0
  have hp := (h.own hn).put (i * s + j) u (by rw [hfl]; omega)
  rw [flat_set hL hi hj, ← Nat.add_assoc] at hp
  exact .inl hp
theorem get_cast {l l' : List Value} (e : l = l') {j : Nat} (hj : j < l.length) : ∃ hj' : j < l'.length, l[j] = l'[j] := by subst e; exact ⟨hj, rfl⟩
theorem CRow.elt_put' {L : List (List Value)} {s g off n cap t : Nat} (hL : ∀ l ∈ L, l.length = s) {i : Nat} (hi : i < L.length) {l : List Value} (hl : l.length = s) (h : CRow w base t s (.slice (some ⟨g, off, none⟩) n cap) n (L.set i l).flatten) {j : Nat} (hj : j < s) (u : Value) :
    CRow (w.setCell ⟨g, off + i * s + j, none⟩ u) base t s (.slice (some ⟨g, off, none⟩) n cap) n (L.set i (l.set j u)).flatten := by
  have hL' : ∀ m ∈ L.set i l, m.length = s := fun m hm => by
    rcases List.mem_or_eq_of_mem_set hm with h | h
    · exact hL m h
    · rw [h]; exact hl
  have := CRow.elt_put hL' h (i := i) (by simpa using hi) hj u
  rwa [List.getElem_set_self, List.set_set] at this
/-- An element written anew, with rows that are its own: what it had before may have been written over. -/
theorem OwnG.swap {S : Nat → Prop} {g off n cap : Nat} (h : OwnG K w base (.slice (some ⟨g, off, none⟩) n cap) xs vss) {k : Nat} (hk : k < xs.length) (hk' : k < vss.length) (x : α) (us : List Value)
    (hch : Chg S w w1) (hS : ∀ b, S b → ∀ i (hi : i < vss.length) q (hq : q < vss[i].length), i ≠ k → ob vss[i][q] ≠ some b) (hput : Chg (fun b => b = g) w1 w2) (hrow : CRow w2 base K.t K.sz (.slice (some ⟨g, off, none⟩) n cap) n (List.zipWith K.cells (xs.set k x) (vss.set k us)).flatten)
    (hul : us.length = (K.rows x).length) (hin : ∀ j (hj : j < us.length) (hj' : j < (K.rows x).length), InnAt w1 base us[j] (K.rows x)[j])
    (hat : ∀ j (hj : j < us.length) b, ob us[j] = some b → (∃ j', ∃ hj' : j' < vss[k].length, ob vss[k][j'] = some b) ∨ w.heap.size ≤ b)
    (hself : ∀ j (hj : j < us.length) j' (hj' : j' < us.length), j ≠ j' → ∀ b, ob us[j] = some b → ob us[j'] ≠ some b) :
    OwnG K w2 base (.slice (some ⟨g, off, none⟩) n cap) (xs.set k x) (vss.set k us) := by
  have hl := h.len
  obtain ⟨_, _, e, hnc, _⟩ := h.row.shape
  injection e with e1 e2 e3
  subst e2 e3
  have hob : ob (.slice (some ⟨g, off, none⟩) xs.length cap) = some g := ob_some (by omega)
  have hg : g < w.heap.size := (h.row.in_ g hob).2
  have ung : ∀ j (hj : j < us.length), ob us[j] ≠ some g := fun j hj hb => by
    rcases hat j hj g hb with ⟨j', hj', e⟩ | e
    · exact h.sep.one k hk' j' hj' g hob e
    · omega
  have uoth : ∀ j (hj : j < us.length) b, ob us[j] = some b → ∀ i (hi : i < vss.length) q (hq : q < vss[i].length), i ≠ k → ob vss[i][q] ≠ some b := fun j hj b hb i hi q hq hne hb2 => by
    rcases hat j hj b hb with ⟨j', hj', e⟩ | e
    · exact h.sep.two k hk' j' hj' i hi q hq (.inl (fun e => hne e.symm)) b e hb2
    · have hin0 := (h.inn i (by omega) hi)
      have := (CRow.in_ (hin0.2 q hq (by omega)) b hb2).2
      omega
  have getk : (vss.set k us)[k]'(by simpa using hk') = us := List.getElem_set_self _
  have getn : ∀ i (hi : i < (vss.set k us).length), i ≠ k → (vss.set k us)[i] = vss[i]'(by simpa using hi) := fun i hi hne => List.getElem_set_ne (fun e => hne e.symm) _
  refine ⟨by simp [hl], by rw [List.length_set]; exact hrow, fun i hi hi' => ?_, ⟨fun i hi j hj b hb => ?_, fun i hi j hj i' hi' j' hj' hne b hb => ?_⟩⟩
  · by_cases hne : i = k
    · subst hne
      have ex : (xs.set i x)[i] = x := List.getElem_set_self _
      simp only [getk, ex]
      exact ⟨hul, fun j hj hj' => CRow.chg (hin j hj hj') hput (fun b hb e => ung j hj (by rw [hb, e]))⟩
    · have ex : (xs.set k x)[i] = xs[i]'(by simpa using hi) := List.getElem_set_ne (fun e => hne e.symm) _
      have ev := getn i hi' hne
      simp only [ev, ex]
      obtain ⟨e, hin0⟩ := h.inn i (by simpa using hi) (by simpa using hi')
      refine ⟨e, fun j hj hj' => CRow.chg (CRow.chg (hin0 j hj hj') hch (fun b hb hs => ?_)) hput (fun b hb e => ?_)⟩
      · exact hS b hs i (by simpa using hi') j hj hne hb
      · exact h.sep.one i (by simpa using hi') j hj g hob (by rw [hb, e])
  · by_cases hne : i = k
    · subst hne
      obtain ⟨hj2, ej⟩ := get_cast getk hj
      rw [ej]
      rw [hob] at hb; cases hb
      exact ung j hj2
    · obtain ⟨hj2, ej⟩ := get_cast (getn i hi hne) hj
      rw [ej]
      exact h.sep.one i (by simpa using hi) j hj2 b hb
  · by_cases hik : i = k
    · have ei : (vss.set k us)[i] = us := by subst hik; exact getk
      obtain ⟨hj2, ej⟩ := get_cast ei hj
      rw [ej] at hb
      by_cases hik' : i' = k
      · have ei' : (vss.set k us)[i'] = us := by subst hik'; exact getk
        obtain ⟨hj3, ej'⟩ := get_cast ei' hj'
        rw [ej']
        exact hself j hj2 j' hj3 (hne.resolve_left (fun h => h (hik.trans hik'.symm))) b hb
      · obtain ⟨hj3, ej'⟩ := get_cast (getn i' hi' hik') hj'
        rw [ej']
        exact uoth j hj2 b hb i' (by simpa using hi') j' hj3 hik'
    · obtain ⟨hj2, ej⟩ := get_cast (getn i hi hik) hj
      rw [ej] at hb
      by_cases hik' : i' = k
      · have ei' : (vss.set k us)[i'] = us := by subst hik'; exact getk
        obtain ⟨hj3, ej'⟩ := get_cast ei' hj'
        rw [ej']
        exact fun hb2 => uoth j' hj3 b hb2 i (by simpa using hi) j hj2 hik hb
      · obtain ⟨hj3, ej'⟩ := get_cast (getn i' hi' hik') hj'
        rw [ej']
        exact h.sep.two i (by simpa using hi) j hj2 i' (by simpa using hi') j' hj3 hne b hb
/-- One field written, which holds a row: another row in its place. -/
theorem OwnG.swap1 {g off n cap j c : Nat} (h : OwnG K w base (.slice (some ⟨g, off, none⟩) n cap) xs vss) {k : Nat} (hk : k < xs.length) (hk' : k < vss.length) (hj : j < vss[k].length) (hc : c < K.sz) (u : Value) (x : α) (r : Inn)
    (hch : Chg (fun b => ob vss[k][j] = some b) w w1) (hi : InnAt w1 base u r) (hat : ∀ b, ob u = some b → ob vss[k][j] = some b ∨ w.heap.size ≤ b)
    (hx : K.cells x (vss[k].set j u) = (K.cells xs[k] vss[k]).set c u) (hr : K.rows x = (K.rows xs[k]).set j r) :
    OwnG K (w1.setCell ⟨g, off + k * K.sz + c, none⟩ u) base (.slice (some ⟨g, off, none⟩) n cap) (xs.set k x) (vss.set k (vss[k].set j u)) := by
  have hl := h.len
  have hzl : (List.zipWith K.cells xs vss).length = xs.length := by simp [hl]
  obtain ⟨e, hin⟩ := h.inn k hk hk'
  have hrow1 := h.row.chg hch (fun b hb hb2 => h.sep.one k hk' j hj b hb hb2)
  obtain ⟨_, _, e2, _, _⟩ := h.row.shape
  injection e2 with _ e2 _
  subst e2
  have hp := CRow.elt_put (zip_len K xs vss) hrow1 (i := k) (j := c) (by omega) hc u
  simp only [List.getElem_zipWith] at hp
  rw [← hx, zip_set K hk hl] at hp
  refine h.swap hk hk' x (vss[k].set j u) hch (fun b hb i hi q hq hne => h.sep.two k hk' j hj i hi q hq (.inl (fun e => hne e.symm)) b hb) (Chg.put (S := fun b => b = g) (Chg.refl _ w1) (a := ⟨g, off + k * K.sz + c, none⟩) rfl u) hp (by rw [List.length_set, e, hr, List.length_set]) (fun q hq hq' => ?_) (fun q hq b hb => ?_) (fun q hq q' hq' hne b hb hb2 => ?_)
  · have er : (K.rows x)[q] = ((K.rows xs[k]).set j r)[q]'(by rw [← hr]; exact hq') := by simp only [hr]
    rw [er, List.getElem_set, List.getElem_set]
    by_cases hjq : j = q
    · rw [if_pos hjq, if_pos hjq]; exact hi
    · rw [if_neg hjq, if_neg hjq]
      exact CRow.chg (hin q (by simpa using hq) (by rw [← e]; simpa using hq)) hch (fun b hb hb2 => h.sep.two k hk' j hj k hk' q (by simpa using hq) (.inr hjq) b hb2 hb)
  · rw [List.getElem_set] at hb
    split at hb
    · rcases hat b hb with h1 | h1
      · exact .inl ⟨j, hj, h1⟩
      · exact .inr h1
    · exact .inl ⟨q, by simpa using hq, hb⟩
  · have key : ∀ p (hp : p < vss[k].length), p ≠ j → ob u = some b → ob vss[k][p] = some b → False := fun p hp hpj hu hb3 => by
      rcases hat b hu with h1 | h1
      · exact h.sep.two k hk' j hj k hk' p hp (.inr (fun e => hpj e.symm)) b h1 hb3
      · have := (CRow.in_ (hin p hp (by omega)) b hb3).2; omega
    rw [List.getElem_set] at hb hb2
    by_cases h1 : j = q
    · rw [if_pos h1] at hb
      rw [if_neg (fun e => hne (h1.symm.trans e))] at hb2
      exact key q' (by simpa using hq') (fun e => hne (h1.symm.trans e.symm)) hb hb2
    · rw [if_neg h1] at hb
      by_cases h2 : j = q'
      · rw [if_pos h2] at hb2
        exact key q (by simpa using hq) (fun e => h1 e.symm) hb2 hb
      · rw [if_neg h2] at hb2
        exact h.sep.two k hk' q (by simpa using hq) k hk' q' (by simpa using hq') (.inr hne) b hb hb2

/-- Rows made one behind the other, from the block N on. -/
structure Build (w : World) (N : Nat) (us : List Value) (rs : List Inn) : Prop where
  len : us.length = rs.length
  inn : ∀ j (hj : j < us.length) (hj' : j < rs.length), InnAt w N us[j] rs[j]
  self : ∀ j (hj : j < us.length) j' (hj' : j' < us.length), j ≠ j' → ∀ b, ob us[j] = some b → ob us[j'] ≠ some b
theorem Build.nil (w : World) (N : Nat) : Build w N [] [] := ⟨rfl, fun _ h => absurd h (by simp), fun _ h => absurd h (by simp)⟩
theorem Build.chg {S : Nat → Prop} {N : Nat} {us : List Value} {rs : List Inn} (h : Build w N us rs) (hk : Chg S w w1) (hs : ∀ b, S b → b < N) : Build w1 N us rs :=
  ⟨h.len, fun j hj hj' => CRow.chg (h.inn j hj hj') hk (fun b hb hS => by have := hs b hS; have := (CRow.in_ (h.inn j hj hj') b hb).1; omega), h.self⟩
theorem Build.below {N : Nat} {us : List Value} {rs : List Inn} (h : Build w N us rs) (hb : Below w.heap.size w w1) : Build w1 N us rs := h.chg (S := fun _ => False) (Chg.of_below hb) (fun _ h => h.elim)
theorem Build.add {N : Nat} {us : List Value} {rs : List Inn} (h : Build w N us rs) (hb : Below w.heap.size w w1) (hN : N ≤ w.heap.size) {u : Value} {r : Inn} (hu : InnAt w1 w.heap.size u r) : Build w1 N (us ++ [u]) (rs ++ [r]) := by
  have h1 := h.below hb
  have hlen := h.len
  have get : ∀ j (hj : j < (us ++ [u]).length), (∃ hlt : j < us.length, (us ++ [u])[j] = us[j]) ∨ (j = us.length ∧ (us ++ [u])[j] = u) := fun j hj => by
    rcases Nat.lt_or_ge j us.length with hlt | hge
    · exact .inl ⟨hlt, List.getElem_append_left hlt⟩
    · have : j = us.length := by rw [List.length_append] at hj; simp at hj; omega
      subst this
      exact .inr ⟨rfl, by simp⟩
  refine ⟨by simp [hlen], fun j hj hj' => ?_, fun j hj j' hj' hne b hb1 hb2 => ?_⟩
  · rcases get j hj with ⟨hlt, e⟩ | ⟨ej, e⟩
    · rw [e, List.getElem_append_left (by omega)]; exact h1.inn j hlt (by omega)
    · have er : (rs ++ [r])[j] = r := by rw [List.getElem_append_right (by omega)]; simp [ej, hlen]
      rw [e, er]; exact CRow.mono hu hN
  · rcases get j hj with ⟨hlt, e⟩ | ⟨ej, e⟩ <;> rcases get j' hj' with ⟨hlt', e'⟩ | ⟨ej', e'⟩
    · rw [e] at hb1; rw [e'] at hb2; exact h.self j hlt j' hlt' hne b hb1 hb2
    · rw [e] at hb1; rw [e'] at hb2
      have := (CRow.in_ (h.inn j hlt (by omega)) b hb1).2
      have := (CRow.in_ hu b hb2).1
      omega
    · rw [e] at hb1; rw [e'] at hb2
      have := (CRow.in_ (h.inn j' hlt' (by omega)) b hb2).2
      have := (CRow.in_ hu b hb1).1
      omega
    · omega
/-- A struct that is being laid, in the block behind the world w0: its cells so far, its new rows. -/
structure Half (t : Nat) (w0 w : World) (cs us : List Value) (rs : List Inn) : Prop where
  row : RowAt t w0.heap.size cs w
  below : Below w0.heap.size w0 w
  bld : Build w (w0.heap.size + 1) us rs
theorem Half.start (t : Nat) (cs : List Value) (w0 : World) : Half t w0 (w0.alloc (.cells cs.toArray t)) cs [] [] := ⟨RowAt.new _ _ _, below_alloc (Below.refl _ _) _, Build.nil _ _⟩
theorem Half.step {t : Nat} {w0 w w1 : World} {cs us : List Value} {rs : List Inn} (h : Half t w0 w cs us rs) (hb : Below w.heap.size w w1) {u : Value} {r : Inn} (hu : InnAt w1 w.heap.size u r) {j : Nat} : Half t w0 (w1.setCell ⟨w0.heap.size, j, none⟩ u) (cs.set j u) (us ++ [u]) (rs ++ [r]) :=
  ⟨(h.row.below hb).put j u, (below_trans h.below hb).setCell (p := ⟨w0.heap.size, j, none⟩) (Nat.le_refl _) u, (Build.add h.bld hb (by have := blk_lt h.row; omega) hu).chg (S := fun b => b = w0.heap.size) (Chg.put (S := fun b => b = w0.heap.size) (Chg.refl _ w1) (a := ⟨w0.heap.size, j, none⟩) rfl u) (fun b e => by omega)⟩
/-- An element more, out of rows that were made behind all that is there. -/
theorem OwnG.grow_build {N : Nat} {v' : Value} {x : α} {us : List Value} (h : OwnG K w base v xs vss) (hG : GrownC w base K.t K.sz v (xs.length + 1) ((List.zipWith K.cells xs vss).flatten ++ K.cells x us) v' w1)
    (hold : ∀ u ∈ v :: vss.flatten, ∀ b, ob u = some b → b < N) (hB : Build w N us (K.rows x)) (hN : base ≤ N) : OwnG K w1 base v' (xs ++ [x]) (vss ++ [us]) :=
  OwnG.grow h hG hB.len (fun j hj hj' => CRow.mono (hB.inn j hj hj') hN)
    (fun j hj b hb e => by
      have := hold v (by simp) b e
      have hj' : j < (K.rows x).length := by rw [← hB.len]; exact hj
      have := (CRow.in_ (hB.inn j hj hj') b hb).1
      omega)
    hB.self
    (fun j hj b hb k hk q hq e => by
      have := hold _ (List.mem_cons_of_mem _ (List.mem_flatten.2 ⟨_, List.getElem_mem hk, List.getElem_mem hq⟩)) b e
      have hj' : j < (K.rows x).length := by rw [← hB.len]; exact hj
      have := (CRow.in_ (hB.inn j hj hj') b hb).1
      omega)
end
end Go.Proofs.YtpfgklkdldkajaaDoor

namespace Go.Proofs.YtpfgklkdldkajaaDoor

theorem hstep_spec {h : Int} (hn : h ≠ -1) : ∀ (ts : List Nat) (out : List Int) (row : List Nat) (s : List Int × List Nat), hstep h ts out row = some s →
    s.1.length = out.length ∧ (∀ (t : Nat) (x : Int), out[t]? = some x → x ≠ -1 → s.1[t]? = some x) ∧ (∀ t ∈ ts, s.1[t]? = some h) ∧ (∀ (t : Nat) (x : Int), s.1[t]? = some x → x ≠ -1 → out[t]? = some x ∨ (t ∈ s.2 ∧ t ∈ ts)) ∧ (∀ q ∈ row, q ∈ s.2) ∧ (∀ q ∈ s.2, q ∈ row ∨ ∃ x : Int, s.1[q]? = some x ∧ x ≠ -1) ∧ unsetH s.1 + s.2.length = unsetH out + row.length
  | [], out, row, s, e => by
    cases e
    exact ⟨rfl, fun _ _ h _ => h, fun _ h => by simp at h, fun _ _ h _ => .inl h, fun _ h => h, fun _ h => .inl h, rfl⟩
  | t :: ts, out, row, s, e => by
    rw [hstep] at e
    by_cases h1 : out[t]? = some (-1)
    · rw [if_pos h1] at e
      obtain ⟨ht, h1'⟩ := List.getElem?_eq_some_iff.1 h1
      obtain ⟨i1, i2, i3, i4, i5, i6, i7⟩ := hstep_spec hn ts _ _ s e
      have hset : (out.set t h)[t]? = some h := by simp [ht]
      have hoth : ∀ u, u ≠ t → (out.set t h)[u]? = out[u]? := fun u hu => by rw [List.getElem?_set, if_neg (Ne.symm hu)]
      have htin : t ∈ s.2 := i5 t (by simp)
      refine ⟨by rw [i1]; simp, fun u x hu hx => ?_, fun u hu => ?_, fun u x hu hx => ?_, fun q hq => i5 q (by simp [hq]), fun q hq => ?_, ?_⟩
      · have hne : u ≠ t := fun e => by subst e; rw [h1] at hu; cases hu; exact hx rfl
        exact i2 u x (by rw [hoth u hne]; exact hu) hx
      · rcases List.mem_cons.1 hu with rfl | hu
        · exact i2 _ h hset hn
        · exact i3 u hu
      · by_cases hne : u = t
        · subst hne; exact .inr ⟨htin, by simp⟩
        · rcases i4 u x hu hx with h | ⟨h, h'⟩
          · rw [hoth u hne] at h; exact .inl h
          · exact .inr ⟨h, by simp [h']⟩
      · rcases i6 q hq with h | h
        · rcases List.mem_append.1 h with h | h
          · exact .inl h
          · simp at h; subst h; exact .inr ⟨_, i2 _ _ hset hn, hn⟩
        · exact .inr h
      · have := unsetH_set ht h1' hn
        rw [i7]; simp; omega
    · rw [if_neg h1] at e
      by_cases h2 : out[t]? = some h
      · rw [if_pos h2] at e
        obtain ⟨i1, i2, i3, i4, i5, i6, i7⟩ := hstep_spec hn ts _ _ s e
        refine ⟨i1, i2, fun u hu => ?_, fun u x hu hx => ?_, i5, i6, i7⟩
        · rcases List.mem_cons.1 hu with rfl | hu
          · exact i2 _ h h2 hn
          · exact i3 u hu
        · rcases i4 u x hu hx with h | ⟨h, h'⟩
          · exact .inl h
          · exact .inr ⟨h, by simp [h']⟩
      · rw [if_neg h2] at e; cases e
/-- A pc of the height x, in heights. -/
def Good (p : List Fn) (code : List Ins) (o : List Int) (q : Nat) (x : Int) : Prop := ∃ hq : q < code.length, takesOf code[q].kind (argsOf p code[q]) ≤ x ∧ behindH p code[q] x ≤ 8 ∧ ∀ t ∈ nx code q, o[t]? = some (behindH p code[q] x)
structure GInv (p : List Fn) (code : List Ins) (out : List Int) (row : List Nat) : Prop where
  len : out.length = code.length
  zero : out[0]? = some 0
  inrow : ∀ q ∈ row, ∃ x : Int, out[q]? = some x ∧ x ≠ -1
  sound : ∀ (q : Nat) (x : Int), out[q]? = some x → x ≠ -1 → Reach code q ∧ 0 ≤ x
  good : ∀ (q : Nat) (x : Int), out[q]? = some x → x ≠ -1 → q ∈ row ∨ Good p code out q x
theorem behind_nonneg {p : List Fn} {x : Ins} {o : Int} (h : takesOf x.kind (argsOf p x) ≤ o) : 0 ≤ behindH p x o := by
  have := (puts_in x.kind).1
  unfold behindH; omega
theorem hwalk_good {p : List Fn} {code : List Ins} : ∀ (n : Nat) (out : List Int) (row : List Nat) (o : List Int), GInv p code out row → unsetH out + row.length ≤ n → hwalk p code n out row = .inr o → GInv p code o []
  | 0, out, row, o, hi, hm, e => by
    cases e
    obtain rfl : row = [] := List.eq_nil_of_length_eq_zero (by omega)
    exact hi
  | n + 1, out, [], o, hi, _, e => by cases e; exact hi
  | n + 1, out, pc :: row, o, hi, hm, e => by
    obtain ⟨x, hx, hxn⟩ := hi.inrow pc (by simp)
    obtain ⟨hpo, hpx⟩ := List.getElem?_eq_some_iff.1 hx
    have hpc : pc < code.length := by rw [← hi.len]; exact hpo
    by_cases hbad : out[pc] < takesOf code[pc].kind (argsOf p code[pc]) ∨ 8 < behindH p code[pc] out[pc]
    · rw [hwalk_bad hpc hpo hbad] at e; cases e
    · have h1 : ¬ out[pc] < takesOf code[pc].kind (argsOf p code[pc]) := fun h => hbad (.inl h)
      have h2 : ¬ 8 < behindH p code[pc] out[pc] := fun h => hbad (.inr h)
      rw [hwalk_step hpc hpo h1 h2] at e
      rw [hpx] at e h1 h2
      have hb0 := behind_nonneg (p := p) (x := code[pc]) (o := x) (by omega)
      cases hs : hstep (behindH p code[pc] x) (nx code pc) out row with
      | none => rw [hs] at e; cases e
      | some s =>
        rw [hs] at e
        obtain ⟨i1, i2, i3, i4, i5, i6, i7⟩ := hstep_spec (by omega) _ _ _ _ hs
        have hpr := (hi.sound pc x hx hxn).1
        refine hwalk_good n s.1 s.2 o ⟨by rw [i1]; exact hi.len, i2 0 0 hi.zero (by decide), fun q hq => ?_, fun q y hq hy => ?_, fun q y hq hy => ?_⟩ (by rw [i7]; simp at hm; omega) e
        · rcases i6 q hq with h | h
          · obtain ⟨y, hy, hyn⟩ := hi.inrow q (by simp [h])
            exact ⟨y, i2 q y hy hyn, hyn⟩
          · exact h
        · rcases i4 q y hq hy with h | ⟨h, h'⟩
          · exact hi.sound q y h hy
          · have := i3 q h'
            rw [this] at hq
            cases hq
            exact ⟨.step hpr h', hb0⟩
        · have mono : ∀ q y, Good p code out q y → Good p code s.1 q y := fun q y ⟨g1, g2, g3, g4⟩ => ⟨g1, g2, g3, fun t ht => i2 t _ (g4 t ht) (by have := behind_nonneg (p := p) g2; omega)⟩
          rcases i4 q y hq hy with h | ⟨h, h'⟩
          · rcases hi.good q y h hy with h3 | h3
            · rcases List.mem_cons.1 h3 with rfl | h3
              · rw [hx] at h
                cases h
                exact .inr ⟨hpc, by omega, by omega, i3⟩
              · exact .inl (i5 q h3)
            · exact .inr (mono q y h3)
          · exact .inl h
theorem GInv.start {p : List Fn} {code : List Ins} (hm : codeMay code = true) : GInv p code (hstart code) [0] := by
  have h0 := (codeMay_len hm).1
  have hz : (hstart code)[0]? = some 0 := by unfold hstart; rw [List.getElem?_set_self (by simp; omega)]
  have hall : ∀ q x, (hstart code)[q]? = some x → x ≠ -1 → q = 0 ∧ x = 0 := fun q x hq hx => by
    unfold hstart at hq
    rw [List.getElem?_set] at hq
    split at hq
    · rename_i e
      simp at hq
      exact ⟨e.symm, hq.2.symm⟩
    · rw [List.getElem?_replicate] at hq
      split at hq
      · cases hq; exact absurd rfl hx
      · cases hq
  refine ⟨by simp [hstart], hz, fun q hq => ?_, fun q x hq hx => ?_, fun q x hq hx => ?_⟩
  · simp at hq; subst hq; exact ⟨0, hz, by decide⟩
  · obtain ⟨rfl, rfl⟩ := hall q x hq hx; exact ⟨.zero, by decide⟩
  · obtain ⟨rfl, rfl⟩ := hall q x hq hx; exact .inl (by simp)
theorem heights_good {p : List Fn} {f : Fn} (hm : codeMay f.code = true) (h : (heightsF p f).2.2 = 0) : GInv p f.code (heightsF p f).1 [] := by
  obtain ⟨_, hw, _⟩ := heights_len h
  unfold hwalkOf at hw
  refine hwalk_good _ _ _ _ (GInv.start hm) ?_ hw
  have h0 := (codeMay_len hm).1
  have : unsetH (hstart f.code) + 1 = f.code.length := by
    unfold hstart
    unfold unsetH
    rw [List.countP_set (by simp; omega)]
    simp [List.countP_replicate]; omega
  simp; omega
/-- What comes next of nothing is a return. -/
theorem next_none {p : List Fn} {f : Fn} (hm : codeMay f.code = true) (hpl : plainOf p f = none) {pc : Nat} (hr : Reach f.code pc) (hpc : pc < f.code.length) (h : nx f.code pc = []) : f.code[pc].kind = 16 := by
  have h1 := nx_eq hm hpc
  rw [h] at h1
  simp only [List.map_nil] at h1
  have hrg := ranged_of hm hpl hr hpc
  have hend := (plainOf_none hpl).2
  unfold endBad at hend
  unfold rangedB at hrg
  unfold nextOf at h1
  rcases Decidable.em (f.code[pc].kind = 16) with h16 | h16
  · exact h16
  · exfalso
    rw [List.append_eq_nil_iff] at h1
    obtain ⟨e1, e2⟩ := h1
    have hnp : ¬ (f.code[pc].kind ≠ 16 ∧ f.code[pc].kind ≠ 12 ∧ pc + 1 < f.code.length) := fun hc => by rw [if_pos hc] at e1; cases e1
    by_cases h12 : f.code[pc].kind = 12
    · rw [if_neg (by omega), if_pos (by omega)] at hrg
      rw [if_pos ⟨.inl h12, by simpa using hrg, by rw [e1]; simp⟩] at e2
      cases e2
    · have hlast : pc = f.code.length - 1 := by omega
      subst hlast
      have hR := (reachL_iff hm).2 hr
      unfold Has at hR
      rw [hR, List.getElem?_eq_getElem hpc] at hend
      simp [h12, h16] at hend
end Go.Proofs.YtpfgklkdldkajaaDoor

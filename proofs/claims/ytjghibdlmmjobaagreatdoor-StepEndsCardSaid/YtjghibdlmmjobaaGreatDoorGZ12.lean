/- 'frame.May', 'frame.State' answer what the plain definitions say. Conditions: the program, the frame, the state lie in memory as they are said; errors.errorType is laid. Rows of structs of the call's own, whose fields hold rows of their own: read, written, appended to, cut. Plain definitions and lemmas. 'frame.Begin': a function's frame at its start. Conditions: the program lies in memory; the args are no more than its locals. -/
import Derived.Test.YtjghibdlmmjobaaGreatDoorGZ11
import Derived.Test.YtjghibdlmmjobaaGreatDoorGZ09
import Derived.Test.YtjghibdlmmjobaaGreatDoorGZ06
namespace Go.Proofs.YtjghibdlmmjobaaGreatDoor
open Go.RowKit

theorem frm_new (f : Frm) (A1 A2 : Option Addr) (c1 c2 : Nat) (w : World) (h1 : ReadsI w A1 f.locals) (h2 : ReadsI w A2 f.stack) :
    FrmAt (w.alloc (.cells #[.int .i64 f.fn, .int .i64 f.pc, .slice A1 f.locals.length c1, .slice A2 f.stack.length c2] 54)) ⟨w.heap.size, 0, none⟩ f := by
  have hb := below_alloc (Below.refl w.heap.size w) (.cells #[.int .i64 f.fn, .int .i64 f.pc, .slice A1 f.locals.length c1, .slice A2 f.stack.length c2] 54)
  have hn := blk_new w (.cells #[.int .i64 f.fn, .int .i64 f.pc, .slice A1 f.locals.length c1, .slice A2 f.stack.length c2] 54)
  exact ⟨(blk_cell hn 0).trans rfl, (blk_cell hn 1).trans rfl, ⟨A1, c1, (blk_cell hn 2).trans rfl, h1.below hb⟩, A2, c2, (blk_cell hn 3).trans rfl, h2.below hb⟩
theorem ret_tail {b : Bool} {v : Value} {w w1 w2 : World} (e : v = .bool b) (h : Below w.heap.size w w1) (k : Below w1.heap.size w1 w2) : Ret (.bool b) w (.returned v) w2 := ⟨by rw [e], below_trans h k⟩
theorem dec_false {P : Prop} [Decidable P] (h : ¬ P) : decide P = false := decide_eq_false h
set_option maxRecDepth 100000 in
set_option maxHeartbeats 4000000 in
theorem state_any (p : List Fn) (Ap A Ao : Option Addr) (cp c co : Nat) (s : Stt) (w : World) (hl : Laid w) (hr : ReadsF w Ap p) (hf : ReadsFr w A s.frames) (hc : s.frames.length ≤ c) (ho : ReadsI w Ao s.out) :
    Calls Tryz.prog 47 #[.agg #[.slice Ap p.length cp], sttV s (.slice A s.frames.length c) (.slice Ao s.out.length co)] w (Ret (.bool (stateB p s)) w) := by
  obtain ⟨fs, fuel, out, done, value⟩ := s
  unfold sttV
  simp only at hf hc ho ⊢
  obtain ⟨w1, hw1⟩ : ∃ w1, w.alloc (.cells #[.slice Ap p.length cp] 24) = w1 := ⟨_, rfl⟩
  obtain ⟨w2, hw2⟩ : ∃ w2, w1.alloc (.cells #[.slice A fs.length c, .int .i64 fuel, .slice Ao out.length co, .int .i64 done, .int .i64 value] 57) = w2 := ⟨_, rfl⟩
  have b1 : Below w.heap.size w w1 := hw1 ▸ below_alloc (Below.refl _ _) _
  have b2 : Below w1.heap.size w1 w2 := hw2 ▸ below_alloc (Below.refl _ _) _
  have p1 : w1.cell? ⟨w.heap.size, 0, none⟩ = some (.slice Ap p.length cp) := hw1 ▸ (blk_cell (blk_new w _) 0).trans rfl
  have hR : RowAt 57 w1.heap.size [.slice A fs.length c, .int .i64 fuel, .slice Ao out.length co, .int .i64 done, .int .i64 value] w2 := hw2 ▸ RowAt.new _ _ w1
  have B2 := Lib.hid (below_trans b1 b2)
  have HR := Lib.hid hR
  have HFS := Lib.hid (hf.below (below_trans b1 b2))
  have HOU := Lib.hid (ho.below (below_trans b1 b2))
  have hno := ho.1
  have hnf := hf.1
  have HO := Lib.hid (open_any ⟨w.heap.size, 0, none⟩ p Ap cp w2 (hl.below B2.out) (cell_below b2 p1) (hr.below B2.out))
  obtain ⟨vf, hvf⟩ : ∃ vf, verifyOf p = vf := ⟨_, rfl⟩
  have HVF := Lib.hid hvf
  unfold OpenE at HO
  rw [hvf] at HO
  clear hvf b1 b2 p1 hR hl hr hf ho
  by_cases hv : vf = 0
  · have dv : (vf == 0) = true := by simpa using hv
    have HV := Lib.hid hv
    rw [dv] at HO
    clear hv dv
    go_enter Tryz.func47, Tryz.ntmps47
    go_wp2_with fail
    refine HO.out.mono ?_
    rintro e w3 ⟨B, rfl, hB, hbk⟩
    obtain ⟨H, ch, hbk⟩ := hbk HV.out
    have B3 := Lib.hid (below_trans B2.out hB)
    have hR := HR.out.below hB
    have k0 := hR.cell (k := 0) (by simp)
    have k1 := hR.cell (k := 1) (by simp)
    have k2 := hR.cell (k := 2) (by simp)
    have k3 := hR.cell (k := 3) (by simp)
    have k4 := hR.cell (k := 4) (by simp)
    simp only [List.getElem_cons_succ, List.getElem_cons_zero] at k0 k1 k2 k3 k4
    have HM := Lib.hid (runs_any B ⟨w.heap.size, 0, none⟩ p Ap H A cp ch c fs w3 (HVF.out.trans HV.out) hbk (HFS.out.below hB) hc)
    have HA := Lib.hid (wrapAll_any Ao co out w3 (HOU.out.below hB))
    have HI := Lib.hid (is_any value w3)
    have HE := Lib.hid (show stateB p ⟨fs, fuel, out, done, value⟩ = (decide (0 ≤ fuel) && decide (fuel ≤ 100000) && decide ((out.length : Int) ≤ 100000 - fuel) && out.all isNum &&
        (if done = 0 then decide (value = 0) && runsB p fs else decide (0 < done) && decide (done ≤ 4) && (decide (fs.length = 0) && (if done = 1 then isNum value else decide (value = 0))))) by
      unfold stateB overB; rw [HVF.out, HV.out]; rfl)
    obtain ⟨xo, exo⟩ : ∃ xo, out.all isNum = xo := ⟨_, rfl⟩
    obtain ⟨xr, exr⟩ : ∃ xr, runsB p fs = xr := ⟨_, rfl⟩
    obtain ⟨xv, exv⟩ : ∃ xv, isNum value = xv := ⟨_, rfl⟩
    rw [exo] at HA HE
    rw [exr] at HM HE
    rw [exv] at HI HE
    clear exo exr exv hbk hB hw1 hw2 HO hR HR
    go_wp2_with (first | (go_at_call 66; refine HA.out.mono ?_; rintro e w' ⟨rfl, rfl⟩) | (go_at_call 102; refine HI.out.mono ?_; rintro e w' ⟨rfl, rfl⟩) | (go_at_call 101; refine HM.out.mono ?_; rintro e w4 ⟨rfl, n, rfl⟩))
    all_goals go_ret
    all_goals refine ret_tail ?_ B3.out (by first | exact Below.refl _ _ | exact below_drew (Below.refl _ _) _)
    all_goals rw [HE.out]
    all_goals clear HE HM HA HI k0 k1 k2 k3 k4 B3 B2 HFS HOU HVF HV
    all_goals first | (simp_all; done) | (simp_all; omega) | (cases xo <;> first | (simp_all; done) | (simp_all; omega) | (simp_all [beq_dec]; done) | (exfalso; simp_all; omega))
  · have dv : (vf == 0) = false := by simpa using hv
    have HV := Lib.hid hv
    rw [dv] at HO
    clear hv dv
    go_enter Tryz.func47, Tryz.ntmps47
    go_wp2_with fail
    refine HO.out.mono ?_
    rintro e w3 ⟨B, rfl, hB, -⟩
    have B3 := Lib.hid (below_trans B2.out hB)
    clear hB hw1 hw2 HO HR
    go_wp2_with fail
    go_ret
    exact ret_tail (by unfold stateB; rw [HVF.out, decide_eq_false HV.out]; rfl) B3.out (Below.refl _ _)
end Go.Proofs.YtjghibdlmmjobaaGreatDoor

namespace Go.Proofs.YtjghibdlmmjobaaGreatDoor
open Go.RowKit

/-- The block of a slice that has room. -/
def ob : Value → Option Nat
  | .slice (some a) _ (_ + 1) => some a.block
  | _ => none
theorem ob_own {v : Value} {b : Nat} (h : ob v = some b) : v.ownBlock = some b := by
  unfold ob at h
  split at h
  · cases h; rfl
  · cases h
/-- A row of the call's own, or an empty one without room. -/
def CRow (w : World) (base t sz : Nat) (v : Value) (n : Nat) (cs : List Value) : Prop :=
  ORow w base t sz v n cs ∨ (n = 0 ∧ cs = [] ∧ ∃ ao, v = .slice ao 0 0)
theorem CRow.len {w : World} {base t sz n : Nat} {v : Value} {cs : List Value} (h : CRow w base t sz v n cs) : cs.length = n * sz := by
  rcases h with h | ⟨rfl, rfl, _⟩
  · exact h.len
  · simp
theorem CRow.shape {w : World} {base t sz n : Nat} {v : Value} {cs : List Value} (h : CRow w base t sz v n cs) : ∃ ao cap, v = .slice ao n cap ∧ n ≤ cap ∧ cap ≤ maxLen := by
  rcases h with h | ⟨rfl, rfl, ao, rfl⟩
  · exact h.shape
  · exact ⟨ao, 0, rfl, Nat.le_refl _, by decide⟩
theorem CRow.own {w : World} {base t sz n : Nat} {v : Value} {cs : List Value} (h : CRow w base t sz v n cs) (hn : 0 < n) : ORow w base t sz v n cs := by
  rcases h with h | ⟨rfl, _⟩
  · exact h
  · omega
theorem CRow.in_ {w : World} {base t sz n : Nat} {v : Value} {cs : List Value} (h : CRow w base t sz v n cs) : ∀ b, ob v = some b → base ≤ b ∧ b < w.heap.size := fun b hb => by
  rcases h with h | ⟨rfl, rfl, ao, rfl⟩
  · exact h.in_ b (ob_own hb)
  · cases ao <;> cases hb
theorem CRow.chg {S : Nat → Prop} {w w1 : World} {base t sz n : Nat} {v : Value} {cs : List Value} (h : CRow w base t sz v n cs) (hk : Chg S w w1) (ha : ∀ b, ob v = some b → ¬ S b) : CRow w1 base t sz v n cs := by
  rcases h with h | h
  · obtain ⟨ao, cap, e, h1, h2⟩ := h.shape
    cases cap with
    | zero =>
      obtain rfl : n = 0 := by omega
      exact .inr ⟨rfl, List.eq_nil_of_length_eq_zero (by simpa using h.len), ao, e⟩
    | succ cap =>
      refine .inl (h.chg hk fun b hb => ha b ?_)
      subst e
      cases ao with
      | none => cases hb
      | some a => exact hb
  · exact .inr h
theorem CRow.below {w w1 : World} {base t sz n : Nat} {v : Value} {cs : List Value} (h : CRow w base t sz v n cs) (hb : Below w.heap.size w w1) : CRow w1 base t sz v n cs :=
  h.chg (S := fun _ => False) (Chg.of_below hb) (fun _ _ h => h)
theorem CRow.mono {w : World} {base base' t sz n : Nat} {v : Value} {cs : List Value} (h : CRow w base t sz v n cs) (hb : base' ≤ base) : CRow w base' t sz v n cs := by
  rcases h with h | h
  · exact .inl (h.mono hb)
  · exact .inr h
theorem CRow.ints {w : World} {base n cap : Nat} {ao : Option Addr} {xs : List Int} (h : CRow w base 3 1 (.slice ao n cap) n (intsV xs)) : ReadsI w ao xs := by
  rcases h with h | ⟨rfl, h, _⟩
  · exact h.ints.2
  · have : xs = [] := by cases xs with
      | nil => rfl
      | cons x xs => simp [intsV] at h
    subst this
    exact ⟨by simp, fun h => absurd h (by simp)⟩
theorem CRow.nil (w : World) (base t sz : Nat) : CRow w base t sz (.slice none 0 0) 0 [] := .inl (ORow.nil _ _ _ _)

/-- A row within a struct's field: its element's type and size, how many, its cells. -/
structure Inn where
  t : Nat
  sz : Nat
  n : Nat
  cs : List Value
def innI (xs : List Int) : Inn := ⟨3, 1, xs.length, intsV xs⟩
def InnAt (w : World) (base : Nat) (v : Value) (r : Inn) : Prop := CRow w base r.t r.sz v r.n r.cs
/-- No two of them share a block. -/
structure Sep (v : Value) (vss : List (List Value)) : Prop where
  one : ∀ k (h : k < vss.length) j (hj : j < vss[k].length) b, ob v = some b → ob vss[k][j] ≠ some b
  two : ∀ k (h : k < vss.length) j (hj : j < vss[k].length) k' (h' : k' < vss.length) j' (hj' : j' < vss[k'].length), (k ≠ k' ∨ j ≠ j') → ∀ b, ob vss[k][j] = some b → ob vss[k'][j'] ≠ some b
/-- What is of one struct: cells out of its fields and its rows' values; its rows. -/
structure Kind (α : Type) where
  t : Nat
  sz : Nat
  m : Nat
  cells : α → List Value → List Value
  rows : α → List Inn
  len : ∀ x vs, (cells x vs).length = sz
/-- Structs of the call's own, each with rows of its own; no block is shared. -/
structure OwnG {α : Type} (K : Kind α) (w : World) (base : Nat) (v : Value) (xs : List α) (vss : List (List Value)) : Prop where
  len : vss.length = xs.length
  row : CRow w base K.t K.sz v xs.length (List.zipWith K.cells xs vss).flatten
  inn : ∀ k (h : k < xs.length) (h' : k < vss.length), vss[k].length = (K.rows xs[k]).length ∧ ∀ j (hj : j < vss[k].length) (hj' : j < (K.rows xs[k]).length), InnAt w base vss[k][j] (K.rows xs[k])[j]
  sep : Sep v vss
section
variable {α : Type} {K : Kind α} {w w1 : World} {base : Nat} {v : Value} {xs : List α} {vss : List (List Value)}
theorem zip_len (K : Kind α) (xs : List α) (vss : List (List Value)) : ∀ l ∈ List.zipWith K.cells xs vss, l.length = K.sz := fun l hl => by
  obtain ⟨i, hi, rfl⟩ := List.mem_iff_getElem.1 hl
  rw [List.getElem_zipWith]; exact K.len _ _
theorem OwnG.chg {S : Nat → Prop} (h : OwnG K w base v xs vss) (hk : Chg S w w1) (ha : ∀ u ∈ v :: vss.flatten, ∀ b, ob u = some b → ¬ S b) : OwnG K w1 base v xs vss where
  len := h.len
  row := h.row.chg hk (ha v (by simp))
  inn := fun k hk0 hk' => ⟨(h.inn k hk0 hk').1, fun j hj hj' => CRow.chg ((h.inn k hk0 hk').2 j hj hj') hk (ha _ (List.mem_cons_of_mem _ (List.mem_flatten.2 ⟨_, List.getElem_mem hk', List.getElem_mem hj⟩)))⟩
  sep := h.sep
theorem OwnG.below (h : OwnG K w base v xs vss) (hb : Below w.heap.size w w1) : OwnG K w1 base v xs vss := h.chg (S := fun _ => False) (Chg.of_below hb) (fun _ _ _ _ h => h)
theorem OwnG.mono {base' : Nat} (h : OwnG K w base v xs vss) (hb : base' ≤ base) : OwnG K w base' v xs vss :=
  ⟨h.len, h.row.mono hb, fun k hk hk' => ⟨(h.inn k hk hk').1, fun j hj hj' => CRow.mono ((h.inn k hk hk').2 j hj hj') hb⟩, h.sep⟩
/-- All blocks lie from the base on. -/
theorem OwnG.lo (h : OwnG K w base v xs vss) : ∀ u ∈ v :: vss.flatten, ∀ b, ob u = some b → base ≤ b ∧ b < w.heap.size := fun u hu b hb => by
  rcases List.mem_cons.1 hu with rfl | hu
  · exact h.row.in_ b hb
  · obtain ⟨l, hl, hul⟩ := List.mem_flatten.1 hu
    obtain ⟨k, hk, rfl⟩ := List.mem_iff_getElem.1 hl
    obtain ⟨j, hj, rfl⟩ := List.mem_iff_getElem.1 hul
    have hk0 : k < xs.length := by rw [← h.len]; exact hk
    obtain ⟨e, hi⟩ := h.inn k hk0 hk
    exact CRow.in_ (hi j hj (by omega)) b hb
/-- An element's cells. -/
theorem OwnG.cell {ao : Option Addr} {n cap : Nat} (h : OwnG K w base (.slice ao n cap) xs vss) (hs : 0 < K.sz) {k : Nat} (hk : k < xs.length) :
    ∃ g off, ao = some ⟨g, off, none⟩ ∧ base ≤ g ∧ g < w.heap.size ∧ ob (.slice ao n cap) = some g ∧ ∀ k (hk : k < xs.length) (hk' : k < vss.length) j (hj : j < (K.cells xs[k] vss[k]).length), w.cell? ⟨g, off + k * K.sz + j, none⟩ = some (K.cells xs[k] vss[k])[j] ∧ w.frozen? ⟨g, off + k * K.sz + j, none⟩ = false := by
  have hl := h.len
  have ho := h.row.own (by omega)
  obtain ⟨ao', cap', e, hnc, _⟩ := ho.shape
  injection e with e1 e2 e3
  subst e1 e2 e3
  have hz : (List.zipWith K.cells xs vss).length = xs.length := by simp [hl]
  obtain ⟨g, off, rfl, h1, h2, hc⟩ := ho.elt (zip_len K xs vss) hs (i := k) (by omega)
  refine ⟨g, off, rfl, h1, h2, ?_, fun k hk hk' j hj => ?_⟩
  · obtain ⟨c, rfl⟩ : ∃ c, cap = c + 1 := ⟨cap - 1, by omega⟩
    rfl
  · have := hc k (by omega) j (by rw [List.getElem_zipWith]; exact hj)
    simp only [List.getElem_zipWith] at this
    simpa only [Nat.add_assoc] using this
theorem flat_set {L : List (List Value)} {s : Nat} (hL : ∀ l ∈ L, l.length = s) {i j : Nat} (hi : i < L.length) (hj : j < s) (u : Value) : L.flatten.set (i * s + j) u = (L.set i (L[i].set j u)).flatten := by
  induction L generalizing i with
  | nil => exact absurd hi (by simp)
  | cons x L ih =>
    have hx := hL x (by simp)
    cases i with
    | zero =>
      simp only [Nat.zero_mul, Nat.zero_add, List.flatten_cons, List.set_cons_zero, List.getElem_cons_zero]
      rw [List.set_append_left _ _ (by omega)]
    | succ i =>
      have e : (i + 1) * s + j = x.length + (i * s + j) := by rw [Nat.succ_mul, hx]; omega
      simp only [List.flatten_cons, List.set_cons_succ, List.getElem_cons_succ]
      rw [e, List.set_append_right _ _ (by omega), Nat.add_sub_cancel_left, ih (fun l hl => hL l (by simp [hl])) (by simpa using hi)]
theorem zip_set (K : Kind α) {k : Nat} (hk : k < xs.length) (hl : vss.length = xs.length) (x : α) (vs : List Value) : (List.zipWith K.cells xs vss).set k (K.cells x vs) = List.zipWith K.cells (xs.set k x) (vss.set k vs) := by
  induction xs generalizing k vss with
  | nil => exact absurd hk (by simp)
  | cons y xs ih =>
    cases vss with
    | nil => simp at hl
    | cons us vss =>
      cases k with
      | zero => simp
      | succ k => simp [ih (by simpa using hk) (by simpa using hl)]
/-- A field that is written: the element reads as its fields do. -/
theorem OwnG.put {g off n cap : Nat} (h : OwnG K w base (.slice (some ⟨g, off, none⟩) n cap) xs vss) {k j : Nat} (hk : k < xs.length) (hk' : k < vss.length) (hj : j < K.sz) (u : Value) (x : α) (hx : K.cells x vss[k] = (K.cells xs[k] vss[k]).set j u) (hr : K.rows x = K.rows xs[k]) :
    OwnG K (w.setCell ⟨g, off + k * K.sz + j, none⟩ u) base (.slice (some ⟨g, off, none⟩) n cap) (xs.set k x) vss := by
  have hl := h.len
  have ho := h.row.own (by omega)
  obtain ⟨ao', cap', e, hnc, _⟩ := ho.shape
  injection e with e1 e2 e3
  subst e2 e3
  have hzl : (List.zipWith K.cells xs vss).length = xs.length := by simp [hl]
  have hfl := flat_len (zip_len K xs vss)
  have hkk : k * K.sz + j < (List.zipWith K.cells xs vss).flatten.length := by
    rw [hfl, hzl]
    have : k * K.sz + K.sz ≤ xs.length * K.sz := by rw [← Nat.succ_mul]; exact Nat.mul_le_mul_right _ hk
    omega
  have hp := ho.put (k * K.sz + j) u hkk
  rw [flat_set (zip_len K xs vss) (by omega) hj] at hp
  simp only [List.getElem_zipWith] at hp
  rw [← hx, zip_set K hk hl, List.set_getElem_self, ← Nat.add_assoc] at hp
  have hob : ob (.slice (some ⟨g, off, none⟩) xs.length cap) = some g := by
    obtain ⟨c, rfl⟩ : ∃ c, cap = c + 1 := ⟨cap - 1, by omega⟩
    rfl
  have hch : Chg (fun b => b = g) w (w.setCell ⟨g, off + k * K.sz + j, none⟩ u) := Chg.put (S := fun b => b = g) (Chg.refl _ w) (a := ⟨g, off + k * K.sz + j, none⟩) rfl u
  refine ⟨by simpa using hl, by rw [List.length_set]; exact .inl hp, fun i hi hi' => ?_, h.sep⟩
  have hi0 : i < xs.length := by simpa using hi
  obtain ⟨e, hin⟩ := h.inn i hi0 hi'
  have er : K.rows ((xs.set k x)[i]) = K.rows xs[i] := by
    rw [List.getElem_set]
    split
    · rename_i ek; subst ek; exact hr
    · rfl
  refine ⟨by rw [e, er], fun j' hj' hj'' => ?_⟩
  have hjr : j' < (K.rows xs[i]).length := by omega
  have hh := CRow.chg (hin j' hj' hjr) hch (fun b hb ebg => by
    subst ebg
    exact h.sep.one i hi' j' hj' b hob hb)
  have e2 : (K.rows ((xs.set k x)[i]))[j'] = (K.rows xs[i])[j'] := by simp only [er]
  rw [e2]; exact hh
/-- A row within a field that was written over: the others stay. -/
theorem OwnG.turn {k j : Nat} (h : OwnG K w base v xs vss) (hk : k < xs.length) (hk' : k < vss.length) (hj : j < vss[k].length) (x : α) (r : Inn) (hch : Chg (fun b => ob vss[k][j] = some b) w w1) (hi : InnAt w1 base vss[k][j] r)
    (hx : K.cells x vss[k] = K.cells xs[k] vss[k]) (hr : K.rows x = (K.rows xs[k]).set j r) : OwnG K w1 base v (xs.set k x) vss := by
  have hl := h.len
  have hz : List.zipWith K.cells (xs.set k x) vss = List.zipWith K.cells xs vss := by
    rw [show vss = vss.set k vss[k] by rw [List.set_getElem_self], ← zip_set K hk hl]
    simp only [List.set_getElem_self]
    rw [hx, show K.cells xs[k] vss[k] = (List.zipWith K.cells xs vss)[k]'(by simp; omega) by simp, List.set_getElem_self]
  refine ⟨by simpa using hl, ?_, fun i hi0 hi' => ?_, h.sep⟩
  · rw [List.length_set, hz]
    exact h.row.chg hch (fun b hb hb2 => h.sep.one k hk' j hj b hb hb2)
  · have hi1 : i < xs.length := by simpa using hi0
    obtain ⟨e, hin⟩ := h.inn i hi1 hi'
    by_cases eik : i = k
    · subst eik
      have er : K.rows ((xs.set i x)[i]) = (K.rows xs[i]).set j r := by rw [List.getElem_set_self, hr]
      refine ⟨by rw [e, er, List.length_set], fun q hq hq' => ?_⟩
      have e2 : (K.rows ((xs.set i x)[i]))[q] = ((K.rows xs[i]).set j r)[q]'(by rw [List.length_set]; omega) := by simp only [er]
      rw [e2, List.getElem_set]
      split
      · rename_i ejq; subst ejq; exact hi
      · rename_i ejq
        exact CRow.chg (hin q hq (by omega)) hch (fun b hb hb2 => h.sep.two i hi' q hq i hi' j hj (.inr (fun e => ejq e.symm)) b hb hb2)
    · have er : (xs.set k x)[i] = xs[i] := List.getElem_set_ne (fun e => eik e.symm) _
      refine ⟨by rw [er]; exact e, fun q hq hq' => ?_⟩
      have e2 : (K.rows ((xs.set k x)[i]))[q] = (K.rows xs[i])[q]'(by omega) := by simp only [er]
      rw [e2]
      exact CRow.chg (hin q hq (by omega)) hch (fun b hb hb2 => h.sep.two i hi' q hq k hk' j hj (.inl eik) b hb hb2)
/-- Behind 'append': what the row is, what stays. -/
structure GrownC (w : World) (base t sz : Nat) (v : Value) (n : Nat) (cs : List Value) (v' : Value) (w' : World) : Prop where
  row : CRow w' base t sz v' n cs
  kept : w.grownBy w' (ob v)
  at_ : ∀ b, ob v' = some b → ob v = some b ∨ w.heap.size ≤ b
theorem GrownC.chg {t sz n : Nat} {cs : List Value} {v' : Value} (h : GrownC w base t sz v n cs v' w1) : Chg (fun b => ob v = some b) w w1 := Chg.of_grown h.kept (fun _ e => e)
theorem run_append_crow {P : Program} (w : World) (ts t tx ty : TypeId) (i : TypeInfo) (z : Value) (sz bytes : Nat) (hts : P.underlying ts = some (.slice t)) (hi : P.info? t = some i) (hz : i.zero = some z) (hsz : i.size = sz) (hby : i.bytes = bytes) (hzs : z.cells.size = sz)
    (base : Nat) (ao : Option Addr) (n cap : Nat) (cs : List Value) (hq : CRow w base t sz (.slice ao n cap) n cs) (hbase : base ≤ w.heap.size) (x : Value) (m : Nat) (news : List Value) (hs : Src P sz tx x m news w) (hlen : (n + m) * bytes ≤ 140737488355328) (hmax : n + m ≤ maxLen) :
    ∃ v' w', (Builtin.append_ #[ts, tx] ty #[.slice ao n cap, x]).run P w = .ok v' w' ∧ GrownC w base t sz (.slice ao n cap) (n + m) (cs ++ news) v' w' := by
  by_cases hc : cap = 0
  · have hn0 : n = 0 := by
      obtain ⟨_, _, e, h1, _⟩ := hq.shape
      injection e with e1 e2 e3
      omega
    subst hc hn0
    obtain rfl : cs = [] := List.eq_nil_of_length_eq_zero (by simpa using hq.len)
    subst hsz hby
    have hob : ob (.slice ao 0 0) = none := by cases ao <;> rfl
    have old : ∀ W : World, (Builtin.firstCells i.size 0 (.slice ao 0 0)).run P W = .ok ([] : List Value).toArray W := fun W => by
      cases ao with
      | none => exact run_firstCells_none W i.size 0 0 0
      | some a => exact run_firstCells_some W i.size 0 _ 0 0 [] (by simp) (fun j u hu => by simp at hu)
    by_cases hm : m = 0
    · subst hm
      obtain rfl : news = [] := List.eq_nil_of_length_eq_zero (by simpa using hs.newsLen)
      have := run_append_nothing (P := P) w ts tx ty t i hts hi ao 0 0 (by omega) x hs
      exact ⟨_, _, this, .inr ⟨rfl, rfl, ao, rfl⟩, ⟨rfl, rfl, rfl, Nat.le_refl _, fun _ _ _ => rfl⟩, fun b hb => .inl hb⟩
    · have hrun := run_append_grow_src (P := P) w ts tx ty t i z hts hi hz ao 0 0 [] (old w.drew) x m news hs (by omega) (by unfold maxLen at hmax; omega) (growslice_fits (by omega) hlen)
      have hge := grownCap_ge w (0 + m) 0 t
      have hcm := grownCap_le_maxLen w (0 + m) 0 t hmax
      have hl : ([] ++ news).length = (0 + m) * i.size := by rw [List.nil_append, hs.newsLen, Nat.zero_add]
      have hle : (0 + m) * i.size ≤ grownCap w (0 + m) 0 t * i.size := Nat.mul_le_mul_right _ hge
      refine ⟨_, _, hrun, .inl ⟨some ⟨w.heap.size, 0, none⟩, _, rfl, hge, hcm, hl, (fun e => by cases e), (fun a e => by cases e; exact ⟨hbase, by simp⟩), fun _ => ⟨w.heap.size, 0, _, rfl, heap_alloc_new w.drew _, ?_, fun k hk => ?_⟩⟩, ⟨rfl, rfl, rfl, by simp, fun k hk _ => heap_alloc_old w.drew _ hk⟩, fun b hb => ?_⟩
      · simp only [Array.size_append, List.size_toArray, size_zeroCells, hzs, hl, ← Nat.add_mul]
        rw [Nat.zero_add, show 0 + m + (grownCap w (0 + m) 0 t - (0 + m)) = grownCap w (0 + m) 0 t by omega]
        exact Nat.le_refl _
      · rw [Nat.zero_add, Array.getElem?_append_left (by simpa using hk)]
        simp
      · have := ob_own hb
        cases this
        exact .inr (Nat.le_refl _)
  · have ho : ORow w base t sz (.slice ao n cap) n cs := by
      rcases hq with h | ⟨_, _, ao', e⟩
      · exact h
      · injection e with e1 e2 e3; omega
    obtain ⟨v', w', hrun, hg⟩ := run_append_row (P := P) w ts t tx ty i z sz bytes hts hi hz hsz hby hzs base ao n cap cs ho hbase x m news hs hlen hmax
    have hob : ob (.slice ao n cap) = (Value.slice ao n cap).ownBlock := by
      obtain ⟨c, rfl⟩ : ∃ c, cap = c + 1 := ⟨cap - 1, by omega⟩
      cases ao <;> rfl
    refine ⟨v', w', hrun, .inl hg.row, by rw [hob]; exact hg.kept, fun b hb => ?_⟩
    have hb' := ob_own hb
    rcases hg.at_ with e | ⟨g, e, hgg⟩
    · exact .inl (by rw [hob, ← e]; exact hb')
    · rw [e] at hb'; cases hb'; exact .inr hgg
theorem wpList_append_crow {P : Program} {ops : Array Oper} {rest : List Oper} {o : Oper} {a : Act} {Q : Exit → Act → World → Prop} (w : World) (hg : o.guard = none) (s x : Operand) (ts tx t : TypeId)
    (hop : o.op = Op.call { callee := Callee.builtin Builtin.append, args := #[s, x], argTypes := #[ts, tx] }) (i : TypeInfo) (z : Value) (sz bytes : Nat) (hts : P.underlying ts = some (.slice t)) (hi : P.info? t = some i) (hz : i.zero = some z) (hsz : i.size = sz) (hby : i.bytes = bytes) (hzs : z.cells.size = sz)
    (base : Nat) (v : Value) (n : Nat) (cs : List Value) (hs : a.eval s = v) (hq : CRow w base t sz v n cs) (hbase : base ≤ w.heap.size)
    (xv : Value) (m : Nat) (news : List Value) (hx : a.eval x = xv) (hsrc : Src P sz tx xv m news w) (hlen : (n + m) * bytes ≤ 140737488355328) (hmax : n + m ≤ maxLen)
    (h : ∀ v' w', GrownC w base t sz v (n + m) (cs ++ news) v' w' → wpList P ops Q rest (a.put o.dst v') w') : wpList P ops Q (o :: rest) a w := by
  refine wpList_plain hg fun K hK' => ?_
  obtain ⟨ao, cap, rfl, _, _⟩ := hq.shape
  obtain ⟨v', w', hrun, r⟩ := run_append_crow (P := P) w ts t tx o.type i z sz bytes hts hi hz hsz hby hzs base ao n cap cs hq hbase xv m news hsrc hlen hmax
  unfold Oper.wp
  simp [execOp, hop, resolve, invoke, builtin, hs, hx, hrun, Result.andThen]
  exact hK' _ _ (h v' w' r)
/-- An element more. -/
theorem OwnG.grow {v' : Value} {x : α} {vs : List Value} (h : OwnG K w base v xs vss) (hG : GrownC w base K.t K.sz v (xs.length + 1) ((List.zipWith K.cells xs vss).flatten ++ K.cells x vs) v' w1)
    (hvl : vs.length = (K.rows x).length) (hin : ∀ j (hj : j < vs.length) (hj' : j < (K.rows x).length), InnAt w base vs[j] (K.rows x)[j])
    (hov : ∀ j (hj : j < vs.length) b, ob vs[j] = some b → ob v ≠ some b) (hself : ∀ j (hj : j < vs.length) j' (hj' : j' < vs.length), j ≠ j' → ∀ b, ob vs[j] = some b → ob vs[j'] ≠ some b)
    (hother : ∀ j (hj : j < vs.length) b, ob vs[j] = some b → ∀ k (hk : k < vss.length) q (hq : q < vss[k].length), ob vss[k][q] ≠ some b) : OwnG K w1 base v' (xs ++ [x]) (vss ++ [vs]) := by
  have hl := h.len
  have hch := hG.chg
  have far : ∀ {u : Value} {r : Inn}, InnAt w base u r → (∀ b, ob u = some b → ob v ≠ some b) → InnAt w1 base u r ∧ ∀ b, ob v' = some b → ob u ≠ some b := fun {u r} hu hne =>
    ⟨CRow.chg hu hch (fun b hb e => hne b hb e), fun b hb hub => by
      rcases hG.at_ b hb with e | e
      · exact hne b hub e
      · have := (CRow.in_ hu b hub).2; omega⟩
  refine ⟨by simp [hl], ?_, fun k hk hk' => ?_, ?_⟩
  · have := hG.row
    rw [List.length_append, List.zipWith_append hl.symm, List.flatten_append]
    simpa using this
  · rcases Nat.lt_or_ge k xs.length with hlt | hge
    · have hlt' : k < vss.length := by omega
      have e1 : (vss ++ [vs])[k] = vss[k] := List.getElem_append_left hlt'
      have e2 : (xs ++ [x])[k] = xs[k] := List.getElem_append_left hlt
      obtain ⟨e, hi⟩ := h.inn k hlt hlt'
      simp only [e1, e2]
      exact ⟨e, fun j hj hj' => (far (hi j hj hj') (fun b hb e => h.sep.one k hlt' j hj b e hb)).1⟩
    · have hkx : k = xs.length := by rw [List.length_append] at hk; simp at hk; omega
      have e1 : (vss ++ [vs])[k]'hk' = vs := by rw [List.getElem_append_right (by omega)]; simp [hl, hkx]
      have e2 : (xs ++ [x])[k] = x := by rw [List.getElem_append_right (by omega)]; simp [hkx]
      simp only [e1, e2]
      exact ⟨hvl, fun j hj hj' => (far (hin j hj hj') (fun b hb e => hov j hj b hb e)).1⟩
  · have get : ∀ k (hk : k < (vss ++ [vs]).length), (∃ hlt : k < vss.length, (vss ++ [vs])[k] = vss[k]) ∨ (k = vss.length ∧ (vss ++ [vs])[k] = vs) := fun k hk => by
      rcases Nat.lt_or_ge k vss.length with hlt | hge
      · exact .inl ⟨hlt, List.getElem_append_left hlt⟩
      · have hkx : k = vss.length := by rw [List.length_append] at hk; simp at hk; omega
        exact .inr ⟨hkx, by rw [List.getElem_append_right (by omega)]; simp [hkx]⟩
    constructor
    · intro k hk j hj b hb
      rcases get k hk with ⟨hlt, e⟩ | ⟨_, e⟩
      · simp only [e] at hj ⊢
        obtain ⟨_, hi⟩ := h.inn k (by omega) hlt
        exact (far (hi j hj (by omega)) (fun b hb e => h.sep.one k hlt j hj b e hb)).2 b hb
      · simp only [e] at hj ⊢
        exact (far (hin j hj (by omega)) (fun b hb e => hov j hj b hb e)).2 b hb
    · intro k hk j hj k' hk' j' hj' hne b hb
      rcases get k hk with ⟨hlt, e⟩ | ⟨ek, e⟩ <;> rcases get k' hk' with ⟨hlt', e'⟩ | ⟨ek', e'⟩
      · simp only [e] at hj hb; simp only [e'] at hj' ⊢
        exact h.sep.two k hlt j hj k' hlt' j' hj' hne b hb
      · simp only [e] at hj hb; simp only [e'] at hj' ⊢
        exact fun hb' => hother j' hj' b hb' k hlt j hj hb
      · simp only [e] at hj hb; simp only [e'] at hj' ⊢
        exact hother j hj b hb k' hlt' j' hj'
      · simp only [e] at hj hb; simp only [e'] at hj' ⊢
        exact hself j hj j' hj' (hne.resolve_left (by omega)) b hb
/-- 's[:m]'. -/
theorem CRow.take {t sz n cap : Nat} {ao : Option Addr} {cs : List Value} (h : CRow w base t sz (.slice ao n cap) n cs) (m : Nat) (hm : m ≤ n) : CRow w base t sz (.slice ao m cap) m (cs.take (m * sz)) := by
  rcases h with h | ⟨rfl, rfl, ao', e⟩
  · exact .inl (h.take m hm)
  · cases e
    obtain rfl : m = 0 := by omega
    exact .inr ⟨rfl, by simp, ao, rfl⟩
theorem flat_take {L : List (List Value)} {s : Nat} (hL : ∀ l ∈ L, l.length = s) (m : Nat) : L.flatten.take (m * s) = (L.take m).flatten := by
  induction L generalizing m with
  | nil => simp
  | cons x L ih =>
    have hx := hL x (by simp)
    cases m with
    | zero => simp
    | succ m =>
      rw [List.flatten_cons, List.take_succ_cons, List.flatten_cons, ← ih (fun l hl => hL l (by simp [hl])), Nat.succ_mul, List.take_append, hx]
      rw [show m * s + s - s = m * s by omega, List.take_of_length_le (by omega)]
theorem OwnG.take {n cap : Nat} {ao : Option Addr} (h : OwnG K w base (.slice ao n cap) xs vss) (m : Nat) (hm : m ≤ xs.length) : OwnG K w base (.slice ao m cap) (xs.take m) (vss.take m) := by
  have hl := h.len
  have hlm : (xs.take m).length = m := by simp; omega
  obtain ⟨_, _, e, _, _⟩ := h.row.shape
  injection e with e1 e2 e3
  subst e2
  have hsh : ∀ b, ob (.slice ao m cap) = some b → ob (.slice ao xs.length cap) = some b := fun b hb => by
    cases ao with
    | none => cases hb
    | some a => cases cap <;> exact hb
  refine ⟨by simp [hl], ?_, fun k hk hk' => ?_, ?_, ?_⟩
  · rw [hlm]
    have := h.row.take m hm
    rwa [flat_take (zip_len K xs vss), List.take_zipWith] at this
  · have hk1 : k < xs.length := by rw [List.length_take] at hk; omega
    have hk2 : k < vss.length := by omega
    simp only [List.getElem_take]
    exact h.inn k hk1 hk2
  · intro k hk j hj b hb
    have hk2 : k < vss.length := by rw [List.length_take] at hk; omega
    simp only [List.getElem_take] at hj ⊢
    exact h.sep.one k hk2 j hj b (hsh b hb)
  · intro k hk j hj k' hk' j' hj' hne b hb
    have hk2 : k < vss.length := by rw [List.length_take] at hk; omega
    have hk3 : k' < vss.length := by rw [List.length_take] at hk'; omega
    simp only [List.getElem_take] at hj hj' hb ⊢
    exact h.sep.two k hk2 j hj k' hk3 j' hj' hne b hb
theorem OwnG.nil (K : Kind α) (w : World) (base : Nat) : OwnG K w base (.slice none 0 0) [] [] :=
  ⟨rfl, CRow.nil _ _ _ _, fun _ h => absurd h (by simp), fun _ h => absurd h (by simp), fun _ h => absurd h (by simp)⟩
end
end Go.Proofs.YtjghibdlmmjobaaGreatDoor

namespace Go.Proofs.YtjghibdlmmjobaaGreatDoor
open Go.RowKit

/-- A frame's cells; its rows. -/
def KFr : Kind Frm where
  t := 54
  sz := 4
  m := 2
  cells := fun f vs => [.int .i64 f.fn, .int .i64 f.pc, vs.getD 0 undef, vs.getD 1 undef]
  rows := fun f => [innI f.locals, innI f.stack]
  len := fun _ _ => rfl
def OwnFr (w : World) (base : Nat) (v : Value) (fs : List Frm) (vss : List (List Value)) : Prop := OwnG KFr w base v fs vss
theorem two_of {l : List Value} (h : l.length = 2) : ∃ a b, l = [a, b] := by match l, h with | [a, b], _ => exact ⟨a, b, rfl⟩
/-- A frame's fields, out of its row. -/
theorem OwnFr.at_ {w : World} {base n cap : Nat} {ao : Option Addr} {fs : List Frm} {vss : List (List Value)} (h : OwnFr w base (.slice ao n cap) fs vss) {k : Nat} (hk : k < fs.length) :
    ∃ g off, ao = some ⟨g, off, none⟩ ∧ base ≤ g ∧ g < w.heap.size ∧ ob (.slice ao n cap) = some g ∧ ∃ hk' : k < vss.length, ∃ A1 c1 A2 c2, vss[k] = [.slice A1 fs[k].locals.length c1, .slice A2 fs[k].stack.length c2] ∧
      InnAt w base (.slice A1 fs[k].locals.length c1) (innI fs[k].locals) ∧ InnAt w base (.slice A2 fs[k].stack.length c2) (innI fs[k].stack) ∧
      w.cell? ⟨g, off + k * 4, none⟩ = some (.int .i64 fs[k].fn) ∧ w.cell? ⟨g, off + k * 4 + 1, none⟩ = some (.int .i64 fs[k].pc) ∧ w.cell? ⟨g, off + k * 4 + 2, none⟩ = some (.slice A1 fs[k].locals.length c1) ∧ w.cell? ⟨g, off + k * 4 + 3, none⟩ = some (.slice A2 fs[k].stack.length c2) ∧
      ∀ j, j < 4 → w.frozen? ⟨g, off + k * 4 + j, none⟩ = false := by
  have hl := h.len
  have hk' : k < vss.length := by omega
  obtain ⟨g, off, rfl, h1, h2, h3, hc⟩ := OwnG.cell h (by decide) hk
  obtain ⟨e, hi⟩ := h.inn k hk hk'
  obtain ⟨a, b, eab⟩ := two_of (show vss[k].length = 2 from e)
  have i0 := hi 0 (by rw [eab]; simp) (by simp [KFr])
  have i1 := hi 1 (by rw [eab]; simp) (by simp [KFr])
  have e0 : vss[k][0]'(by rw [eab]; simp) = a := by simp [eab]
  have e1 : vss[k][1]'(by rw [eab]; simp) = b := by simp [eab]
  rw [e0] at i0
  rw [e1] at i1
  have i0' : InnAt w base a (innI fs[k].locals) := i0
  have i1' : InnAt w base b (innI fs[k].stack) := i1
  obtain ⟨A1, c1, ea, _, _⟩ := CRow.shape i0'
  obtain ⟨A2, c2, eb, _, _⟩ := CRow.shape i1'
  subst ea eb
  have cc := fun j (hj : j < 4) => hc k hk hk' j hj
  have c0 := (cc 0 (by decide)).1
  have c1' := (cc 1 (by decide)).1
  have c2' := (cc 2 (by decide)).1
  have c3' := (cc 3 (by decide)).1
  simp only [KFr, eab, List.getElem_cons_zero, List.getElem_cons_succ, List.getD_cons_zero, List.getD_cons_succ, Nat.add_zero] at c0 c1' c2' c3'
  exact ⟨g, off, rfl, h1, h2, h3, hk', A1, c1, A2, c2, eab, i0', i1', c0, c1', c2', c3', fun j hj => (cc j hj).2⟩
theorem OwnFr.reads {w : World} {base n cap : Nat} {ao : Option Addr} {fs : List Frm} {vss : List (List Value)} (h : OwnFr w base (.slice ao n cap) fs vss) : n = fs.length ∧ ReadsFr w ao fs := by
  obtain ⟨_, _, e, hm1, hm2⟩ := h.row.shape
  injection e with e1 e2 e3
  refine ⟨e2, by unfold maxLen at hm2; omega, fun h0 => ?_⟩
  obtain ⟨g, off, rfl, _⟩ := h.at_ (k := 0) h0
  refine ⟨_, rfl, fun k hk => ?_⟩
  obtain ⟨g', off', e, _, _, _, _, A1, c1, A2, c2, _, i0, i1, c0, c1', c2', c3', _⟩ := h.at_ hk
  cases e
  rw [Addr.add_lit]
  exact ⟨c0, c1', ⟨A1, c1, c2', CRow.ints i0⟩, A2, c2, c3', CRow.ints i1⟩
/-- An own state. -/
structure OwnS (w : World) (base : Nat) (s : Stt) (fv ov : Value) (vss : List (List Value)) : Prop where
  fr : OwnFr w base fv s.frames vss
  out : CRow w base 3 1 ov s.out.length (intsV s.out)
  sep : ∀ u ∈ fv :: vss.flatten, ∀ b, ob u = some b → ob ov ≠ some b
theorem OwnS.below {w w1 : World} {base : Nat} {s : Stt} {fv ov : Value} {vss : List (List Value)} (h : OwnS w base s fv ov vss) (hb : Below w.heap.size w w1) : OwnS w1 base s fv ov vss := ⟨OwnG.below h.fr hb, h.out.below hb, h.sep⟩
theorem OwnS.mono {w : World} {base base' : Nat} {s : Stt} {fv ov : Value} {vss : List (List Value)} (h : OwnS w base s fv ov vss) (hb : base' ≤ base) : OwnS w base' s fv ov vss := ⟨OwnG.mono h.fr hb, h.out.mono hb, h.sep⟩

def beginL (args : List Int) (L : Nat) : List Int := args ++ List.replicate (L - args.length) 0
theorem beginL_len {args : List Int} {L : Nat} (h : args.length ≤ L) : (beginL args L).length = L := by simp [beginL]; omega
theorem copy_begin {w : World} {g L c : Nat} {A : Option Addr} {args : List Int} (h : RowAt 3 g (intsV (List.replicate L 0)) w) (hr : ReadsI w A args) (hle : args.length ≤ L) :
    ∃ w', (Builtin.copy_ #[28, 28] 3 #[.slice (some ⟨g, 0, none⟩) L L, .slice A args.length c]).run Tryz.prog w = .ok (.int .i64 args.length) w' ∧ RowAt 3 g (intsV (beginL args L)) w' ∧ (∀ w0, Below w0.heap.size w0 w → w0.heap.size ≤ g → Below w0.heap.size w0 w') := by
  by_cases h0 : args.length = 0
  · obtain rfl : args = [] := List.eq_nil_of_length_eq_zero h0
    refine ⟨w, run_copy_none w 28 28 3 3 _ _ _ _ _ _ Tryz.underlying28 size_int (by simp), by simpa [beginL] using h, fun w0 hb _ => hb⟩
  · obtain ⟨ad, rfl, hc⟩ := hr.2 (by omega)
    have hrun := run_copy_row (P := Tryz.prog) w 28 28 3 3 g 0 L L ad args.length c _ 3 (intsV args) Tryz.underlying28 size_int h (by rw [intsV_len]; exact (Nat.min_eq_left hle).symm) (fun j v hj => by
      obtain ⟨hj', rfl⟩ := List.getElem?_eq_some_iff.1 hj
      have hj2 : j < args.length := by simpa [intsV] using hj'
      rw [hc j hj2]; simp [intsV]) (by simp [intsV]; omega) (by intro v hv; simp [intsV] at hv; obtain ⟨_, _, rfl⟩ := hv; rfl)
    rw [show goInt (intsV args).length = .int .i64 args.length by rw [intsV_len]; rfl] at hrun
    refine ⟨_, hrun, ?_, fun w0 hb hg => below_setRow hb hg _⟩
    have e := setRow_heap w g (intsV (List.replicate L 0)).toArray (intsV (beginL args L)).toArray 3 (0, 0) h
    unfold RowAt
    rw [← e]
    have e2 : (List.take 0 (intsV (List.replicate L 0)).toArray.toList ++ intsV args ++ List.drop (0 + (intsV args).length) (intsV (List.replicate L 0)).toArray.toList) = intsV (beginL args L) := by
      unfold beginL intsV
      rw [List.map_append]
      simp only [List.take_zero, List.nil_append, Nat.zero_add, List.length_map, List.map_replicate, List.drop_replicate]
    rw [e2]
/-- What 'Begin' answers. -/
def BeginE (fn : Int) (args : List Int) (L : Nat) (w : World) (e : Ending) (w' : World) : Prop :=
  ∃ g, e = .returned (.agg #[.int .i64 fn, .int .i64 0, .slice (some ⟨g, 0, none⟩) L L, .slice none 0 0]) ∧ RowAt 3 g (intsV (beginL args L)) w' ∧ w.heap.size ≤ g ∧ Below w.heap.size w w'
set_option maxRecDepth 100000 in
set_option maxHeartbeats 1000000 in
theorem begin_any (P : Addr) (p : List Fn) (Ap A : Option Addr) (cp c n L : Nat) (args : List Int) (w : World) (hP : w.cell? P = some (.slice Ap p.length cp)) (hr : ReadsF w Ap p) (hn : n < p.length) (hL : p[n].locals = L) (h8 : L ≤ 100) (ha : ReadsI w A args) (hle : args.length ≤ L) :
    Calls Tryz.prog 130 #[.pointer (some P), .int .i64 n, .slice A args.length c] w (BeginE n args L w) := by
  obtain ⟨w1, hw1⟩ : ∃ w1, w.alloc (.cells #[.int .i64 0, .int .i64 0, .slice none 0 0, .slice none 0 0] 54) = w1 := ⟨_, rfl⟩
  have b1 : Below w.heap.size w w1 := hw1 ▸ below_alloc (Below.refl _ _) _
  have z1 : w1.heap.size = w.heap.size + 1 := by rw [← hw1]; simp
  have r1 : RowAt 54 w.heap.size [.int .i64 0, .int .i64 0, .slice none 0 0, .slice none 0 0] w1 := hw1 ▸ RowAt.new _ _ w
  have p1 := cell_below b1 hP
  obtain ⟨ad, rfl, Ac, cc, hF⟩ := fnAt_of hr b1 hn
  have k1 := hF.c1
  rw [hL] at k1
  have hmk := make_ints L h8 w1
  obtain ⟨w2, hw2⟩ : ∃ w2, w1.alloc (.cells (intsV (List.replicate L 0)).toArray 3) = w2 := ⟨_, rfl⟩
  have b2 : Below w1.heap.size w1 w2 := hw2 ▸ below_alloc (Below.refl _ _) _
  have r2 : RowAt 3 w1.heap.size (intsV (List.replicate L 0)) w2 := hw2 ▸ RowAt.new _ _ w1
  obtain ⟨w3, hrun, hr3, hb3⟩ := copy_begin (c := c) r2 ((ha.below b1).below b2) hle
  have b3 := hb3 w (below_trans b1 b2) (by omega)
  have b13 := hb3 w1 b2 (Nat.le_refl _)
  have q1 := r1.below b13
  have f0 := q1.free 0
  have f1 := q1.free 1
  have f2 := q1.free 2
  have f3 := q1.free 3
  have g0 := q1.cell (k := 0) (by simp)
  have g1 := q1.cell (k := 1) (by simp)
  have g2 := q1.cell (k := 2) (by simp)
  have g3 := q1.cell (k := 3) (by simp)
  simp only [List.getElem_cons_succ, List.getElem_cons_zero] at g0 g1 g2 g3
  have s1 := q1.put 0 (.int .i64 n)
  have s2 := s1.put 1 (.int .i64 0)
  have s3 := s2.put 2 (.slice (some ⟨w1.heap.size, 0, none⟩) L L)
  have s4 := s3.put 3 (.slice none 0 0)
  have e0 := s1.cell (k := 0) (by simp)
  have e1 := s2.cell (k := 1) (by simp)
  have e2 := s3.cell (k := 2) (by simp)
  have e3 := s4.cell (k := 3) (by simp)
  simp only [List.set_cons_zero, List.set_cons_succ, List.getElem_cons_succ, List.getElem_cons_zero] at e0 e1 e2 e3
  have kb : ∀ (W : World) (k : Nat) (u : Value), Below w.heap.size w W → Below w.heap.size w (W.setCell ⟨w.heap.size, k, none⟩ u) := fun W k u hb => hb.setCell (p := ⟨w.heap.size, k, none⟩) (Nat.le_refl _) u
  have b4 := kb _ 3 (.slice none 0 0) (kb _ 2 (.slice (some ⟨w1.heap.size, 0, none⟩) L L) (kb _ 1 (.int .i64 0) (kb _ 0 (.int .i64 n) b3)))
  have kr : ∀ (W : World) (k : Nat) (u : Value), RowAt 3 w1.heap.size (intsV (beginL args L)) W → RowAt 3 w1.heap.size (intsV (beginL args L)) (W.setCell ⟨w.heap.size, k, none⟩ u) := fun W k u h => h.keeps (g := w.heap.size) (Keeps.put (Keeps.refl _ _) k u) (by omega)
  have r4 := kr _ 3 (.slice none 0 0) (kr _ 2 (.slice (some ⟨w1.heap.size, 0, none⟩) L L) (kr _ 1 (.int .i64 0) (kr _ 0 (.int .i64 n) hr3)))
  have B4 := Lib.hid b4
  have R4 := Lib.hid r4
  have E0 := Lib.hid e0
  have E1 := Lib.hid e1
  have E2 := Lib.hid e2
  have E3 := Lib.hid e3
  clear s1 s2 s3 s4 e0 e1 e2 e3 kb b4 kr r4
  rw [hw2] at hmk
  have B3 := Lib.hid b3
  have R3 := Lib.hid hr3
  have Z1 := Lib.hid z1
  have hpn := hr.1
  clear b1 b2 r1 r2 hr3 hb3 b3 b13 q1 hw2 hP hr hF ha z1
  go_enter Tryz.func130, Tryz.ntmps130
  go_wp2_with fail
  exact bodyPost_ret (v := .agg #[.int .i64 n, .int .i64 0, .slice (some ⟨w1.heap.size, 0, none⟩) L L, .slice none 0 0]) (by simp [results, Tryz.results130, go_sem, E0.out, E1.out, E2.out, E3.out]) rfl ⟨w1.heap.size, rfl, R4.out, by have := Z1.out; omega, B4.out⟩
end Go.Proofs.YtjghibdlmmjobaaGreatDoor

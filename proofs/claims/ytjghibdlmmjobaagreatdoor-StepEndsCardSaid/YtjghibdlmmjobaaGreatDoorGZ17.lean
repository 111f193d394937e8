/- 'pop', 'push', 'Give' of the program's steps: on a frame at a place. Conditions: the frame is the call's own; the stack is not empty, not long. A frame of a row of frames is a frame at a place; a turn of it is a turn of the row. Plain lemmas. 'wrap.Do': an operation of two numbers. Condition: they are numbers, it is an operation. -/
import Derived.Test.YtjghibdlmmjobaaGreatDoorGZ16
import Derived.Test.YtjghibdlmmjobaaGreatDoorGZ15
namespace Go.Proofs.YtjghibdlmmjobaaGreatDoor
open Go.RowKit

/-- A call that turns a frame at a place. -/
def FE (r : Value) (f : Frm) (base g off : Nat) (v1 v2 : Value) (w : World) (e : Ending) (w' : World) : Prop :=
  ∃ u, e = .returned r ∧ FTurn w w' base g off f v1 v2 u
/-- 's[:m]'. -/
theorem run_init {P : Program} (ts t : TypeId) (hts : P.underlying ts = some (.slice t)) (i : TypeInfo) (hi : P.info? t = some i) (g off n cap m : Nat) (hm : m ≤ cap) (w : World) : (Instr.slice ts (.slice (some ⟨g, off, none⟩) n cap) none (some (.int .i64 m)) none).run P w = .ok (.slice (some ⟨g, off, none⟩) m cap) w := by
  have he : P.elem ts = t := by simp [Program.elem, hts]
  have hso : ∀ w', (sizeOf t).run P w' = .ok i.size w' := fun w' => by simp [sizeOf, typeInfo, hi]
  rw [run_slice_h (P := P) w ts (some ⟨g, off, none⟩) n cap (by rw [he]; exact hts) .i64 m (by omega) (by omega), he, hso]
  simp [Result.andThen, sliced, add_nil]
theorem lastN_get {l : List Int} (h : 0 < l.length) : lastN l = l[l.length - 1] := by
  have hne : l ≠ [] := by intro e; rw [e] at h; cases h
  unfold lastN
  rw [List.getLastD_eq_getLast?, List.getLast?_eq_some_getLast hne, List.getLast_eq_getElem hne]; rfl
/-- 's[:m]' of a row. -/
theorem take_innI {w : World} {base c m : Nat} {A : Option Addr} {xs : List Int} (h : InnAt w base (.slice A xs.length c) (innI xs)) (hm : m ≤ xs.length) : InnAt w base (.slice A m c) (innI (xs.take m)) := by
  have := CRow.take (show CRow w base 3 1 (.slice A xs.length c) xs.length (intsV xs) from h) m hm
  have e1 : (intsV xs).take (m * 1) = intsV (xs.take m) := by unfold intsV; rw [Nat.mul_one, ← List.map_take]
  rw [e1] at this
  show CRow w base 3 1 _ (xs.take m).length _
  rw [List.length_take, Nat.min_eq_left hm]; exact this
theorem pop_prep {w : World} {base g off : Nat} {f : Frm} {v1 v2 : Value} (h : FAt w base g off f v1 v2) (hs : 0 < f.stack.length) :
    ∃ g2 off2 L c2, v2 = .slice (some ⟨g2, off2, none⟩) (L + 1) c2 ∧ f.stack.length = L + 1 ∧ L + 1 ≤ c2 ∧ L + 1 ≤ 9223372036854775807 ∧ w.cell? ⟨g2, off2 + L, none⟩ = some (.int .i64 (lastN f.stack)) ∧
      FTurn w (w.setCell ⟨g, off + 3, none⟩ (.slice (some ⟨g2, off2, none⟩) L c2)) base g off ⟨f.fn, f.pc, f.locals, f.stack.dropLast⟩ v1 v2 (.slice (some ⟨g2, off2, none⟩) L c2) := by
  obtain ⟨A1, c1, A2, c2, rfl, rfl⟩ := h.shape
  obtain ⟨L, hL⟩ : ∃ L, f.stack.length = L + 1 := ⟨f.stack.length - 1, by omega⟩
  have i2 : CRow w base 3 1 (.slice A2 f.stack.length c2) f.stack.length (intsV f.stack) := h.r2
  obtain ⟨g2, off2, rfl, hg2, hob2, cl, zl⟩ := ints_atF i2 (j := L) (by omega)
  have hcap := CRow.cap i2
  have hn : f.stack.length ≤ 9223372036854775807 := by
    obtain ⟨_, _, e, hle, hmx⟩ := i2.shape
    unfold maxLen at hmx; omega
  have hi3 := take_innI h.r2 (m := L) (by omega)
  have ed : f.stack.take L = f.stack.dropLast := by rw [List.dropLast_eq_take, hL]; rfl
  rw [ed] at hi3
  refine ⟨g2, off2, L, c2, by rw [hL], hL, by omega, by omega, ?_, h.put_stack (Chg.refl _ _) hi3 (fun b e => .inl ?_)⟩
  · rw [cl]; simp only [lastN_get hs, hL, Nat.add_sub_cancel]
  · rw [hob2]; have := ob_own e; cases this; rfl
set_option maxRecDepth 100000 in
set_option maxHeartbeats 4000000 in
theorem pop_at {w : World} {base g off : Nat} {f : Frm} {v1 v2 : Value} (h : FAt w base g off f v1 v2) (hs : 0 < f.stack.length) :
    Calls Tryz.prog 173 #[.pointer (some ⟨g, off, none⟩)] w (FE (.int .i64 (lastN f.stack)) ⟨f.fn, f.pc, f.locals, f.stack.dropLast⟩ base g off v1 v2 w) := by
  obtain ⟨c0, c1, c2', c3, fz⟩ := h.cells
  obtain ⟨g2, off2, L, c2, rfl, hL, hcap, hn, cl, hT⟩ := pop_prep h hs
  have HT := Lib.hid hT
  obtain ⟨i, hi, _⟩ := info_parts info_int
  have RI := run_init (P := Tryz.prog) 28 3 Tryz.underlying28 i hi g2 off2 (L + 1) c2 L (by omega)
  have z3 := fz (off + 3)
  clear h hT hs hL fz c0 c1 c2' hi
  go_enter Tryz.func173, Tryz.ntmps173
  go_wp2_with fail
  go_ret
  exact ⟨_, rfl, HT.out⟩
set_option maxRecDepth 100000 in
set_option maxHeartbeats 4000000 in
theorem push_at {w : World} {base g off : Nat} {f : Frm} {v1 v2 : Value} (h : FAt w base g off f v1 v2) (hb : base ≤ w.heap.size) (hs : f.stack.length ≤ 1000) (x : Int) :
    Calls Tryz.prog 176 #[.pointer (some ⟨g, off, none⟩), .int .i64 x] w (FE (.tuple #[]) ⟨f.fn, f.pc, f.locals, f.stack ++ [x]⟩ base g off v1 v2 w) := by
  obtain ⟨A1, c1, A2, c2, rfl, rfl⟩ := h.shape
  have i2' : CRow w base 3 1 (.slice A2 f.stack.length c2) f.stack.length (intsV f.stack) := h.r2
  have b2 := below_alloc (Below.refl w.heap.size w) (.cells #[.int .i64 x] 3)
  have rN := RowAt.new 3 (intsV [x]) w
  have hsrc : Src Tryz.prog 1 28 (.slice (some ⟨w.heap.size, 0, none⟩) 1 1) 1 (intsV [x]) (w.alloc (.cells #[.int .i64 x] 3)) := ints_src (xs := [x]) Tryz.underlying28 (intsL (xs := [x]) rN (by simp)) (fun e => by cases e)
  obtain ⟨i, hi, hz0, hsz, hbb⟩ := info_parts info_int
  have hc2 := i2'.below b2
  have hlt := h.lt
  obtain ⟨v', w1, hrun, hG⟩ := run_append_crow (P := Tryz.prog) (w.alloc (.cells #[.int .i64 x] 3)) 28 3 28 28 i (.int .i64 0) 1 8 Tryz.underlying28 hi hz0 hsz hbb rfl base A2 f.stack.length c2 (intsV f.stack) hc2 (by have := b2.size; omega)
    (.slice (some ⟨w.heap.size, 0, none⟩) 1 1) 1 (intsV [x]) hsrc (by omega) (by unfold maxLen; omega)
  obtain ⟨ao', cap', rfl, _, _⟩ := hG.row.shape
  have hch : Chg (fun b => ob (.slice A2 f.stack.length c2) = some b) w w1 := (Chg.of_below b2).trans hG.chg (fun b _ e => e)
  have hi3 : InnAt w1 base (.slice ao' (f.stack.length + 1) cap') (innI (f.stack ++ [x])) := by
    have hrow := hG.row
    rw [show intsV f.stack ++ intsV [x] = intsV (f.stack ++ [x]) by simp [intsV]] at hrow
    show CRow w1 base 3 1 _ (f.stack ++ [x]).length _
    rw [List.length_append]; exact hrow
  have hat : ∀ b, ob (.slice ao' (f.stack.length + 1) cap') = some b → ob (.slice A2 f.stack.length c2) = some b ∨ w.heap.size ≤ b := fun b e => (hG.at_ b e).imp id (fun h1 => by simp at h1; omega)
  have HT := Lib.hid (h.put_stack hch hi3 hat)
  obtain ⟨_, _, _, m3, fz⟩ := h.cells
  obtain ⟨t, cur, h0, hcur⟩ := h.blk
  have h01 := (hch.block g hlt h.n2).trans h0
  have h00 := (b2.block g hlt).trans h0
  have m3' := (blk_cell h00 (off + 3)).trans ((blk_cell h0 (off + 3)).symm.trans m3)
  have c3 := (blk_cell h01 (off + 3)).trans ((blk_cell h0 (off + 3)).symm.trans m3)
  have z3 := blk_free h01 (off + 3)
  clear h hb i2' hi3 hch hat fz hG hc2 hsrc rN b2 hi hz0 hsz hbb hlt h0 h00 h01 hcur
  go_enter Tryz.func176, Tryz.ntmps176
  go_wp2_with (first | (at_builtin; refine wpList_append_run _ rfl _ _ _ _ rfl _ _ _ _ rfl rfl hrun ?_) | fail)
  go_end0
  exact ⟨_, rfl, HT.out⟩
theorem give_at {w : World} {base g off : Nat} {f : Frm} {v1 v2 : Value} (h : FAt w base g off f v1 v2) (hb : base ≤ w.heap.size) (hs : f.stack.length ≤ 1000) (x : Int) :
    Calls Tryz.prog 131 #[.pointer (some ⟨g, off, none⟩), .int .i64 x] w (FE (.tuple #[]) ⟨f.fn, f.pc, f.locals, f.stack ++ [x]⟩ base g off v1 v2 w) := by
  have H := Lib.hid (push_at h hb hs x)
  clear h
  go_enter Tryz.func131, Tryz.ntmps131
  go_wp2_with fail
  (with_reducible refine H.out.mono ?_)
  rintro e w' ⟨u, rfl, h1⟩
  go_wp2_with fail
  go_end0
  exact ⟨_, rfl, h1⟩
end Go.Proofs.YtjghibdlmmjobaaGreatDoor

namespace Go.Proofs.YtjghibdlmmjobaaGreatDoor
open Go.RowKit

/-- The blocks of frames. -/
def FrB (v : Value) (vss : List (List Value)) (b : Nat) : Prop := ∃ u ∈ v :: vss.flatten, ob u = some b
section
variable {w w' w1 w2 : World} {base g off n cap : Nat} {v : Value} {fs : List Frm} {vss vs1 vs2 : List (List Value)}
theorem FrB.outer {b : Nat} (h : ob v = some b) : FrB v vss b := ⟨_, List.mem_cons_self .., h⟩
theorem FrB.inner {k j b : Nat} (hk : k < vss.length) (hj : j < vss[k].length) (h : ob vss[k][j] = some b) : FrB v vss b := ⟨_, List.mem_cons_of_mem _ (List.mem_flatten.2 ⟨_, List.getElem_mem hk, List.getElem_mem hj⟩), h⟩
theorem FrB.set {k b : Nat} {us : List Value} (h : FrB v (vss.set k us) b) : FrB v vss b ∨ ∃ u ∈ us, ob u = some b := by
  obtain ⟨u, hu, e⟩ := h
  rcases List.mem_cons.1 hu with rfl | hu
  · exact .inl ⟨_, List.mem_cons_self .., e⟩
  · obtain ⟨l, hl, hul⟩ := List.mem_flatten.1 hu
    rcases List.mem_or_eq_of_mem_set hl with h1 | rfl
    · exact .inl ⟨u, List.mem_cons_of_mem _ (List.mem_flatten.2 ⟨l, h1, hul⟩), e⟩
    · exact .inr ⟨u, hul, e⟩
theorem FrB.trans (hc1 : Chg (FrB v vss) w w1) (hf1 : ∀ b, FrB v vs1 b → FrB v vss b ∨ w.heap.size ≤ b) (hc2 : Chg (FrB v vs1) w1 w2) (hf2 : ∀ b, FrB v vs2 b → FrB v vs1 b ∨ w1.heap.size ≤ b) : Chg (FrB v vss) w w2 ∧ ∀ b, FrB v vs2 b → FrB v vss b ∨ w.heap.size ≤ b :=
  ⟨hc1.trans hc2 (fun i hi h => (hf1 i h).resolve_right (by omega)), fun b h => (hf2 b h).elim (hf1 b) (fun h => .inr (by have := hc1.size; omega))⟩
theorem OwnFr.fat (h : OwnFr w base (.slice (some ⟨g, off, none⟩) n cap) fs vss) {k : Nat} (hk : k < fs.length) : ∃ v1 v2, ∃ hk' : k < vss.length, vss[k] = [v1, v2] ∧ FAt w base g (off + k * 4) fs[k] v1 v2 := by
  obtain ⟨_, _, eg, hb, hlt, hob, hk', A1, c1, A2, c2, ev, i1, i2, m0, m1, m2, m3, fz⟩ := OwnFr.at_ h hk
  cases eg
  have hn : 0 < n := by
    obtain ⟨e, _⟩ := OwnFr.reads h
    omega
  obtain ⟨ao', cap', e, _, _, _, _, _, h5⟩ := (h.row.own (by omega))
  injection e with e1 e2 e3
  subst e1 e3
  have hc0 : 0 < cap := by
    obtain ⟨_, _, e, hle, _⟩ := h.row.shape
    injection e with e1 e2 e3
    omega
  obtain ⟨g', off', cur, e, g2, _, _⟩ := h5 hc0
  cases e
  have n1 := h.sep.one k hk' 0 (by rw [ev]; simp) g hob
  have n2 := h.sep.one k hk' 1 (by rw [ev]; simp) g hob
  have n12 := h.sep.two k hk' 0 (by rw [ev]; simp) k hk' 1 (by rw [ev]; simp) (.inr (by simp))
  simp only [ev, List.getElem_cons_succ, List.getElem_cons_zero] at n1 n2 n12
  exact ⟨_, _, hk', ev, ⟨_, cur, g2, (blk_cell g2 _).symm.trans m0, (blk_cell g2 _).symm.trans m1, (blk_cell g2 _).symm.trans m2, (blk_cell g2 _).symm.trans m3⟩, hb, i1, i2, n1, n2, n12⟩
theorem OwnFr.turned (h : OwnFr w base (.slice (some ⟨g, off, none⟩) n cap) fs vss) {k : Nat} (hk : k < fs.length) (hk' : k < vss.length) {v1 v2 u : Value} (ev : vss[k] = [v1, v2]) {f' : Frm} (ht : FTurn w w' base g (off + k * 4) f' v1 v2 u) :
    OwnFr w' base (.slice (some ⟨g, off, none⟩) n cap) (fs.set k f') (vss.set k [v1, u]) ∧ Chg (FrB (.slice (some ⟨g, off, none⟩) n cap) vss) w w' ∧ ∀ b, FrB (.slice (some ⟨g, off, none⟩) n cap) (vss.set k [v1, u]) b → FrB (.slice (some ⟨g, off, none⟩) n cap) vss b ∨ w.heap.size ≤ b := by
  have hl := h.len
  obtain ⟨en, _⟩ := OwnFr.reads h
  subst en
  have hob : ob (.slice (some ⟨g, off, none⟩) fs.length cap) = some g := by
    obtain ⟨_, _, eg, _, _, hob, _⟩ := OwnFr.at_ h hk
    cases eg; exact hob
  obtain ⟨ao', cap', e, hle, hmx, hcs, hnone, hlo, h5⟩ := (h.row.own (by omega))
  injection e with e1 e2 e3
  subst e1 e3
  obtain ⟨g', off', cur, e, g2, g3, g4⟩ := h5 (by omega)
  cases e
  obtain ⟨cur', e1, e2, e3⟩ := ht.blk _ cur g2
  obtain ⟨t', cur2, q0, q1, q2, q3, q4⟩ := ht.at_.blk
  rw [e1] at q0
  cases q0
  have l1 : 0 < vss[k].length := by rw [ev]; simp
  have l2 : 1 < vss[k].length := by rw [ev]; simp
  have ev1 : vss[k][0] = v1 := by simp [ev]
  have ev2 : vss[k][1] = v2 := by simp [ev]
  have hzl : (List.zipWith KFr.cells fs vss).length = fs.length := by simp [hl]
  have hzl' : (List.zipWith KFr.cells (fs.set k f') (vss.set k [v1, u])).length = fs.length := by simp [hl]
  have hfl := flat_len (zip_len KFr fs vss)
  have hfl' := flat_len (zip_len KFr (fs.set k f') (vss.set k [v1, u]))
  have esz : KFr.sz = 4 := rfl
  have hrow : CRow w' base KFr.t KFr.sz (.slice (some ⟨g, off, none⟩) fs.length cap) fs.length (List.zipWith KFr.cells (fs.set k f') (vss.set k [v1, u])).flatten := by
    refine .inl ⟨_, _, rfl, hle, hmx, by rw [hfl', hzl'], hnone, (fun a e => ⟨(hlo a e).1, by have := (hlo a e).2; have := ht.chg.size; omega⟩), fun _ => ⟨g, off, cur', rfl, e1, by rw [e2]; exact g3, fun j hj => ?_⟩⟩
    obtain ⟨i, q, rfl, hq⟩ : ∃ i q, j = i * 4 + q ∧ q < 4 := ⟨j / 4, j % 4, by omega, by omega⟩
    have hi : i < fs.length := by rw [hfl', hzl', esz] at hj; omega
    have hi' : i < (List.zipWith KFr.cells (fs.set k f') (vss.set k [v1, u])).length := by rw [hzl']; exact hi
    have hlq : ((List.zipWith KFr.cells (fs.set k f') (vss.set k [v1, u]))[i]).length = 4 := zip_len KFr _ _ _ (List.getElem_mem hi')
    have eg := flat_get (zip_len KFr (fs.set k f') (vss.set k [v1, u])) hi' (j := q) (by rw [hlq]; exact hq) hj
    have eg' : (List.zipWith KFr.cells (fs.set k f') (vss.set k [v1, u])).flatten[i * 4 + q]'hj = ((List.zipWith KFr.cells (fs.set k f') (vss.set k [v1, u]))[i])[q]'(by rw [hlq]; exact hq) := eg
    rw [eg']
    by_cases hik : i = k
    · subst hik
      have : (List.zipWith KFr.cells (fs.set i f') (vss.set i [v1, u]))[i] = [.int .i64 f'.fn, .int .i64 f'.pc, v1, u] := by
        rw [List.getElem_zipWith, List.getElem_set_self, List.getElem_set_self]; rfl
      simp only [this]
      match q, hq with
      | 0, _ => exact q1
      | 1, _ => exact q2
      | 2, _ => exact q3
      | 3, _ => exact q4
    · have hiz : i < (List.zipWith KFr.cells fs vss).length := by rw [hzl]; exact hi
      have : (List.zipWith KFr.cells (fs.set k f') (vss.set k [v1, u]))[i] = (List.zipWith KFr.cells fs vss)[i] := by
        rw [List.getElem_zipWith, List.getElem_zipWith, List.getElem_set_ne (fun e => hik e.symm), List.getElem_set_ne (fun e => hik e.symm)]
      have hjo : i * 4 + q < (List.zipWith KFr.cells fs vss).flatten.length := by rw [hfl, hzl, esz]; omega
      have hlo2 : ((List.zipWith KFr.cells fs vss)[i]).length = 4 := zip_len KFr _ _ _ (List.getElem_mem hiz)
      have eo : (List.zipWith KFr.cells fs vss).flatten[i * 4 + q]'hjo = ((List.zipWith KFr.cells fs vss)[i])[q]'(by rw [hlo2]; exact hq) := flat_get (zip_len KFr fs vss) hiz (j := q) (by rw [hlo2]; exact hq) hjo
      simp only [this]
      rw [← eo, e3 _ (by omega) (by omega)]
      exact g4 _ hjo
  have hg : g < w.heap.size := blk_lt g2
  have hsw := OwnG.swap (S := fun b => b = g ∨ ob v1 = some b ∨ ob v2 = some b) (w1 := w') (w2 := w') h hk hk' f' [v1, u] ht.chg (fun b hb i hi q hq hne e => by
      rcases hb with e2 | e2 | e2
      · subst e2; exact h.sep.one i hi q hq b hob e
      · rw [← ev1] at e2; exact h.sep.two i hi q hq k hk' 0 l1 (.inl hne) b e e2
      · rw [← ev2] at e2; exact h.sep.two i hi q hq k hk' 1 l2 (.inl hne) b e e2)
    (Chg.refl _ _) hrow rfl (fun j hj hj' => by
      match j, hj with
      | 0, _ => exact ht.at_.r1
      | 1, _ => exact ht.at_.r2)
    (fun j hj b hb => by
      match j, hj with
      | 0, _ => exact .inl ⟨0, l1, by rw [ev1]; exact hb⟩
      | 1, _ =>
        rcases ht.new b hb with e | e
        · exact .inl ⟨1, l2, by rw [ev2]; exact e⟩
        · exact .inr e)
    (fun j hj j' hj' hne b hb => by
      match j, hj, j', hj' with
      | 0, _, 0, _ => exact absurd rfl hne
      | 0, _, 1, _ => exact ht.at_.n12 b hb
      | 1, _, 0, _ => exact fun e => ht.at_.n12 b e hb
      | 1, _, 1, _ => exact absurd rfl hne)
  refine ⟨hsw, ht.chg.mono (fun b hb => ?_), fun b hb => ?_⟩
  · rcases hb with e | e | e
    · subst e; exact FrB.outer hob
    · rw [← ev1] at e; exact FrB.inner hk' l1 e
    · rw [← ev2] at e; exact FrB.inner hk' l2 e
  · rcases FrB.set hb with h1 | ⟨x, hx, e⟩
    · exact .inl h1
    · rcases List.mem_cons.1 hx with rfl | hx
      · rw [← ev1] at e; exact .inl (FrB.inner hk' l1 e)
      · rcases List.mem_singleton.1 hx with rfl
        rcases ht.new b e with e2 | e2
        · rw [← ev2] at e2; exact .inl (FrB.inner hk' l2 e2)
        · exact .inr e2
end
end Go.Proofs.YtjghibdlmmjobaaGreatDoor

namespace Go.Proofs.YtjghibdlmmjobaaGreatDoor
open Go.RowKit

theorem wrap_n (x : Int) : wrap64 (wrap32 x) = wrapN x := by unfold wrapN wrap64 wrap32; omega
theorem wrapW_any (x : Int) (w : World) : Calls Tryz.prog 188 #[.int .i64 x] w fun e w' => e = .returned (.int .i64 (wrapN x)) ∧ w' = w := by
  have H := Lib.hid (wrap_n x)
  go_enter Tryz.func188, Tryz.ntmps188
  go_wp2
  go_ret
  exact ⟨by rw [← H.out]; rfl, rfl⟩
theorem told_is (b : Bool) (w : World) : Calls Tryz.prog 187 #[.bool b] w fun e w' => e = .returned (.int .i64 (if b = true then 1 else 0)) ∧ w' = w := by
  cases b
  all_goals
    go_enter Tryz.func187, Tryz.ntmps187
    go_wp2
    go_ret
    exact ⟨rfl, rfl⟩
theorem mul_in {a b : Int} (ha : -2147483648 ≤ a ∧ a ≤ 2147483647) (hb : -2147483648 ≤ b ∧ b ≤ 2147483647) : IntKind.i64.wrap (a * b) = a * b := by
  have h1 : a.natAbs * b.natAbs ≤ 2147483648 * 2147483648 := Nat.mul_le_mul (by omega) (by omega)
  rw [← Int.natAbs_mul] at h1
  rw [IntKind.wrap_i64]
  generalize a * b = c at *
  omega
theorem quo_in {a b : Int} (ha : -2147483648 ≤ a ∧ a ≤ 2147483647) : IntKind.i64.wrap (a.tdiv b) = a.tdiv b := by
  have h1 : (a.tdiv b).natAbs ≤ a.natAbs := by rw [Int.natAbs_tdiv]; exact Nat.div_le_self _ _
  rw [IntKind.wrap_i64]
  generalize a.tdiv b = c at *
  omega
theorem rem_in {a b : Int} (ha : -2147483648 ≤ a ∧ a ≤ 2147483647) : IntKind.i64.wrap (a.tmod b) = a.tmod b := by
  have h1 : (a.tmod b).natAbs ≤ a.natAbs := by rw [Int.natAbs_tmod]; exact Nat.mod_le _ _
  rw [IntKind.wrap_i64]
  generalize a.tmod b = c at *
  omega

set_option maxRecDepth 100000 in
set_option maxHeartbeats 4000000 in
theorem do3_any (a b : Int) (ha : isNum a = true) (hb : isNum b = true) (w : World) : Calls Tryz.prog 145 #[.int .i64 3, .int .i64 a, .int .i64 b] w fun e w' => e = .returned (.tuple #[.int .i64 (doN 3 a b).1, .bool (doN 3 a b).2, .int .i64 0]) ∧ w' = w := by
  have HA := Lib.hid (show ∀ W, Calls Tryz.prog 102 #[.int .i64 a] W fun e w' => e = .returned (.bool true) ∧ w' = W from fun W => by have := is_any a W; rwa [ha] at this)
  have HB := Lib.hid (show ∀ W, Calls Tryz.prog 102 #[.int .i64 b] W fun e w' => e = .returned (.bool true) ∧ w' = W from fun W => by have := is_any b W; rwa [hb] at this)
  have na := num_yes.1 ha
  have nb := num_yes.1 hb
  have hw : IntKind.i64.wrap (a + b) = a + b := by rw [IntKind.wrap_i64]; omega
  have HE := Lib.hid (show doN 3 a b = (wrapN (a + b), false) by unfold doN; rw [if_neg (fun h => by omega)]; rfl)
  clear ha hb na nb
  go_enter Tryz.func145, Tryz.ntmps145
  go_wp2_with (first | (go_at_call 102; first | ((with_reducible refine (HA.out _).mono ?_); rintro e wn ⟨rfl, rfl⟩) | ((with_reducible refine (HB.out _).mono ?_); rintro e wn ⟨rfl, rfl⟩)) | (go_at_call 188; (with_reducible refine (wrapW_any _ _).mono ?_); rintro e wn ⟨rfl, rfl⟩) | (go_at_call 187; (with_reducible refine (told_is _ _).mono ?_); rintro e wn ⟨rfl, rfl⟩) | fail)
  exact bodyPost_ret (v := .tuple #[.int .i64 (wrapN (a + b)), .bool false, .int .i64 0]) (by simp [results, Tryz.results145, go_sem]) rfl ⟨by rw [HE.out], rfl⟩
set_option maxRecDepth 100000 in
set_option maxHeartbeats 4000000 in
theorem do4_any (a b : Int) (ha : isNum a = true) (hb : isNum b = true) (w : World) : Calls Tryz.prog 145 #[.int .i64 4, .int .i64 a, .int .i64 b] w fun e w' => e = .returned (.tuple #[.int .i64 (doN 4 a b).1, .bool (doN 4 a b).2, .int .i64 0]) ∧ w' = w := by
  have HA := Lib.hid (show ∀ W, Calls Tryz.prog 102 #[.int .i64 a] W fun e w' => e = .returned (.bool true) ∧ w' = W from fun W => by have := is_any a W; rwa [ha] at this)
  have HB := Lib.hid (show ∀ W, Calls Tryz.prog 102 #[.int .i64 b] W fun e w' => e = .returned (.bool true) ∧ w' = W from fun W => by have := is_any b W; rwa [hb] at this)
  have na := num_yes.1 ha
  have nb := num_yes.1 hb
  have hn : IntKind.i64.wrap (-b) = -b := by rw [IntKind.wrap_i64]; omega
  have hw : IntKind.i64.wrap (a + -b) = a - b := by rw [IntKind.wrap_i64]; omega
  have hw2 : IntKind.i64.wrap (a - b) = a - b := by rw [IntKind.wrap_i64]; omega
  have HE := Lib.hid (show doN 4 a b = (wrapN (a - b), false) by unfold doN; rw [if_neg (fun h => by omega)]; rfl)
  clear ha hb na nb
  go_enter Tryz.func145, Tryz.ntmps145
  go_wp2_with (first | (go_at_call 102; first | ((with_reducible refine (HA.out _).mono ?_); rintro e wn ⟨rfl, rfl⟩) | ((with_reducible refine (HB.out _).mono ?_); rintro e wn ⟨rfl, rfl⟩)) | (go_at_call 188; (with_reducible refine (wrapW_any _ _).mono ?_); rintro e wn ⟨rfl, rfl⟩) | (go_at_call 187; (with_reducible refine (told_is _ _).mono ?_); rintro e wn ⟨rfl, rfl⟩) | fail)
  exact bodyPost_ret (v := .tuple #[.int .i64 (wrapN (a - b)), .bool false, .int .i64 0]) (by simp [results, Tryz.results145, go_sem]) rfl ⟨by rw [HE.out], rfl⟩
set_option maxRecDepth 100000 in
set_option maxHeartbeats 4000000 in
theorem do5_any (a b : Int) (ha : isNum a = true) (hb : isNum b = true) (w : World) : Calls Tryz.prog 145 #[.int .i64 5, .int .i64 a, .int .i64 b] w fun e w' => e = .returned (.tuple #[.int .i64 (doN 5 a b).1, .bool (doN 5 a b).2, .int .i64 0]) ∧ w' = w := by
  have HA := Lib.hid (show ∀ W, Calls Tryz.prog 102 #[.int .i64 a] W fun e w' => e = .returned (.bool true) ∧ w' = W from fun W => by have := is_any a W; rwa [ha] at this)
  have HB := Lib.hid (show ∀ W, Calls Tryz.prog 102 #[.int .i64 b] W fun e w' => e = .returned (.bool true) ∧ w' = W from fun W => by have := is_any b W; rwa [hb] at this)
  have na := num_yes.1 ha
  have nb := num_yes.1 hb
  have hw := mul_in na nb
  have HE := Lib.hid (show doN 5 a b = (wrapN (a * b), false) by unfold doN; rw [if_neg (fun h => by omega)]; rfl)
  clear ha hb na nb
  go_enter Tryz.func145, Tryz.ntmps145
  go_wp2_with (first | (go_at_call 102; first | ((with_reducible refine (HA.out _).mono ?_); rintro e wn ⟨rfl, rfl⟩) | ((with_reducible refine (HB.out _).mono ?_); rintro e wn ⟨rfl, rfl⟩)) | (go_at_call 188; (with_reducible refine (wrapW_any _ _).mono ?_); rintro e wn ⟨rfl, rfl⟩) | (go_at_call 187; (with_reducible refine (told_is _ _).mono ?_); rintro e wn ⟨rfl, rfl⟩) | fail)
  exact bodyPost_ret (v := .tuple #[.int .i64 (wrapN (a * b)), .bool false, .int .i64 0]) (by simp [results, Tryz.results145, go_sem]) rfl ⟨by rw [HE.out], rfl⟩
set_option maxRecDepth 100000 in
set_option maxHeartbeats 4000000 in
theorem do6_any (a b : Int) (ha : isNum a = true) (hb : isNum b = true) (w : World) : Calls Tryz.prog 145 #[.int .i64 6, .int .i64 a, .int .i64 b] w fun e w' => e = .returned (.tuple #[.int .i64 (doN 6 a b).1, .bool (doN 6 a b).2, .int .i64 0]) ∧ w' = w := by
  have HA := Lib.hid (show ∀ W, Calls Tryz.prog 102 #[.int .i64 a] W fun e w' => e = .returned (.bool true) ∧ w' = W from fun W => by have := is_any a W; rwa [ha] at this)
  have HB := Lib.hid (show ∀ W, Calls Tryz.prog 102 #[.int .i64 b] W fun e w' => e = .returned (.bool true) ∧ w' = W from fun W => by have := is_any b W; rwa [hb] at this)
  have na := num_yes.1 ha
  have nb := num_yes.1 hb
  have hw := quo_in (b := b) na
  have hw2 := rem_in (b := b) na
  by_cases h0 : b = 0
  · have HE := Lib.hid (show doN 6 a b = (0, true) by unfold doN; rw [if_pos ⟨by decide, h0⟩])
    have d0 : (b == 0) = true := by simpa using h0
    clear ha hb na nb h0
    go_enter Tryz.func145, Tryz.ntmps145
    go_wp2_with (first | (go_at_call 102; first | ((with_reducible refine (HA.out _).mono ?_); rintro e wn ⟨rfl, rfl⟩) | ((with_reducible refine (HB.out _).mono ?_); rintro e wn ⟨rfl, rfl⟩)) | (go_at_call 188; (with_reducible refine (wrapW_any _ _).mono ?_); rintro e wn ⟨rfl, rfl⟩) | (go_at_call 187; (with_reducible refine (told_is _ _).mono ?_); rintro e wn ⟨rfl, rfl⟩) | fail)
    exact bodyPost_ret (v := .tuple #[.int .i64 0, .bool true, .int .i64 0]) (by simp [results, Tryz.results145, go_sem]) rfl ⟨by rw [HE.out], rfl⟩
  have HE := Lib.hid (show doN 6 a b = (wrapN (a.tdiv b), false) by unfold doN; rw [if_neg (fun h => h0 h.2)]; rfl)
  have d0 : (b == 0) = false := by simpa using h0
  clear ha hb na nb
  go_enter Tryz.func145, Tryz.ntmps145
  go_wp2_with (first | (go_at_call 102; first | ((with_reducible refine (HA.out _).mono ?_); rintro e wn ⟨rfl, rfl⟩) | ((with_reducible refine (HB.out _).mono ?_); rintro e wn ⟨rfl, rfl⟩)) | (go_at_call 188; (with_reducible refine (wrapW_any _ _).mono ?_); rintro e wn ⟨rfl, rfl⟩) | (go_at_call 187; (with_reducible refine (told_is _ _).mono ?_); rintro e wn ⟨rfl, rfl⟩) | fail)
  exact bodyPost_ret (v := .tuple #[.int .i64 (wrapN (a.tdiv b)), .bool false, .int .i64 0]) (by simp [results, Tryz.results145, go_sem]) rfl ⟨by rw [HE.out], rfl⟩
set_option maxRecDepth 100000 in
set_option maxHeartbeats 4000000 in
theorem do7_any (a b : Int) (ha : isNum a = true) (hb : isNum b = true) (w : World) : Calls Tryz.prog 145 #[.int .i64 7, .int .i64 a, .int .i64 b] w fun e w' => e = .returned (.tuple #[.int .i64 (doN 7 a b).1, .bool (doN 7 a b).2, .int .i64 0]) ∧ w' = w := by
  have HA := Lib.hid (show ∀ W, Calls Tryz.prog 102 #[.int .i64 a] W fun e w' => e = .returned (.bool true) ∧ w' = W from fun W => by have := is_any a W; rwa [ha] at this)
  have HB := Lib.hid (show ∀ W, Calls Tryz.prog 102 #[.int .i64 b] W fun e w' => e = .returned (.bool true) ∧ w' = W from fun W => by have := is_any b W; rwa [hb] at this)
  have na := num_yes.1 ha
  have nb := num_yes.1 hb
  have hw := quo_in (b := b) na
  have hw2 := rem_in (b := b) na
  by_cases h0 : b = 0
  · have HE := Lib.hid (show doN 7 a b = (0, true) by unfold doN; rw [if_pos ⟨by decide, h0⟩])
    have d0 : (b == 0) = true := by simpa using h0
    clear ha hb na nb h0
    go_enter Tryz.func145, Tryz.ntmps145
    go_wp2_with (first | (go_at_call 102; first | ((with_reducible refine (HA.out _).mono ?_); rintro e wn ⟨rfl, rfl⟩) | ((with_reducible refine (HB.out _).mono ?_); rintro e wn ⟨rfl, rfl⟩)) | (go_at_call 188; (with_reducible refine (wrapW_any _ _).mono ?_); rintro e wn ⟨rfl, rfl⟩) | (go_at_call 187; (with_reducible refine (told_is _ _).mono ?_); rintro e wn ⟨rfl, rfl⟩) | fail)
    exact bodyPost_ret (v := .tuple #[.int .i64 0, .bool true, .int .i64 0]) (by simp [results, Tryz.results145, go_sem]) rfl ⟨by rw [HE.out], rfl⟩
  have HE := Lib.hid (show doN 7 a b = (wrapN (a.tmod b), false) by unfold doN; rw [if_neg (fun h => h0 h.2)]; rfl)
  have d0 : (b == 0) = false := by simpa using h0
  clear ha hb na nb
  go_enter Tryz.func145, Tryz.ntmps145
  go_wp2_with (first | (go_at_call 102; first | ((with_reducible refine (HA.out _).mono ?_); rintro e wn ⟨rfl, rfl⟩) | ((with_reducible refine (HB.out _).mono ?_); rintro e wn ⟨rfl, rfl⟩)) | (go_at_call 188; (with_reducible refine (wrapW_any _ _).mono ?_); rintro e wn ⟨rfl, rfl⟩) | (go_at_call 187; (with_reducible refine (told_is _ _).mono ?_); rintro e wn ⟨rfl, rfl⟩) | fail)
  exact bodyPost_ret (v := .tuple #[.int .i64 (wrapN (a.tmod b)), .bool false, .int .i64 0]) (by simp [results, Tryz.results145, go_sem]) rfl ⟨by rw [HE.out], rfl⟩
set_option maxRecDepth 100000 in
set_option maxHeartbeats 4000000 in
theorem do8_any (a b : Int) (ha : isNum a = true) (hb : isNum b = true) (w : World) : Calls Tryz.prog 145 #[.int .i64 8, .int .i64 a, .int .i64 b] w fun e w' => e = .returned (.tuple #[.int .i64 (doN 8 a b).1, .bool (doN 8 a b).2, .int .i64 0]) ∧ w' = w := by
  have HA := Lib.hid (show ∀ W, Calls Tryz.prog 102 #[.int .i64 a] W fun e w' => e = .returned (.bool true) ∧ w' = W from fun W => by have := is_any a W; rwa [ha] at this)
  have HB := Lib.hid (show ∀ W, Calls Tryz.prog 102 #[.int .i64 b] W fun e w' => e = .returned (.bool true) ∧ w' = W from fun W => by have := is_any b W; rwa [hb] at this)
  have na := num_yes.1 ha
  have nb := num_yes.1 hb
  by_cases h : a = b
  · have HE := Lib.hid (show doN 8 a b = (wrapN 1, false) by unfold doN; rw [if_neg (fun h => by omega)]; simp [h])
    have d1 : (a == b) = true := by simpa using h
    clear ha hb na nb h
    go_enter Tryz.func145, Tryz.ntmps145
    go_wp2_with (first | (go_at_call 102; first | ((with_reducible refine (HA.out _).mono ?_); rintro e wn ⟨rfl, rfl⟩) | ((with_reducible refine (HB.out _).mono ?_); rintro e wn ⟨rfl, rfl⟩)) | (go_at_call 188; (with_reducible refine (wrapW_any _ _).mono ?_); rintro e wn ⟨rfl, rfl⟩) | (go_at_call 187; (with_reducible refine (told_is _ _).mono ?_); rintro e wn ⟨rfl, rfl⟩) | fail)
    exact bodyPost_ret (v := .tuple #[.int .i64 (wrapN 1), .bool false, .int .i64 0]) (by simp [results, Tryz.results145, go_sem]) rfl ⟨by rw [HE.out], rfl⟩
  · have HE := Lib.hid (show doN 8 a b = (wrapN 0, false) by unfold doN; rw [if_neg (fun h => by omega)]; simp [h])
    have d1 : (a == b) = false := by simpa using h
    clear ha hb na nb h
    go_enter Tryz.func145, Tryz.ntmps145
    go_wp2_with (first | (go_at_call 102; first | ((with_reducible refine (HA.out _).mono ?_); rintro e wn ⟨rfl, rfl⟩) | ((with_reducible refine (HB.out _).mono ?_); rintro e wn ⟨rfl, rfl⟩)) | (go_at_call 188; (with_reducible refine (wrapW_any _ _).mono ?_); rintro e wn ⟨rfl, rfl⟩) | (go_at_call 187; (with_reducible refine (told_is _ _).mono ?_); rintro e wn ⟨rfl, rfl⟩) | fail)
    exact bodyPost_ret (v := .tuple #[.int .i64 (wrapN 0), .bool false, .int .i64 0]) (by simp [results, Tryz.results145, go_sem]) rfl ⟨by rw [HE.out], rfl⟩
set_option maxRecDepth 100000 in
set_option maxHeartbeats 4000000 in
theorem do9_any (a b : Int) (ha : isNum a = true) (hb : isNum b = true) (w : World) : Calls Tryz.prog 145 #[.int .i64 9, .int .i64 a, .int .i64 b] w fun e w' => e = .returned (.tuple #[.int .i64 (doN 9 a b).1, .bool (doN 9 a b).2, .int .i64 0]) ∧ w' = w := by
  have HA := Lib.hid (show ∀ W, Calls Tryz.prog 102 #[.int .i64 a] W fun e w' => e = .returned (.bool true) ∧ w' = W from fun W => by have := is_any a W; rwa [ha] at this)
  have HB := Lib.hid (show ∀ W, Calls Tryz.prog 102 #[.int .i64 b] W fun e w' => e = .returned (.bool true) ∧ w' = W from fun W => by have := is_any b W; rwa [hb] at this)
  have na := num_yes.1 ha
  have nb := num_yes.1 hb
  by_cases h : a < b
  · have HE := Lib.hid (show doN 9 a b = (wrapN 1, false) by unfold doN; rw [if_neg (fun h => by omega)]; simp [h])
    have d1 : decide (a < b) = true := by simpa using h
    clear ha hb na nb h
    go_enter Tryz.func145, Tryz.ntmps145
    go_wp2_with (first | (go_at_call 102; first | ((with_reducible refine (HA.out _).mono ?_); rintro e wn ⟨rfl, rfl⟩) | ((with_reducible refine (HB.out _).mono ?_); rintro e wn ⟨rfl, rfl⟩)) | (go_at_call 188; (with_reducible refine (wrapW_any _ _).mono ?_); rintro e wn ⟨rfl, rfl⟩) | (go_at_call 187; (with_reducible refine (told_is _ _).mono ?_); rintro e wn ⟨rfl, rfl⟩) | fail)
    exact bodyPost_ret (v := .tuple #[.int .i64 (wrapN 1), .bool false, .int .i64 0]) (by simp [results, Tryz.results145, go_sem]) rfl ⟨by rw [HE.out], rfl⟩
  · have HE := Lib.hid (show doN 9 a b = (wrapN 0, false) by unfold doN; rw [if_neg (fun h => by omega)]; simp [h])
    have d1 : decide (a < b) = false := by simpa using h
    clear ha hb na nb h
    go_enter Tryz.func145, Tryz.ntmps145
    go_wp2_with (first | (go_at_call 102; first | ((with_reducible refine (HA.out _).mono ?_); rintro e wn ⟨rfl, rfl⟩) | ((with_reducible refine (HB.out _).mono ?_); rintro e wn ⟨rfl, rfl⟩)) | (go_at_call 188; (with_reducible refine (wrapW_any _ _).mono ?_); rintro e wn ⟨rfl, rfl⟩) | (go_at_call 187; (with_reducible refine (told_is _ _).mono ?_); rintro e wn ⟨rfl, rfl⟩) | fail)
    exact bodyPost_ret (v := .tuple #[.int .i64 (wrapN 0), .bool false, .int .i64 0]) (by simp [results, Tryz.results145, go_sem]) rfl ⟨by rw [HE.out], rfl⟩
theorem do_any {k : Int} (h3 : 3 ≤ k) (h9 : k ≤ 9) (a b : Int) (ha : isNum a = true) (hb : isNum b = true) (w : World) : Calls Tryz.prog 145 #[.int .i64 k, .int .i64 a, .int .i64 b] w fun e w' => e = .returned (.tuple #[.int .i64 (doN k a b).1, .bool (doN k a b).2, .int .i64 0]) ∧ w' = w := by
  obtain rfl | rfl | rfl | rfl | rfl | rfl | rfl : k = 3 ∨ k = 4 ∨ k = 5 ∨ k = 6 ∨ k = 7 ∨ k = 8 ∨ k = 9 := by omega
  · exact do3_any a b ha hb w
  · exact do4_any a b ha hb w
  · exact do5_any a b ha hb w
  · exact do6_any a b ha hb w
  · exact do7_any a b ha hb w
  · exact do8_any a b ha hb w
  · exact do9_any a b ha hb w
end Go.Proofs.YtjghibdlmmjobaaGreatDoor

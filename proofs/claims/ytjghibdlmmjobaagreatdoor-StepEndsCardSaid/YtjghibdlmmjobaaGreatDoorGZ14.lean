/- 'slices.Clone' of ints: another list, of the call's own. Conditions: the list lies in memory, it is not longer than the reach. Rows of structs of the call's own: an element written anew, an element built and appended. Plain lemmas. Rows of structs of the call's own, of which the first ones alone have rows of their own. Plain lemmas. -/
import Derived.Test.YtjghibdlmmjobaaGreatDoorGZ13
import Derived.Test.YtjghibdlmmjobaaGreatDoorGZ12
namespace Go.Proofs.YtjghibdlmmjobaaGreatDoor
open Go.RowKit

theorem eqlIn_nil {P : Program} (w : World) (d : Nat) (t e : TypeId) (a : Option Addr) (l c : Nat) (h : P.underlying t = some (.slice e)) : (Op.equalIn (d + 1) t (.slice a l c) (.slice none 0 0)).run P w = .ok a.isNone w := by
  cases a <;> simp [Op.equalIn, run_underlying h]
theorem eqlOf_nil {P : Program} (w : World) (t e : TypeId) (a : Option Addr) (l c : Nat) (h : P.underlying t = some (.slice e)) : (Op.equal t (.slice a l c) (.slice none 0 0)).run P w = .ok a.isNone w := eqlIn_nil w 9999 t e a l c h
theorem eql_nil {P : Program} (w : World) (t e : TypeId) (a : Option Addr) (l c : Nat) (h : P.underlying t = some (.slice e)) : (binOp .eql t (.slice a l c) (.slice none 0 0)).run P w = .ok (.bool a.isNone) w := by
  simp [binOp, eqlOf_nil w t e a l c h]
/-- A call that answers a list of its own. -/
def CloneE (t sz n : Nat) (cs : List Value) (w : World) (e : Ending) (w' : World) : Prop := ∃ ao cap, e = .returned (.slice ao n cap) ∧ CRow w' w.heap.size t sz (.slice ao n cap) n cs ∧ Below w.heap.size w w'
set_option maxRecDepth 100000 in
theorem cloneI_any (A : Option Addr) (c : Nat) (xs : List Int) (w : World) (hr : ReadsI w A xs) (hz : xs.length * 8 ≤ 140737488351232) :
    Calls Tryz.prog 103 #[.slice A xs.length c] w (CloneE 3 1 xs.length (intsV xs) w) := by
  cases A with
  | none =>
    obtain rfl := reads_none hr rfl
    have hq : (binOp .eql 28 (.slice none 0 c) (.slice none 0 0)).run Tryz.prog w = .ok (.bool true) w := eql_nil w _ 3 none 0 c Tryz.underlying28
    clear hz hr
    go_enter Tryz.func103, Tryz.ntmps103
    go_wp2_with fail
    go_ret
    exact ⟨none, 0, rfl, CRow.nil _ _ _ _, Below.refl _ _⟩
  | some a =>
    obtain ⟨ao, cap, w1, hrun, hc, hb⟩ := append_copy (c := c) hr hz
    have hq : (binOp .eql 28 (.slice (some a) xs.length c) (.slice none 0 0)).run Tryz.prog w = .ok (.bool false) w := eql_nil w _ 3 (some a) _ c Tryz.underlying28
    have HC := Lib.hid hc
    have HB := Lib.hid hb
    clear hc hb hr hz
    go_enter Tryz.func103, Tryz.ntmps103
    go_wp2_with (first | (at_builtin; refine wpList_append_run _ rfl _ _ _ _ rfl _ _ _ _ rfl rfl hrun ?_) | fail)
    go_ret
    exact ⟨ao, cap, rfl, HC.out, HB.out⟩
end Go.Proofs.YtjghibdlmmjobaaGreatDoor

namespace Go.Proofs.YtjghibdlmmjobaaGreatDoor
open Go.RowKit

theorem Chg.free {S : Nat → Prop} {w w1 : World} (h : Chg S w w1) {a : Addr} (hf : w.frozen? a = false) (hlt : a.block < w.heap.size) (hn : ¬ S a.block) : w1.frozen? a = false :=
  (World.frozen?_of_block (h.block a.block hlt hn)).trans hf
section
variable {α : Type} {K : Kind α} {w w1 w2 : World} {base : Nat} {v : Value} {xs : List α} {vss : List (List Value)}
theorem ob_some {g off n cap : Nat} (h : 0 < cap) : ob (.slice (some ⟨g, off, none⟩) n cap) = some g := by
  obtain ⟨c, rfl⟩ : ∃ c, cap = c + 1 := ⟨cap - 1, by omega⟩
  rfl
theorem CRow.cap {t sz n cap : Nat} {ao : Option Addr} {cs : List Value} (h : CRow w base t sz (.slice ao n cap) n cs) : n ≤ cap := by
  obtain ⟨_, _, e, h1, _⟩ := h.shape
  injection e with e1 e2 e3
  subst e3; exact h1
theorem CRow.elt_put {L : List (List Value)} {s g off n cap t : Nat} (hL : ∀ l ∈ L, l.length = s) (h : CRow w base t s (.slice (some ⟨g, off, none⟩) n cap) n L.flatten) {i j : Nat} (hi : i < L.length) (hj : j < s) (u : Value) :
    CRow (w.setCell ⟨g, off + i * s + j, none⟩ u) base t s (.slice (some ⟨g, off, none⟩) n cap) n (L.set i (L[i].set j u)).flatten := by
  have hfl := flat_len hL
  have hln := h.len
  rw [hfl] at hln
  have his : i * s + s ≤ L.length * s := by rw [← Nat.succ_mul]; exact Nat.mul_le_mul_right _ hi
  have hn : 0 < n := by
    rcases Nat.eq_zero_or_pos n with h0 | h0
    · subst h0; omega
    · exact h0
  have hp := (h.own hn).put (i * s + j) u (by rw [hfl]; omega)
  rw [flat_set hL hi hj, ← Nat.add_assoc] at hp
  exact .inl hp
theorem get_cast {l l' : List Value} (e : l = l') {j : Nat} (hj : j < l.length) : ∃ hj' : j < l'.length, l[j] = l'[j] := by subst e; exact ⟨hj, rfl⟩
theorem CRow.elt_put' {L : List (List Value)} {s g off n cap t : Nat} (hL : ∀ l ∈ L, l.length = s) {i : Nat} (hi : i < L.length) {l : List Value} (hl : l.length = s) (h : CRow w base t s (.slice (some ⟨g, off, none⟩) n cap) n (L.set i l).flatten) {j : Nat} (hj : j < s) (u : Value) :
    CRow (w.setCell ⟨g, off + i * s + j, none⟩ u) base t s (.slice (some ⟨g, off, none⟩) n cap) n (L.set i (l.set j u)).flatten := by
  have hL' : ∀ m ∈ L.set i l, m.length = s := fun m hm => by
    rcases List.mem_or_eq_of_mem_set hm with h | h
    · exact hL m h
    · rw [h]; exact hl
  have := CRow.elt_put hL' h (i := i) (by simpa using hi) hj u
  rwa [List.getElem_set_self, List.set_set] at this
/-- An element written anew, with rows that are its own: what it had before may have been written over. -/
theorem OwnG.swap {S : Nat → Prop} {g off n cap : Nat} (h : OwnG K w base (.slice (some ⟨g, off, none⟩) n cap) xs vss) {k : Nat} (hk : k < xs.length) (hk' : k < vss.length) (x : α) (us : List Value)
    (hch : Chg S w w1) (hS : ∀ b, S b → ∀ i (hi : i < vss.length) q (hq : q < vss[i].length), i ≠ k → ob vss[i][q] ≠ some b) (hput : Chg (fun b => b = g) w1 w2) (hrow : CRow w2 base K.t K.sz (.slice (some ⟨g, off, none⟩) n cap) n (List.zipWith K.cells (xs.set k x) (vss.set k us)).flatten)
    (hul : us.length = (K.rows x).length) (hin : ∀ j (hj : j < us.length) (hj' : j < (K.rows x).length), InnAt w1 base us[j] (K.rows x)[j])
    (hat : ∀ j (hj : j < us.length) b, ob us[j] = some b → (∃ j', ∃ hj' : j' < vss[k].length, ob vss[k][j'] = some b) ∨ w.heap.size ≤ b)
    (hself : ∀ j (hj : j < us.length) j' (hj' : j' < us.length), j ≠ j' → ∀ b, ob us[j] = some b → ob us[j'] ≠ some b) :
    OwnG K w2 base (.slice (some ⟨g, off, none⟩) n cap) (xs.set k x) (vss.set k us) := by
  have hl := h.len
  obtain ⟨_, _, e, hnc, _⟩ := h.row.shape
  injection e with e1 e2 e3
  subst e2 e3
  have hob : ob (.slice (some ⟨g, off, none⟩) xs.length cap) = some g := ob_some (by omega)
  have hg : g < w.heap.size := (h.row.in_ g hob).2
  have ung : ∀ j (hj : j < us.length), ob us[j] ≠ some g := fun j hj hb => by
    rcases hat j hj g hb with ⟨j', hj', e⟩ | e
    · exact h.sep.one k hk' j' hj' g hob e
    · omega
  have uoth : ∀ j (hj : j < us.length) b, ob us[j] = some b → ∀ i (hi : i < vss.length) q (hq : q < vss[i].length), i ≠ k → ob vss[i][q] ≠ some b := fun j hj b hb i hi q hq hne hb2 => by
    rcases hat j hj b hb with ⟨j', hj', e⟩ | e
    · exact h.sep.two k hk' j' hj' i hi q hq (.inl (fun e => hne e.symm)) b e hb2
    · have hin0 := (h.inn i (by omega) hi)
      have := (CRow.in_ (hin0.2 q hq (by omega)) b hb2).2
      omega
  have getk : (vss.set k us)[k]'(by simpa using hk') = us := List.getElem_set_self _
  have getn : ∀ i (hi : i < (vss.set k us).length), i ≠ k → (vss.set k us)[i] = vss[i]'(by simpa using hi) := fun i hi hne => List.getElem_set_ne (fun e => hne e.symm) _
  refine ⟨by simp [hl], by rw [List.length_set]; exact hrow, fun i hi hi' => ?_, ⟨fun i hi j hj b hb => ?_, fun i hi j hj i' hi' j' hj' hne b hb => ?_⟩⟩
  · by_cases hne : i = k
    · subst hne
      have ex : (xs.set i x)[i] = x := List.getElem_set_self _
      simp only [getk, ex]
      exact ⟨hul, fun j hj hj' => CRow.chg (hin j hj hj') hput (fun b hb e => ung j hj (by rw [hb, e]))⟩
    · have ex : (xs.set k x)[i] = xs[i]'(by simpa using hi) := List.getElem_set_ne (fun e => hne e.symm) _
      have ev := getn i hi' hne
      simp only [ev, ex]
      obtain ⟨e, hin0⟩ := h.inn i (by simpa using hi) (by simpa using hi')
      refine ⟨e, fun j hj hj' => CRow.chg (CRow.chg (hin0 j hj hj') hch (fun b hb hs => ?_)) hput (fun b hb e => ?_)⟩
      · exact hS b hs i (by simpa using hi') j hj hne hb
      · exact h.sep.one i (by simpa using hi') j hj g hob (by rw [hb, e])
  · by_cases hne : i = k
    · subst hne
      obtain ⟨hj2, ej⟩ := get_cast getk hj
      rw [ej]
      rw [hob] at hb; cases hb
      exact ung j hj2
    · obtain ⟨hj2, ej⟩ := get_cast (getn i hi hne) hj
      rw [ej]
      exact h.sep.one i (by simpa using hi) j hj2 b hb
  · by_cases hik : i = k
    · have ei : (vss.set k us)[i] = us := by subst hik; exact getk
      obtain ⟨hj2, ej⟩ := get_cast ei hj
      rw [ej] at hb
      by_cases hik' : i' = k
      · have ei' : (vss.set k us)[i'] = us := by subst hik'; exact getk
        obtain ⟨hj3, ej'⟩ := get_cast ei' hj'
        rw [ej']
        exact hself j hj2 j' hj3 (hne.resolve_left (fun h => h (hik.trans hik'.symm))) b hb
      · obtain ⟨hj3, ej'⟩ := get_cast (getn i' hi' hik') hj'
        rw [ej']
        exact uoth j hj2 b hb i' (by simpa using hi') j' hj3 hik'
    · obtain ⟨hj2, ej⟩ := get_cast (getn i hi hik) hj
      rw [ej] at hb
      by_cases hik' : i' = k
      · have ei' : (vss.set k us)[i'] = us := by subst hik'; exact getk
        obtain ⟨hj3, ej'⟩ := get_cast ei' hj'
        rw [ej']
        exact fun hb2 => uoth j' hj3 b hb2 i (by simpa using hi) j hj2 hik hb
      · obtain ⟨hj3, ej'⟩ := get_cast (getn i' hi' hik') hj'
        rw [ej']
        exact h.sep.two i (by simpa using hi) j hj2 i' (by simpa using hi') j' hj3 hne b hb
/-- One field written, which holds a row: another row in its place. -/
theorem OwnG.swap1 {g off n cap j c : Nat} (h : OwnG K w base (.slice (some ⟨g, off, none⟩) n cap) xs vss) {k : Nat} (hk : k < xs.length) (hk' : k < vss.length) (hj : j < vss[k].length) (hc : c < K.sz) (u : Value) (x : α) (r : Inn)
    (hch : Chg (fun b => ob vss[k][j] = some b) w w1) (hi : InnAt w1 base u r) (hat : ∀ b, ob u = some b → ob vss[k][j] = some b ∨ w.heap.size ≤ b)
    (hx : K.cells x (vss[k].set j u) = (K.cells xs[k] vss[k]).set c u) (hr : K.rows x = (K.rows xs[k]).set j r) :
    OwnG K (w1.setCell ⟨g, off + k * K.sz + c, none⟩ u) base (.slice (some ⟨g, off, none⟩) n cap) (xs.set k x) (vss.set k (vss[k].set j u)) := by
  have hl := h.len
  have hzl : (List.zipWith K.cells xs vss).length = xs.length := by simp [hl]
  obtain ⟨e, hin⟩ := h.inn k hk hk'
  have hrow1 := h.row.chg hch (fun b hb hb2 => h.sep.one k hk' j hj b hb hb2)
  obtain ⟨_, _, e2, _, _⟩ := h.row.shape
  injection e2 with _ e2 _
  subst e2
  have hp := CRow.elt_put (zip_len K xs vss) hrow1 (i := k) (j := c) (by omega) hc u
  simp only [List.getElem_zipWith] at hp
  rw [← hx, zip_set K hk hl] at hp
  refine h.swap hk hk' x (vss[k].set j u) hch (fun b hb i hi q hq hne => h.sep.two k hk' j hj i hi q hq (.inl (fun e => hne e.symm)) b hb) (Chg.put (S := fun b => b = g) (Chg.refl _ w1) (a := ⟨g, off + k * K.sz + c, none⟩) rfl u) hp (by rw [List.length_set, e, hr, List.length_set]) (fun q hq hq' => ?_) (fun q hq b hb => ?_) (fun q hq q' hq' hne b hb hb2 => ?_)
  · have er : (K.rows x)[q] = ((K.rows xs[k]).set j r)[q]'(by rw [← hr]; exact hq') := by simp only [hr]
    rw [er, List.getElem_set, List.getElem_set]
    by_cases hjq : j = q
    · rw [if_pos hjq, if_pos hjq]; exact hi
    · rw [if_neg hjq, if_neg hjq]
      exact CRow.chg (hin q (by simpa using hq) (by rw [← e]; simpa using hq)) hch (fun b hb hb2 => h.sep.two k hk' j hj k hk' q (by simpa using hq) (.inr hjq) b hb2 hb)
  · rw [List.getElem_set] at hb
    split at hb
    · rcases hat b hb with h1 | h1
      · exact .inl ⟨j, hj, h1⟩
      · exact .inr h1
    · exact .inl ⟨q, by simpa using hq, hb⟩
  · have key : ∀ p (hp : p < vss[k].length), p ≠ j → ob u = some b → ob vss[k][p] = some b → False := fun p hp hpj hu hb3 => by
      rcases hat b hu with h1 | h1
      · exact h.sep.two k hk' j hj k hk' p hp (.inr (fun e => hpj e.symm)) b h1 hb3
      · have := (CRow.in_ (hin p hp (by omega)) b hb3).2; omega
    rw [List.getElem_set] at hb hb2
    by_cases h1 : j = q
    · rw [if_pos h1] at hb
      rw [if_neg (fun e => hne (h1.symm.trans e))] at hb2
      exact key q' (by simpa using hq') (fun e => hne (h1.symm.trans e.symm)) hb hb2
    · rw [if_neg h1] at hb
      by_cases h2 : j = q'
      · rw [if_pos h2] at hb2
        exact key q (by simpa using hq) (fun e => h1 e.symm) hb2 hb
      · rw [if_neg h2] at hb2
        exact h.sep.two k hk' q (by simpa using hq) k hk' q' (by simpa using hq') (.inr hne) b hb hb2

/-- Rows made one behind the other, from the block N on. -/
structure Build (w : World) (N : Nat) (us : List Value) (rs : List Inn) : Prop where
  len : us.length = rs.length
  inn : ∀ j (hj : j < us.length) (hj' : j < rs.length), InnAt w N us[j] rs[j]
  self : ∀ j (hj : j < us.length) j' (hj' : j' < us.length), j ≠ j' → ∀ b, ob us[j] = some b → ob us[j'] ≠ some b
theorem Build.nil (w : World) (N : Nat) : Build w N [] [] := ⟨rfl, fun _ h => absurd h (by simp), fun _ h => absurd h (by simp)⟩
theorem Build.chg {S : Nat → Prop} {N : Nat} {us : List Value} {rs : List Inn} (h : Build w N us rs) (hk : Chg S w w1) (hs : ∀ b, S b → b < N) : Build w1 N us rs :=
  ⟨h.len, fun j hj hj' => CRow.chg (h.inn j hj hj') hk (fun b hb hS => by have := hs b hS; have := (CRow.in_ (h.inn j hj hj') b hb).1; omega), h.self⟩
theorem Build.below {N : Nat} {us : List Value} {rs : List Inn} (h : Build w N us rs) (hb : Below w.heap.size w w1) : Build w1 N us rs := h.chg (S := fun _ => False) (Chg.of_below hb) (fun _ h => h.elim)
theorem Build.add {N : Nat} {us : List Value} {rs : List Inn} (h : Build w N us rs) (hb : Below w.heap.size w w1) (hN : N ≤ w.heap.size) {u : Value} {r : Inn} (hu : InnAt w1 w.heap.size u r) : Build w1 N (us ++ [u]) (rs ++ [r]) := by
  have h1 := h.below hb
  have hlen := h.len
  have get : ∀ j (hj : j < (us ++ [u]).length), (∃ hlt : j < us.length, (us ++ [u])[j] = us[j]) ∨ (j = us.length ∧ (us ++ [u])[j] = u) := fun j hj => by
    rcases Nat.lt_or_ge j us.length with hlt | hge
    · exact .inl ⟨hlt, List.getElem_append_left hlt⟩
    · have : j = us.length := by rw [List.length_append] at hj; simp at hj; omega
      subst this
      exact .inr ⟨rfl, by simp⟩
  refine ⟨by simp [hlen], fun j hj hj' => ?_, fun j hj j' hj' hne b hb1 hb2 => ?_⟩
  · rcases get j hj with ⟨hlt, e⟩ | ⟨ej, e⟩
    · rw [e, List.getElem_append_left (by omega)]; exact h1.inn j hlt (by omega)
    · have er : (rs ++ [r])[j] = r := by rw [List.getElem_append_right (by omega)]; simp [ej, hlen]
      rw [e, er]; exact CRow.mono hu hN
  · rcases get j hj with ⟨hlt, e⟩ | ⟨ej, e⟩ <;> rcases get j' hj' with ⟨hlt', e'⟩ | ⟨ej', e'⟩
    · rw [e] at hb1; rw [e'] at hb2; exact h.self j hlt j' hlt' hne b hb1 hb2
    · rw [e] at hb1; rw [e'] at hb2
      have := (CRow.in_ (h.inn j hlt (by omega)) b hb1).2
      have := (CRow.in_ hu b hb2).1
      omega
    · rw [e] at hb1; rw [e'] at hb2
      have := (CRow.in_ (h.inn j' hlt' (by omega)) b hb2).2
      have := (CRow.in_ hu b hb1).1
      omega
    · omega
/-- A struct that is being laid, in the block behind the world w0: its cells so far, its new rows. -/
structure Half (t : Nat) (w0 w : World) (cs us : List Value) (rs : List Inn) : Prop where
  row : RowAt t w0.heap.size cs w
  below : Below w0.heap.size w0 w
  bld : Build w (w0.heap.size + 1) us rs
theorem Half.start (t : Nat) (cs : List Value) (w0 : World) : Half t w0 (w0.alloc (.cells cs.toArray t)) cs [] [] := ⟨RowAt.new _ _ _, below_alloc (Below.refl _ _) _, Build.nil _ _⟩
theorem Half.step {t : Nat} {w0 w w1 : World} {cs us : List Value} {rs : List Inn} (h : Half t w0 w cs us rs) (hb : Below w.heap.size w w1) {u : Value} {r : Inn} (hu : InnAt w1 w.heap.size u r) {j : Nat} : Half t w0 (w1.setCell ⟨w0.heap.size, j, none⟩ u) (cs.set j u) (us ++ [u]) (rs ++ [r]) :=
  ⟨(h.row.below hb).put j u, (below_trans h.below hb).setCell (p := ⟨w0.heap.size, j, none⟩) (Nat.le_refl _) u, (Build.add h.bld hb (by have := blk_lt h.row; omega) hu).chg (S := fun b => b = w0.heap.size) (Chg.put (S := fun b => b = w0.heap.size) (Chg.refl _ w1) (a := ⟨w0.heap.size, j, none⟩) rfl u) (fun b e => by omega)⟩
/-- An element more, out of rows that were made behind all that is there. -/
theorem OwnG.grow_build {N : Nat} {v' : Value} {x : α} {us : List Value} (h : OwnG K w base v xs vss) (hG : GrownC w base K.t K.sz v (xs.length + 1) ((List.zipWith K.cells xs vss).flatten ++ K.cells x us) v' w1)
    (hold : ∀ u ∈ v :: vss.flatten, ∀ b, ob u = some b → b < N) (hB : Build w N us (K.rows x)) (hN : base ≤ N) : OwnG K w1 base v' (xs ++ [x]) (vss ++ [us]) :=
  OwnG.grow h hG hB.len (fun j hj hj' => CRow.mono (hB.inn j hj hj') hN)
    (fun j hj b hb e => by
      have := hold v (by simp) b e
      have hj' : j < (K.rows x).length := by rw [← hB.len]; exact hj
      have := (CRow.in_ (hB.inn j hj hj') b hb).1
      omega)
    hB.self
    (fun j hj b hb k hk q hq e => by
      have := hold _ (List.mem_cons_of_mem _ (List.mem_flatten.2 ⟨_, List.getElem_mem hk, List.getElem_mem hq⟩)) b e
      have hj' : j < (K.rows x).length := by rw [← hB.len]; exact hj
      have := (CRow.in_ (hB.inn j hj hj') b hb).1
      omega)
end
end Go.Proofs.YtjghibdlmmjobaaGreatDoor

namespace Go.Proofs.YtjghibdlmmjobaaGreatDoor
open Go.RowKit

section
variable {α : Type} {K : Kind α} {w w1 w2 : World} {base : Nat} {v : Value} {xs : List α} {vss : List (List Value)}
/-- Structs of the call's own, of which the first m have rows of their own. -/
structure OwnU {α : Type} (K : Kind α) (w : World) (base : Nat) (v : Value) (xs : List α) (vss : List (List Value)) (m : Nat) : Prop where
  len : vss.length = xs.length
  row : CRow w base K.t K.sz v xs.length (List.zipWith K.cells xs vss).flatten
  inn : ∀ k (h : k < xs.length) (h' : k < vss.length), k < m → vss[k].length = (K.rows xs[k]).length ∧ ∀ j (hj : j < vss[k].length) (hj' : j < (K.rows xs[k]).length), InnAt w base vss[k][j] (K.rows xs[k])[j]
  one : ∀ k (h : k < vss.length) j (hj : j < vss[k].length) b, k < m → ob v = some b → ob vss[k][j] ≠ some b
  two : ∀ k (h : k < vss.length) j (hj : j < vss[k].length) k' (h' : k' < vss.length) j' (hj' : j' < vss[k'].length), k < m → k' < m → (k ≠ k' ∨ j ≠ j') → ∀ b, ob vss[k][j] = some b → ob vss[k'][j'] ≠ some b
theorem OwnU.done (h : OwnU K w base v xs vss xs.length) : OwnG K w base v xs vss :=
  ⟨h.len, h.row, fun k hk hk' => h.inn k hk hk' hk, ⟨fun k hk j hj b hb => h.one k hk j hj b (by have := h.len; omega) hb, fun k hk j hj k' hk' j' hj' hne b hb => h.two k hk j hj k' hk' j' hj' (by have := h.len; omega) (by have := h.len; omega) hne b hb⟩⟩
theorem OwnU.below {m : Nat} (h : OwnU K w base v xs vss m) (hb : Below w.heap.size w w1) : OwnU K w1 base v xs vss m :=
  ⟨h.len, h.row.below hb, fun k hk hk' hm => ⟨(h.inn k hk hk' hm).1, fun j hj hj' => CRow.below ((h.inn k hk hk' hm).2 j hj hj') hb⟩, h.one, h.two⟩
theorem OwnU.chg {S : Nat → Prop} {m : Nat} (h : OwnU K w base v xs vss m) (hk : Chg S w w1) (hs : ∀ b, S b → b < base) : OwnU K w1 base v xs vss m :=
  ⟨h.len, h.row.chg hk (fun b hb hS => by have := (h.row.in_ b hb).1; have := hs b hS; omega), fun k hk0 hk' hm => ⟨(h.inn k hk0 hk' hm).1, fun j hj hj' => CRow.chg ((h.inn k hk0 hk' hm).2 j hj hj') hk (fun b hb hS => by have := (CRow.in_ ((h.inn k hk0 hk' hm).2 j hj hj') b hb).1; have := hs b hS; omega)⟩, h.one, h.two⟩
theorem OwnU.step {m N : Nat} (h : OwnU K w base v xs vss m) (hm : m < xs.length) {us : List Value} (hch : Chg (fun b => ob v = some b) w w1) (hB : Build w1 N us (K.rows xs[m])) (hN : w.heap.size ≤ N) (hbN : base ≤ N)
    (hrow : CRow w1 base K.t K.sz v xs.length (List.zipWith K.cells xs (vss.set m us)).flatten) : OwnU K w1 base v xs (vss.set m us) (m + 1) := by
  have hl := h.len
  have hm' : m < vss.length := by omega
  have getm : (vss.set m us)[m]'(by simpa using hm') = us := List.getElem_set_self _
  have getn : ∀ i (hi : i < (vss.set m us).length), i ≠ m → (vss.set m us)[i] = vss[i]'(by simpa using hi) := fun i hi hne => List.getElem_set_ne (fun e => hne e.symm) _
  have ulo : ∀ j (hj : j < us.length) b, ob us[j] = some b → N ≤ b := fun j hj b hb => by
    have hj' : j < (K.rows xs[m]).length := by rw [← hB.len]; exact hj
    exact (CRow.in_ (hB.inn j hj hj') b hb).1
  have old : ∀ i (hi : i < vss.length) j (hj : j < vss[i].length) b, i < m → ob vss[i][j] = some b → b < w.heap.size := fun i hi j hj b him hb => by
    obtain ⟨e, hin⟩ := h.inn i (by omega) hi him
    exact (CRow.in_ (hin j hj (by omega)) b hb).2
  refine ⟨by simpa using hl, hrow, fun i hi hi' him => ?_, fun i hi j hj b him hb => ?_, fun i hi j hj i' hi' j' hj' him him' hne b hb => ?_⟩
  · by_cases hne : i = m
    · subst hne
      simp only [getm]
      exact ⟨hB.len, fun j hj hj' => CRow.mono (hB.inn j hj hj') hbN⟩
    · have ev := getn i hi' hne
      simp only [ev]
      obtain ⟨e, hin⟩ := h.inn i hi (by simpa using hi') (by omega)
      exact ⟨e, fun j hj hj' => CRow.chg (hin j hj hj') hch (fun b hb hs => h.one i (by simpa using hi') j hj b (by omega) hs hb)⟩
  · by_cases hne : i = m
    · have ei : (vss.set m us)[i] = us := by subst hne; exact getm
      obtain ⟨hj2, ej⟩ := get_cast ei hj
      rw [ej]
      intro hb2
      have := ulo j hj2 b hb2
      have := (h.row.in_ b hb).2
      omega
    · obtain ⟨hj2, ej⟩ := get_cast (getn i hi hne) hj
      rw [ej]
      exact h.one i (by simpa using hi) j hj2 b (by omega) hb
  · by_cases hik : i = m
    · have ei : (vss.set m us)[i] = us := by subst hik; exact getm
      obtain ⟨hj2, ej⟩ := get_cast ei hj
      rw [ej] at hb
      have hge := ulo j hj2 b hb
      by_cases hik' : i' = m
      · have ei' : (vss.set m us)[i'] = us := by subst hik'; exact getm
        obtain ⟨hj3, ej'⟩ := get_cast ei' hj'
        rw [ej']
        exact hB.self j hj2 j' hj3 (hne.resolve_left (fun h => h (hik.trans hik'.symm))) b hb
      · obtain ⟨hj3, ej'⟩ := get_cast (getn i' hi' hik') hj'
        rw [ej']
        intro hb2
        have := old i' (by simpa using hi') j' hj3 b (by omega) hb2
        omega
    · obtain ⟨hj2, ej⟩ := get_cast (getn i hi hik) hj
      rw [ej] at hb
      have hlt := old i (by simpa using hi) j hj2 b (by omega) hb
      by_cases hik' : i' = m
      · have ei' : (vss.set m us)[i'] = us := by subst hik'; exact getm
        obtain ⟨hj3, ej'⟩ := get_cast ei' hj'
        rw [ej']
        intro hb2
        have := ulo j' hj3 b hb2
        omega
      · obtain ⟨hj3, ej'⟩ := get_cast (getn i' hi' hik') hj'
        rw [ej']
        exact h.two i (by simpa using hi) j hj2 i' (by simpa using hi') j' hj3 (by omega) (by omega) hne b hb
/-- An element's cells. -/
theorem OwnU.cell {m : Nat} {ao : Option Addr} {n cap : Nat} (h : OwnU K w base (.slice ao n cap) xs vss m) (hs : 0 < K.sz) {k : Nat} (hk : k < xs.length) :
    ∃ g off, ao = some ⟨g, off, none⟩ ∧ base ≤ g ∧ g < w.heap.size ∧ ob (.slice ao n cap) = some g ∧ ∀ k (hk : k < xs.length) (hk' : k < vss.length) j (hj : j < (K.cells xs[k] vss[k]).length), w.cell? ⟨g, off + k * K.sz + j, none⟩ = some (K.cells xs[k] vss[k])[j] ∧ w.frozen? ⟨g, off + k * K.sz + j, none⟩ = false := by
  have hl := h.len
  have ho := h.row.own (by omega)
  obtain ⟨ao', cap', e, hnc, _⟩ := ho.shape
  injection e with e1 e2 e3
  subst e1 e2 e3
  have hz : (List.zipWith K.cells xs vss).length = xs.length := by simp [hl]
  obtain ⟨g, off, rfl, h1, h2, hc⟩ := ho.elt (zip_len K xs vss) hs (i := k) (by omega)
  refine ⟨g, off, rfl, h1, h2, ob_some (by omega), fun k hk hk' j hj => ?_⟩
  have := hc k (by omega) j (by rw [List.getElem_zipWith]; exact hj)
  simp only [List.getElem_zipWith] at this
  simpa only [Nat.add_assoc] using this
end
end Go.Proofs.YtjghibdlmmjobaaGreatDoor

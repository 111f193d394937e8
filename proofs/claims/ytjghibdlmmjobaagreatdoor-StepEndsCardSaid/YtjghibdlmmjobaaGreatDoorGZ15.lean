/- What the statements share: Num, programs of one and of two functions that they lay themselves. No condition. 'slices.Clone' of frames, 'frame.Copy', 'step.Copy': a state of the call's own, the same. Conditions: the state lies in memory; no list is longer than the reach. A step of a state, plainly. No program in sight. -/
import Derived.Test.YtjghibdlmmjobaaGreatDoorGZ13
import Derived.Deep.RegionHeld3
import Derived.Test.YtjghibdlmmjobaaGreatDoorGZ14
import Derived.Test.YtjghibdlmmjobaaGreatDoorGZ10
namespace Go.Proofs.YtjghibdlmmjobaaGreatDoor
open Go.RowKit

theorem numL_any (n : Int) (w : World) : Calls Tryz.prog 24 #[.int .i64 n] w fun e w' => e = .returned (.int .i64 n) ∧ w' = w := by
  go_enter Tryz.func24, Tryz.ntmps24
  go_wp2
  go_ret
  exact ⟨rfl, rfl⟩
def allocsL (w : World) : List Obj → World
  | [] => w
  | o :: os => allocsL (w.alloc o) os
theorem allocsL_below : ∀ (os : List Obj) (w : World), Below w.heap.size w (allocsL w os)
  | [], _ => Below.refl _ _
  | o :: os, _ => below_trans (below_alloc (Below.refl _ _) o) (allocsL_below os _)
theorem allocsL_get : ∀ (os : List Obj) (w : World) (i : Nat) (h : i < os.length), (allocsL w os).heap[w.heap.size + i]? = some os[i]
  | [], _, _, h => absurd h (by simp)
  | o :: os, w, 0, _ => by
    rw [allocsL, Nat.add_zero, (allocsL_below os (w.alloc o)).block _ (by simp)]
    exact blk_new w o
  | o :: os, w, i + 1, h => by
    have := allocsL_get os (w.alloc o) i (by simpa using h)
    rw [show (w.alloc o).heap.size = w.heap.size + 1 by simp] at this
    rw [allocsL, show w.heap.size + (i + 1) = w.heap.size + 1 + i by omega, this]
    simp
theorem codeL {w : World} {b : Nat} {xs : List Ins} (h : RowAt 48 b (insV xs) w) (hl : xs.length ≤ 1000) : ReadsC w (some ⟨b, 0, none⟩) xs :=
  (ORow.code (base := 0) (ORow.of_row h (Nat.zero_le _) (insV_len xs) (by unfold maxLen; omega))).2
theorem rowL {w : World} {os : List Obj} {i t : Nat} {cs : List Value} (h : i < os.length) (e : os[i] = .cells cs.toArray t) : RowAt t (w.heap.size + i) cs (allocsL w os) := by
  unfold RowAt
  rw [allocsL_get os w i h, e]
theorem intsL {w : World} {b : Nat} {xs : List Int} (h : RowAt 3 b (intsV xs) w) (hl : xs.length ≤ 1000) : ReadsI w (some ⟨b, 0, none⟩) xs := ints_reads (vs := []) (by simpa using h) (by omega)
/-- Functions that lie in a row. -/
theorem funcsL {w : World} {b : Nat} {p : List Fn} {As : List (Option Addr × Nat)} (hl : As.length = p.length) (h : RowAt 84 b (List.zipWith (fun f a => [.int .i64 f.args, .int .i64 f.locals, .slice a.1 f.code.length a.2]) p As).flatten w)
    (hc : ∀ k (h : k < p.length) (h' : k < As.length), ReadsC w As[k].1 p[k].code) (hn : p.length ≤ 1000) : ReadsF w (some ⟨b, 0, none⟩) p := by
  have hz : ∀ l ∈ List.zipWith (fun (f : Fn) (a : Option Addr × Nat) => [Value.int .i64 f.args, .int .i64 f.locals, .slice a.1 f.code.length a.2]) p As, l.length = 3 := fun l hl' => by
    obtain ⟨i, hi, rfl⟩ := List.mem_iff_getElem.1 hl'
    simp
  have hzl : (List.zipWith (fun (f : Fn) (a : Option Addr × Nat) => [Value.int .i64 f.args, .int .i64 f.locals, .slice a.1 f.code.length a.2]) p As).length = p.length := by simp [hl]
  have hfl := flat_len hz
  refine ⟨by omega, fun _ => ⟨_, rfl, fun k hk => ?_⟩⟩
  have hms : k * 3 + 3 ≤ p.length * 3 := by omega
  have cell : ∀ j (hj : j < 3), w.cell? ⟨b, k * 3 + j, none⟩ = some ([Value.int .i64 p[k].args, .int .i64 p[k].locals, .slice (As[k]'(by omega)).1 p[k].code.length (As[k]'(by omega)).2][j]) := fun j hj => by
    have hlt : k * 3 + j < (List.zipWith (fun (f : Fn) (a : Option Addr × Nat) => [Value.int .i64 f.args, .int .i64 f.locals, .slice a.1 f.code.length a.2]) p As).flatten.length := by omega
    rw [h.cell hlt, flat_get hz (i := k) (j := j) (by omega) (by simp; omega) hlt]
    simp
  have c0 := cell 0 (by decide)
  have c1 := cell 1 (by decide)
  have c2 := cell 2 (by decide)
  simp only [List.getElem_cons_zero, List.getElem_cons_succ, Nat.add_zero] at c0 c1 c2
  rw [Addr.add_lit, Nat.zero_add]
  exact ⟨c0, c1, _, _, c2, hc k hk (by omega)⟩
/-- A call that answers a program that it has laid. -/
def ProgL (p : List Fn) (n : Nat) (w : World) (e : Ending) (w' : World) : Prop := ∃ g, e = .returned (.agg #[.slice (some ⟨g, 0, none⟩) n n]) ∧ ReadsF w' (some ⟨g, 0, none⟩) p ∧ Below w.heap.size w w'
def twoA : List Ins := [⟨1, 0⟩, ⟨0, 2⟩, ⟨14, 1⟩, ⟨10, 0⟩, ⟨15, 0⟩, ⟨16, 0⟩]
def twoB : List Ins := [⟨1, 0⟩, ⟨1, 1⟩, ⟨3, 0⟩, ⟨16, 0⟩]
def twoP : List Fn := [⟨1, 1, twoA⟩, ⟨2, 2, twoB⟩]
def twoO (n : Nat) : List Obj := [.cells #[.slice (some ⟨n + 3, 0, none⟩) 2 2] 24, .cells (insV twoA).toArray 48, .cells (insV twoB).toArray 48,
  .cells #[.int .i64 1, .int .i64 1, .slice (some ⟨n + 1, 0, none⟩) 6 6, .int .i64 2, .int .i64 2, .slice (some ⟨n + 2, 0, none⟩) 4 4] 84]
theorem two_reads (w : World) : ReadsF (allocsL w (twoO w.heap.size)) (some ⟨w.heap.size + 3, 0, none⟩) twoP :=
  funcsL (As := [(some ⟨w.heap.size + 1, 0, none⟩, 6), (some ⟨w.heap.size + 2, 0, none⟩, 4)]) rfl (rowL (i := 3) (by simp [twoO]) rfl) (fun k hk _ => by
    match k, hk with
    | 0, _ => exact codeL (xs := twoA) (rowL (i := 1) (by simp [twoO]) rfl) (by simp [twoA])
    | 1, _ => exact codeL (xs := twoB) (rowL (i := 2) (by simp [twoO]) rfl) (by simp [twoB])) (by simp [twoP])
theorem small_reads (a l : Int) (A : Option Addr) (c : Nat) (code : List Ins) (w : World) (hr : ReadsC w A code) :
    ReadsF (allocsL w [.cells #[.slice (some ⟨w.heap.size + 1, 0, none⟩) 1 1] 24, .cells #[.int .i64 a, .int .i64 l, .slice A code.length c] 84]) (some ⟨w.heap.size + 1, 0, none⟩) [⟨a, l, code⟩] :=
  funcsL (As := [(A, c)]) rfl (rowL (i := 1) (by simp) rfl) (fun k hk _ => by
    obtain rfl : k = 0 := by simpa using hk
    exact hr.below (allocsL_below _ _)) (by simp)
theorem twoP_len : twoP.length = 2 := rfl
theorem len0 {α : Type} : ([] : List α).length = 0 := rfl
theorem len1 {α : Type} (a : α) : [a].length = 1 := rfl
theorem len2 {α : Type} (a b : α) : [a, b].length = 2 := rfl
theorem two_alloc (w : World) (A B : Obj) : ((w.alloc A).alloc B).heap[w.heap.size]? = some A ∧ ((w.alloc A).alloc B).heap[w.heap.size + 1]? = some B := by
  have h1 := allocsL_get [A, B] w 0 (by simp)
  have h2 := allocsL_get [A, B] w 1 (by simp)
  exact ⟨h1, h2⟩
/-- Whatever a region does to the world: old cells are as they were. -/
theorem below_drw {w w1 : World} (h : Below w.heap.size w w1) : Below w.heap.size w w1.drew := ⟨h.os, h.tape, h.output, h.size, h.block⟩
end Go.Proofs.YtjghibdlmmjobaaGreatDoor

namespace Go.Proofs.YtjghibdlmmjobaaGreatDoor
open Go.RowKit

theorem add_s3 (a : Addr) (j : Nat) : (⟨(a.add j).block, (a.add j).off + 3, none⟩ : Addr) = a.add (j + 3) := by
  unfold Addr.add
  by_cases h : j = 0
  · subst h; simp
  · rw [if_neg h, if_neg (by omega)]; rfl
/-- Frames' cells, out of what they are read as. -/
theorem frm_rows {w : World} {A : Option Addr} {r : List Frm} (h : ReadsFr w A r) : ∃ vss : List (List Value), vss.length = r.length ∧
    (∀ k (hk : k < r.length) (hk' : k < vss.length), ∃ A1 n1 A2 n2, vss[k] = [.slice A1 r[k].locals.length n1, .slice A2 r[k].stack.length n2] ∧ ReadsI w A1 r[k].locals ∧ ReadsI w A2 r[k].stack) ∧
    (0 < r.length → ∃ ad : Addr, A = some ad ∧ ∀ j u, (List.zipWith KFr.cells r vss).flatten[j]? = some u → w.cell? (ad.add j) = some u) := by
  have key : ∀ k, ∃ vs : List Value, ∀ hk : k < r.length, ∃ A1 n1 A2 n2, vs = [.slice A1 r[k].locals.length n1, .slice A2 r[k].stack.length n2] ∧ ReadsI w A1 r[k].locals ∧ ReadsI w A2 r[k].stack ∧
      ∃ ad : Addr, A = some ad ∧ w.cell? (ad.add (k * 4)) = some (.int .i64 r[k].fn) ∧ w.cell? ⟨(ad.add (k * 4)).block, (ad.add (k * 4)).off + 1, none⟩ = some (.int .i64 r[k].pc) ∧ w.cell? ⟨(ad.add (k * 4)).block, (ad.add (k * 4)).off + 2, none⟩ = some (.slice A1 r[k].locals.length n1) ∧ w.cell? ⟨(ad.add (k * 4)).block, (ad.add (k * 4)).off + 3, none⟩ = some (.slice A2 r[k].stack.length n2) := by
    intro k
    by_cases hk : k < r.length
    · obtain ⟨ad, e, c0, c1, ⟨A1, n1, c2, s2⟩, A2, n2, c3, s3⟩ := h.at_ (Below.refl _ _) hk
      exact ⟨[.slice A1 r[k].locals.length n1, .slice A2 r[k].stack.length n2], fun _ => ⟨A1, n1, A2, n2, rfl, s2, s3, ad, e, c0, c1, c2, c3⟩⟩
    · exact ⟨[], fun h => absurd h hk⟩
  let vss : List (List Value) := (List.range r.length).map fun k => (key k).choose
  have hvl : vss.length = r.length := by simp [vss]
  have hvk : ∀ k (hk : k < r.length) (hk' : k < vss.length), vss[k] = (key k).choose := fun k hk hk' => by simp [vss]
  refine ⟨vss, hvl, fun k hk hk' => ?_, fun h0 => ?_⟩
  · rw [hvk k hk hk']
    obtain ⟨A1, n1, A2, n2, e, s1, s2, _⟩ := (key k).choose_spec hk
    exact ⟨A1, n1, A2, n2, e, s1, s2⟩
  · obtain ⟨ad, eA, _⟩ := h.2 h0
    refine ⟨ad, eA, fun j u hu => ?_⟩
    obtain ⟨hj, rfl⟩ := List.getElem?_eq_some_iff.1 hu
    have hL := zip_len KFr r vss
    have hzl : (List.zipWith KFr.cells r vss).length = r.length := by simp [hvl]
    have hfl := flat_len hL
    rw [hzl] at hfl
    have hfl4 : (List.zipWith KFr.cells r vss).flatten.length = r.length * 4 := hfl
    have hk : j / 4 < r.length := by omega
    have hkz : j / 4 < (List.zipWith KFr.cells r vss).length := by omega
    have hkv : j / 4 < vss.length := by omega
    obtain ⟨A1, n1, A2, n2, e, s1, s2, ad', eA', c0, c1, c2, c3⟩ := (key (j / 4)).choose_spec hk
    rw [← hvk _ hk hkv] at e
    cases eA.symm.trans eA'
    have hcells : (List.zipWith KFr.cells r vss)[j / 4] = [.int .i64 r[j / 4].fn, .int .i64 r[j / 4].pc, .slice A1 r[j / 4].locals.length n1, .slice A2 r[j / 4].stack.length n2] := by
      rw [List.getElem_zipWith, e]; rfl
    have hm : j % 4 < 4 := Nat.mod_lt _ (by decide)
    have ej : j = j / 4 * 4 + j % 4 := by omega
    have hget : (List.zipWith KFr.cells r vss).flatten[j] = ([Value.int .i64 r[j / 4].fn, .int .i64 r[j / 4].pc, .slice A1 r[j / 4].locals.length n1, .slice A2 r[j / 4].stack.length n2])[j % 4]'(by simpa using hm) := by
      have h1 := flat_get hL (i := j / 4) (j := j % 4) hkz (by rw [hcells]; simpa using hm) (by have := hfl4; show j / 4 * 4 + j % 4 < _; omega)
      simp only [hcells] at h1
      rw [← h1]
      congr 1
    rw [hget]
    obtain e0 | e0 | e0 | e0 : j % 4 = 0 ∨ j % 4 = 1 ∨ j % 4 = 2 ∨ j % 4 = 3 := by omega
    · simp only [e0, List.getElem_cons_zero]; rw [← c0]; congr 2; omega
    · simp only [e0, List.getElem_cons_zero, List.getElem_cons_succ]; rw [← c1, add_succ]; congr 2; omega
    · simp only [e0, List.getElem_cons_zero, List.getElem_cons_succ]; rw [← c2, add_succ2]; congr 2; omega
    · simp only [e0, List.getElem_cons_zero, List.getElem_cons_succ]; rw [← c3, add_s3]; congr 2; omega
/-- A call that answers frames' rows, copied; what stands in them is as it was. -/
def CloneF (r : List Frm) (vss : List (List Value)) (w : World) (e : Ending) (w' : World) : Prop := ∃ ao cap, e = .returned (.slice ao r.length cap) ∧ CRow w' w.heap.size 54 4 (.slice ao r.length cap) r.length (List.zipWith KFr.cells r vss).flatten ∧ Below w.heap.size w w'
theorem frm_src {P : Program} {tx e' : TypeId} (hk : P.underlying tx = some (.slice e')) {w : World} {a : Addr} {c : Nat} {r : List Frm} {vss : List (List Value)} (hl : vss.length = r.length) (hv : ∀ k (hk : k < r.length) (hk' : k < vss.length), ∃ A1 n1 A2 n2, vss[k] = [.slice A1 r[k].locals.length n1, .slice A2 r[k].stack.length n2])
    (h : ∀ j u, (List.zipWith KFr.cells r vss).flatten[j]? = some u → w.cell? (a.add j) = some u) : Src P 4 tx (.slice (some a) r.length c) r.length (List.zipWith KFr.cells r vss).flatten w :=
  Src.ofSlice w hk a _ c _ (by have := flat_len (zip_len KFr r vss); rw [show (List.zipWith KFr.cells r vss).length = r.length by simp [hl]] at this; exact this) h (fun u hu => by
    obtain ⟨l, hlm, hul⟩ := List.mem_flatten.1 hu
    obtain ⟨k, hk, rfl⟩ := List.mem_iff_getElem.1 hlm
    have hk1 : k < r.length := by simp at hk; omega
    have hk2 : k < vss.length := by omega
    obtain ⟨A1, n1, A2, n2, e⟩ := hv k hk1 hk2
    rw [List.getElem_zipWith, e] at hul
    simp [KFr] at hul
    rcases hul with rfl | rfl | rfl | rfl <;> rfl)
set_option maxRecDepth 100000 in
theorem cloneF_any (A : Option Addr) (c : Nat) (r : List Frm) (vss : List (List Value)) (w : World) (hz : r.length * 64 ≤ 140737488351232) (hl : vss.length = r.length)
    (hv : ∀ k (hk : k < r.length) (hk' : k < vss.length), ∃ A1 n1 A2 n2, vss[k] = [.slice A1 r[k].locals.length n1, .slice A2 r[k].stack.length n2]) (hc : 0 < r.length → ∃ ad : Addr, A = some ad ∧ ∀ j u, (List.zipWith KFr.cells r vss).flatten[j]? = some u → w.cell? (ad.add j) = some u) :
    Calls Tryz.prog 127 #[.slice A r.length c] w (CloneF r vss w) := by
  cases A with
  | none =>
    have h0 : r.length = 0 := by
      rcases Nat.eq_zero_or_pos r.length with h | h
      · exact h
      · obtain ⟨ad, e, _⟩ := hc h; cases e
    obtain rfl := List.eq_nil_of_length_eq_zero h0
    have hq : (binOp .eql 55 (.slice none 0 c) (.slice none 0 0)).run Tryz.prog w = .ok (.bool true) w := eql_nil w _ 54 none 0 c Tryz.underlying55
    clear hz hl hv hc h0
    go_enter Tryz.func127, Tryz.ntmps127
    go_wp2_with fail
    go_ret
    exact ⟨none, 0, rfl, CRow.nil _ _ _ _, Below.refl _ _⟩
  | some a =>
    obtain ⟨i, hi, hz0, hs, hb⟩ := info_parts info_frame
    have b1 : Below w.heap.size w (w.alloc (.cells #[] 54)) := below_alloc (Below.refl _ _) _
    have hsrc : Src Tryz.prog 4 55 (.slice (some a) r.length c) r.length (List.zipWith KFr.cells r vss).flatten (w.alloc (.cells #[] 54)) := frm_src Tryz.underlying55 hl hv (fun j u hu => by
      have h0 : 0 < r.length := by
        obtain ⟨hj, _⟩ := List.getElem?_eq_some_iff.1 hu
        rcases Nat.eq_zero_or_pos r.length with h | h
        · obtain rfl := List.eq_nil_of_length_eq_zero h
          simp at hj
        · exact h
      obtain ⟨ad, e, hcc⟩ := hc h0
      cases e
      have := hcc j u hu
      exact (b1.cell (World.block_lt_of_cell? w _ this)).trans this)
    obtain ⟨v', w1, hrun, hG⟩ := run_append_crow (P := Tryz.prog) (w.alloc (.cells #[] 54)) 55 54 55 55 i _ 4 64 Tryz.underlying55 hi hz0 hs hb rfl w.heap.size (some ⟨w.heap.size, 0, none⟩) 0 0 [] (.inr ⟨rfl, rfl, _, rfl⟩) b1.size
      (.slice (some a) r.length c) r.length _ hsrc (by omega) (by unfold maxLen; omega)
    have hrow := hG.row
    rw [Nat.zero_add, List.nil_append] at hrow
    obtain ⟨ao, cap, rfl, _, _⟩ := hrow.shape
    have HC := Lib.hid hrow
    have HB := Lib.hid (Chg.below b1 hG.chg (fun b hb => by cases hb))
    have hq : (binOp .eql 55 (.slice (some a) r.length c) (.slice none 0 0)).run Tryz.prog w = .ok (.bool false) w := eql_nil w _ 54 (some a) _ c Tryz.underlying55
    clear hrow hG hi hz0 hs hb b1 hsrc hz hl hv hc
    go_enter Tryz.func127, Tryz.ntmps127
    go_wp2_with (first | (at_builtin; refine wpList_append_run _ rfl _ _ _ _ rfl _ _ _ _ rfl rfl hrun ?_) | fail)
    go_ret
    exact ⟨ao, cap, rfl, HC.out, HB.out⟩
/-- A call that answers a frame, its rows of the call's own. -/
def FCopyE (f : Frm) (w : World) (e : Ending) (w' : World) : Prop := ∃ a1 c1 a2 c2, e = .returned (.agg #[.int .i64 f.fn, .int .i64 f.pc, .slice a1 f.locals.length c1, .slice a2 f.stack.length c2]) ∧ Build w' w.heap.size [.slice a1 f.locals.length c1, .slice a2 f.stack.length c2] (KFr.rows f) ∧ Below w.heap.size w w'
theorem Build.mono {w : World} {N M : Nat} {us : List Value} {rs : List Inn} (h : Build w N us rs) (hM : M ≤ N) : Build w M us rs :=
  ⟨h.len, fun j hj hj' => CRow.mono (h.inn j hj hj') hM, h.self⟩
set_option maxRecDepth 100000 in
set_option maxHeartbeats 4000000 in
theorem fcopy_any (A1 A2 : Option Addr) (c1 c2 : Nat) (f : Frm) (w : World) (h1 : ReadsI w A1 f.locals) (h2 : ReadsI w A2 f.stack) (z1 : f.locals.length * 8 ≤ 140737488351232) (z2 : f.stack.length * 8 ≤ 140737488351232) :
    Calls Tryz.prog 128 #[.agg #[.int .i64 f.fn, .int .i64 f.pc, .slice A1 f.locals.length c1, .slice A2 f.stack.length c2]] w (FCopyE f w) := by
  obtain ⟨w1, hw1⟩ : ∃ w1, w.alloc (.cells #[.int .i64 f.fn, .int .i64 f.pc, .slice A1 f.locals.length c1, .slice A2 f.stack.length c2] 54) = w1 := ⟨_, rfl⟩
  obtain ⟨w2, hw2⟩ : ∃ w2, w1.alloc (.cells #[.int .i64 0, .int .i64 0, .slice none 0 0, .slice none 0 0] 54) = w2 := ⟨_, rfl⟩
  have b1 : Below w.heap.size w w1 := hw1 ▸ below_alloc (Below.refl _ _) _
  have b2 : Below w1.heap.size w1 w2 := hw2 ▸ below_alloc (Below.refl _ _) _
  have y1 : w1.heap.size = w.heap.size + 1 := by rw [← hw1]; simp
  have y2 : w2.heap.size = w.heap.size + 2 := by rw [← hw2]; simp [y1]
  have r1 : RowAt 54 w.heap.size [.int .i64 f.fn, .int .i64 f.pc, .slice A1 f.locals.length c1, .slice A2 f.stack.length c2] w2 := (hw1 ▸ RowAt.new _ _ w : RowAt 54 w.heap.size _ w1).below b2
  have r2 : RowAt 54 w1.heap.size [.int .i64 0, .int .i64 0, .slice none 0 0, .slice none 0 0] w2 := hw2 ▸ RowAt.new _ _ w1
  have b02 := below_trans b1 b2
  have d2 := r1.cell (k := 2) (by simp)
  have d3 := r1.cell (k := 3) (by simp)
  simp only [List.getElem_cons_zero, List.getElem_cons_succ] at d2 d3
  have HC1 := Lib.hid (show ∀ W', Below w2.heap.size w2 W' → Calls Tryz.prog 103 #[.slice A1 f.locals.length c1] W' (CloneE 3 1 f.locals.length (intsV f.locals) W') from fun W' h => cloneI_any A1 c1 f.locals W' (h1.below (below_trans b02 h)) z1)
  have HC2 := Lib.hid (show ∀ W', Below w2.heap.size w2 W' → Calls Tryz.prog 103 #[.slice A2 f.stack.length c2] W' (CloneE 3 1 f.stack.length (intsV f.stack) W') from fun W' h => cloneI_any A2 c2 f.stack W' (h2.below (below_trans b02 h)) z2)
  have R1 := Lib.hid r1
  have R2 := Lib.hid r2
  have Y1 := Lib.hid y1
  have Y2 := Lib.hid y2
  have B02 := Lib.hid b02
  clear h1 h2 z1 z2 b1 b2 y1 y2 r1 r2 b02
  go_enter Tryz.func128, Tryz.ntmps128
  go_upto_region 1 with fail
  clear hw1 hw2
  go_region_with
    (first | ((go_at_call 103; (with_reducible refine (HC1.out _ (below_drw (Below.refl _ _))).mono ?_); rintro e wj ⟨aj, cj, rfl, hcj, hbj⟩; have HCJ := Lib.hid hcj; have HBJ := Lib.hid hbj; have HWJ := Lib.hid (below_trans (below_drw (Below.refl w2.heap.size w2)) hbj); have t2 := cell_below HWJ.out d2; have t3 := cell_below HWJ.out d3; clear hcj hbj)) | ((go_at_call 103; (with_reducible refine (HC2.out _ HWJ.out).mono ?_); rintro e wf ⟨af, cf, rfl, hcf, hbf⟩; have HCF := Lib.hid hcf; have HBF := Lib.hid hbf; have HWF := Lib.hid (below_trans HWJ.out hbf); have u2 := cell_below HWF.out d2; have u3 := cell_below HWF.out d3; have z2 : wf.frozen? ⟨w.heap.size, 2, none⟩ = false := (R1.out.below HWF.out).free 2; have z3 : wf.frozen? ⟨w.heap.size, 3, none⟩ = false := (R1.out.below HWF.out).free 3; clear hcf hbf)))
  all_goals
    have hB1 : Build wj w2.heap.size [.slice aj f.locals.length cj] [innI f.locals] := Build.add (Build.nil w2.drew w2.heap.size) HBJ.out (Nat.le_refl _) HCJ.out
    have hB2 : Build wf w2.heap.size [.slice aj f.locals.length cj, .slice af f.stack.length cf] [innI f.locals, innI f.stack] := Build.add hB1 HBF.out HWJ.out.size HCF.out
    have rf := R1.out.below HWF.out
    have p3 := (rf.put 2 (.slice aj f.locals.length cj)).put 3 (.slice af f.stack.length cf)
    simp only [List.set_cons_zero, List.set_cons_succ] at p3
    have kc : Chg (fun b => b = w.heap.size) wf ((wf.setCell ⟨w.heap.size, 2, none⟩ (.slice aj f.locals.length cj)).setCell ⟨w.heap.size, 3, none⟩ (.slice af f.stack.length cf)) := ((Chg.refl (fun b => b = w.heap.size) wf).put (a := ⟨w.heap.size, 2, none⟩) rfl _).put (a := ⟨w.heap.size, 3, none⟩) rfl _
    obtain ⟨wg, hwg⟩ : ∃ wg, (wf.setCell ⟨w.heap.size, 2, none⟩ (.slice aj f.locals.length cj)).setCell ⟨w.heap.size, 3, none⟩ (.slice af f.stack.length cf) = wg := ⟨_, rfl⟩
    rw [hwg] at p3 kc ⊢
    have q2 := (R2.out.below HWF.out).chg kc (by have := Y1.out; omega)
    have g0 := p3.cell (k := 0) (by simp)
    have g1 := p3.cell (k := 1) (by simp)
    have g2 := p3.cell (k := 2) (by simp)
    have g3 := p3.cell (k := 3) (by simp)
    simp only [List.getElem_cons_zero, List.getElem_cons_succ] at g0 g1 g2 g3
    have m0 : wg.cell? ⟨w1.heap.size, 0, none⟩ = some (.int .i64 0) := q2.cell (k := 0) (by simp)
    have m1 : wg.cell? ⟨w1.heap.size, 1, none⟩ = some (.int .i64 0) := q2.cell (k := 1) (by simp)
    have m2 : wg.cell? ⟨w1.heap.size, 2, none⟩ = some (.slice none 0 0) := q2.cell (k := 2) (by simp)
    have m3 : wg.cell? ⟨w1.heap.size, 3, none⟩ = some (.slice none 0 0) := q2.cell (k := 3) (by simp)
    have n0 := q2.free 0
    have n1 := q2.free 1
    have n2 := q2.free 2
    have n3 := q2.free 3
    have e0 := q2.put 0 (.int .i64 f.fn)
    have e1 := e0.put 1 (.int .i64 f.pc)
    have e2 := e1.put 2 (.slice aj f.locals.length cj)
    have e3 := e2.put 3 (.slice af f.stack.length cf)
    have kd := ((((Chg.refl (fun b => b = w1.heap.size) wg).put (a := ⟨w1.heap.size, 0, none⟩) rfl (.int .i64 f.fn)).put (a := ⟨w1.heap.size, 1, none⟩) rfl (.int .i64 f.pc)).put (a := ⟨w1.heap.size, 2, none⟩) rfl (.slice aj f.locals.length cj)).put (a := ⟨w1.heap.size, 3, none⟩) rfl (.slice af f.stack.length cf)
    have EE := Lib.hid (And.intro (e0.cell (k := 0) (by simp)) (And.intro (e1.cell (k := 1) (by simp)) (And.intro (e2.cell (k := 2) (by simp)) (e3.cell (k := 3) (by simp)))))
    have FIN := Lib.hid (show FCopyE f w (.returned (.agg #[.int .i64 f.fn, .int .i64 f.pc, .slice aj f.locals.length cj, .slice af f.stack.length cf])) _ from
      ⟨aj, cj, af, cf, rfl, ((hB2.chg kc (fun b e => by have := Y2.out; omega)).chg kd (fun b e => by have := Y2.out; have := Y1.out; omega)).mono (by have := Y2.out; omega), Chg.below (Chg.below (below_trans B02.out HWF.out) kc (fun b e => by omega)) kd (fun b e => by have := Y1.out; omega)⟩)
    clear hB1 hB2 rf p3 kc q2 e0 e1 e2 e3 kd d2 d3 t2 t3 u2 u3 z2 z3 hwg
    go_wp2_with fail
    exact bodyPost_ret (v := .agg #[.int .i64 f.fn, .int .i64 f.pc, .slice aj f.locals.length cj, .slice af f.stack.length cf]) (by simp [results, Tryz.results128, go_sem, EE.out.1, EE.out.2.1, EE.out.2.2.1, EE.out.2.2.2]) rfl FIN.out
end Go.Proofs.YtjghibdlmmjobaaGreatDoor

namespace Go.Proofs.YtjghibdlmmjobaaGreatDoor

/-- The number of 32 bits. -/
def wrapN (x : Int) : Int := (x + 2147483648) % 4294967296 - 2147483648
theorem wrapN_num (x : Int) : isNum (wrapN x) = true := by rw [num_yes]; unfold wrapN; omega
theorem wrapN_id {x : Int} (h : isNum x = true) : wrapN x = x := by rw [num_yes] at h; unfold wrapN; omega
/-- An operation of two numbers; is it a trap? -/
def doN (k a b : Int) : Int × Bool :=
  if (k = 6 ∨ k = 7) ∧ b = 0 then (0, true) else
  (wrapN (if k = 3 then a + b else if k = 4 then a - b else if k = 5 then a * b else if k = 6 then a.tdiv b else if k = 7 then a.tmod b else if k = 8 then (if a = b then 1 else 0) else (if a < b then 1 else 0)), false)
/-- What an instruction comes to. -/
inductive Res
  | next
  | print (v : Int)
  | call (fn : Int) (args : List Int)
  | ret (v : Int)
  | over (done : Int)
def lastN (l : List Int) : Int := l.getLastD 0
/-- An instruction of a frame, with so many frames; its pc has gone on. -/
def oneI (p : List Fn) (f : Frm) (x : Ins) (depth : Nat) : Frm × Res :=
  if x.kind = 0 then (⟨f.fn, f.pc + 1, f.locals, f.stack ++ [x.a]⟩, .next)
  else if x.kind = 1 then (⟨f.fn, f.pc + 1, f.locals, f.stack ++ [f.locals.getD x.a.toNat 0]⟩, .next)
  else if x.kind = 2 then (⟨f.fn, f.pc + 1, f.locals.set x.a.toNat (lastN f.stack), f.stack.dropLast⟩, .next)
  else if x.kind = 10 then (⟨f.fn, f.pc + 1, f.locals, f.stack ++ [lastN f.stack]⟩, .next)
  else if x.kind = 11 then (⟨f.fn, f.pc + 1, f.locals, f.stack.dropLast⟩, .next)
  else if x.kind = 12 then (⟨f.fn, x.a, f.locals, f.stack⟩, .next)
  else if x.kind = 13 then (⟨f.fn, if lastN f.stack = 0 then x.a else f.pc + 1, f.locals, f.stack.dropLast⟩, .next)
  else if x.kind = 14 then
    if 12 ≤ depth then (⟨f.fn, f.pc + 1, f.locals, f.stack⟩, .over 3)
    else (⟨f.fn, f.pc + 1, f.locals, f.stack.take (f.stack.length - (argsOf p x).toNat)⟩, .call x.a (f.stack.drop (f.stack.length - (argsOf p x).toNat)))
  else if x.kind = 15 then (⟨f.fn, f.pc + 1, f.locals, f.stack.dropLast⟩, .print (lastN f.stack))
  else if x.kind = 16 then (⟨f.fn, f.pc + 1, f.locals, f.stack.dropLast⟩, .ret (lastN f.stack))
  else
    let d := doN x.kind (lastN f.stack.dropLast) (lastN f.stack)
    if d.2 = true then (⟨f.fn, f.pc + 1, f.locals, f.stack.dropLast.dropLast⟩, .over 2) else (⟨f.fn, f.pc + 1, f.locals, f.stack.dropLast.dropLast ++ [d.1]⟩, .next)
def insAt (p : List Fn) (f : Frm) : Ins := (codeAt p f.fn f.pc).getD ⟨0, 0⟩
def beginF (p : List Fn) (fn : Int) (args : List Int) : Frm := ⟨fn, 0, args ++ List.replicate ((localsAt p fn).toNat - args.length) 0, []⟩
def topF (s : Stt) : Frm := s.frames.getLastD default
/-- A step of a state that goes on. -/
def onceS (p : List Fn) (s : Stt) : Stt :=
  if s.fuel = 0 then ⟨[], 0, s.out, 4, 0⟩ else
  let r := oneI p (topF s) (insAt p (topF s)) s.frames.length
  match r.2 with
  | .next => ⟨s.frames.dropLast ++ [r.1], s.fuel - 1, s.out, 0, 0⟩
  | .print v => ⟨s.frames.dropLast ++ [r.1], s.fuel - 1, s.out ++ [v], 0, 0⟩
  | .call fn args => ⟨s.frames.dropLast ++ [r.1, beginF p fn args], s.fuel - 1, s.out, 0, 0⟩
  | .ret v => if s.frames.length ≤ 1 then ⟨[], s.fuel - 1, s.out, 1, v⟩ else
    let g := s.frames.dropLast.getLastD default
    ⟨s.frames.dropLast.dropLast ++ [⟨g.fn, g.pc, g.locals, g.stack ++ [v]⟩], s.fuel - 1, s.out, 0, 0⟩
  | .over d => ⟨[], s.fuel - 1, s.out, d, 0⟩
def stepN (p : List Fn) (s : Stt) : Stt := if s.done = 0 then onceS p s else s
def stepS (p : List Fn) (s : Stt) : Stt := if stateB p s = true then stepN p s else ⟨[], 0, [], 0, 0⟩
def stepC (p : List Fn) (s : Stt) : Int := if stateB p s = true then 0 else 700

/-- Where a frame of a program that is verified stands. -/
structure At (p : List Fn) (f : Frm) (h : Int) (fn pc : Nat) : Prop where
  efn : f.fn = fn
  epc : f.pc = pc
  hfn : fn < p.length
  hpc : pc < p[fn].code.length
  reach : Reach p[fn].code pc
  height : (heightsF p p[fn]).1[pc]? = some h
  h0 : 0 ≤ h
theorem At.of {p : List Fn} (hv : verifyOf p = 0) {f : Frm} (h : 0 ≤ heightAt p f.fn f.pc) : ∃ fn pc : Nat, At p f (heightAt p f.fn f.pc) fn pc := by
  have hp := verifyOf_packs hv
  have h1 : 0 ≤ f.pc := by
    by_cases hc : f.pc < 0
    · rw [heightAt_neg hc] at h; omega
    · omega
  have h2 : 0 ≤ f.fn ∧ f.fn < p.length := by
    by_cases hc : 0 ≤ f.fn ∧ f.fn < p.length
    · exact hc
    · rw [heightAt_no hc] at h; omega
  obtain ⟨pc, hpc⟩ := Int.eq_ofNat_of_zero_le h1
  obtain ⟨fn, hfn⟩ := Int.eq_ofNat_of_zero_le h2.1
  have hfl : fn < p.length := by omega
  have hg := heights_good (fnMay_of (packs_fn hp hfl)).2.2.2.2 (verifyOf_fn hv hfl)
  have hlt : pc < p[fn].code.length := by
    by_cases hc : (p[fn].code.length : Int) ≤ pc
    · rw [hfn, hpc, heightAt_far hv hfl hc] at h; omega
    · omega
  have hlt' : pc < (heightsF p p[fn]).1.length := by rw [hg.len]; exact hlt
  have hh : heightAt p f.fn f.pc = (heightsF p p[fn]).1[pc] := by
    rw [hfn, hpc, heightAt_yes hv hfl (by omega), Int.toNat_natCast, List.getElem?_eq_getElem hlt']; rfl
  have hs : (heightsF p p[fn]).1[pc]? = some (heightAt p f.fn f.pc) := by rw [hh]; exact List.getElem?_eq_getElem hlt'
  exact ⟨fn, pc, hfn, hpc, hfl, hlt, (hg.sound pc _ hs (by omega)).1, hs, h⟩
/-- What the instruction there finds. -/
structure Finds (p : List Fn) (f : Frm) (h : Int) (fn pc : Nat) (x : Ins) : Prop where
  ins : insAt p f = x
  code : codeAt p f.fn f.pc = some x
  may : insMay x = true
  ranged : ∀ hfn : fn < p.length, rangedB p p[fn] x = true
  takes : takesOf x.kind (argsOf p x) ≤ h
  behind : behindH p x h ≤ 8
  goes : ∀ t : Nat, (∃ hfn : fn < p.length, t ∈ nx p[fn].code pc) → heightAt p f.fn t = behindH p x h
theorem At.finds {p : List Fn} (hv : verifyOf p = 0) {f : Frm} {h : Int} {fn pc : Nat} (ha : At p f h fn pc) : ∃ x, Finds p f h fn pc x ∧ ∃ hfn : fn < p.length, ∃ hpc : pc < p[fn].code.length, x = p[fn].code[pc] := by
  have hp := verifyOf_packs hv
  have hfl := ha.hfn
  have hlt := ha.hpc
  have hm := (fnMay_of (packs_fn hp hfl)).2.2.2.2
  have hg := heights_good hm (verifyOf_fn hv hfl)
  obtain ⟨hq, g1, g2, g3⟩ := (hg.good pc h ha.height (by have := ha.h0; omega)).resolve_left (by simp)
  have hc : codeAt p f.fn f.pc = some p[fn].code[pc] := by
    unfold codeAt
    rw [ha.efn, ha.epc, Int.toNat_natCast, Int.toNat_natCast, List.getElem?_eq_getElem hfl]
    simp only
    rw [List.getElem?_eq_getElem hlt]
  refine ⟨p[fn].code[pc], ⟨by unfold insAt; rw [hc]; rfl, hc, may_mem hm hlt, fun _ => ranged_of hm (heights_len (verifyOf_fn hv hfl)).2.2 ha.reach hlt, g1, g2, fun t ⟨_, ht⟩ => ?_⟩, hfl, hlt, rfl⟩
  rw [ha.efn, heightAt_yes hv hfl (by omega), Int.toNat_natCast, g3 t ht]; rfl
end Go.Proofs.YtjghibdlmmjobaaGreatDoor

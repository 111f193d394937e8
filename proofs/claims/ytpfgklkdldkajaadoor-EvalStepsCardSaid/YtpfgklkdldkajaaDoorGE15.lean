/- What the statements share: Num, programs of one and of two functions that they lay themselves. No condition. A frame more, on frames of the call's own. Plain lemmas. A frame at a place: its four cells, its two rows, each in a block by itself. Plain definitions and lemmas. -/
import Derived.Test.YtpfgklkdldkajaaDoorGE14
import Derived.Deep.RegionHeld3
import Derived.Test.YtpfgklkdldkajaaDoorGE10
import Derived.Test.YtpfgklkdldkajaaDoorGE12
namespace Go.Proofs.YtpfgklkdldkajaaDoor
open Go.RowKit

theorem numL_any (n : Int) (w : World) : Calls Tryd.prog 15 #[.int .i64 n] w fun e w' => e = .returned (.int .i64 n) ∧ w' = w := by
  go_enter Tryd.func15, Tryd.ntmps15
  go_wp2
  go_ret
  exact ⟨rfl, rfl⟩
def allocsL (w : World) : List Obj → World
  | [] => w
  | o :: os => allocsL (w.alloc o) os
theorem allocsL_below : ∀ (os : List Obj) (w : World), Below w.heap.size w (allocsL w os)
  | [], _ => Below.refl _ _
  | o :: os, _ => below_trans (below_alloc (Below.refl _ _) o) (allocsL_below os _)
theorem allocsL_get : ∀ (os : List Obj) (w : World) (i : Nat) (h : i < os.length), (allocsL w os).heap[w.heap.size + i]? = some os[i]
  | [], _, _, h => absurd h (by simp)
  | o :: os, w, 0, _ => by
    rw [allocsL, Nat.add_zero, (allocsL_below os (w.alloc o)).block _ (by simp)]
    exact blk_new w o
  | o :: os, w, i + 1, h => by
    have := allocsL_get os (w.alloc o) i (by simpa using h)
    rw [show (w.alloc o).heap.size = w.heap.size + 1 by simp] at this
    rw [allocsL, show w.heap.size + (i + 1) = w.heap.size + 1 + i by omega, this]
    simp
theorem codeL {w : World} {b : Nat} {xs : List Ins} (h : RowAt 28 b (insV xs) w) (hl : xs.length ≤ 1000) : ReadsC w (some ⟨b, 0, none⟩) xs :=
  (ORow.code (base := 0) (ORow.of_row h (Nat.zero_le _) (insV_len xs) (by unfold maxLen; omega))).2
theorem rowL {w : World} {os : List Obj} {i t : Nat} {cs : List Value} (h : i < os.length) (e : os[i] = .cells cs.toArray t) : RowAt t (w.heap.size + i) cs (allocsL w os) := by
  unfold RowAt
  rw [allocsL_get os w i h, e]
theorem intsL {w : World} {b : Nat} {xs : List Int} (h : RowAt 3 b (intsV xs) w) (hl : xs.length ≤ 1000) : ReadsI w (some ⟨b, 0, none⟩) xs := ints_reads (vs := []) (by simpa using h) (by omega)
/-- Functions that lie in a row. -/
theorem funcsL {w : World} {b : Nat} {p : List Fn} {As : List (Option Addr × Nat)} (hl : As.length = p.length) (h : RowAt 31 b (List.zipWith (fun f a => [.int .i64 f.args, .int .i64 f.locals, .slice a.1 f.code.length a.2]) p As).flatten w)
    (hc : ∀ k (h : k < p.length) (h' : k < As.length), ReadsC w As[k].1 p[k].code) (hn : p.length ≤ 1000) : ReadsF w (some ⟨b, 0, none⟩) p := by
  have hz : ∀ l ∈ List.zipWith (fun (f : Fn) (a : Option Addr × Nat) => [Value.int .i64 f.args, .int .i64 f.locals, .slice a.1 f.code.length a.2]) p As, l.length = 3 := fun l hl' => by
    obtain ⟨i, hi, rfl⟩ := List.mem_iff_getElem.1 hl'
    simp
  have hzl : (List.zipWith (fun (f : Fn) (a : Option Addr × Nat) => [Value.int .i64 f.args, .int .i64 f.locals, .slice a.1 f.code.length a.2]) p As).length = p.length := by simp [hl]
  have hfl := flat_len hz
  refine ⟨by omega, fun _ => ⟨_, rfl, fun k hk => ?_⟩⟩
  have hms : k * 3 + 3 ≤ p.length * 3 := by omega
  have cell : ∀ j (hj : j < 3), w.cell? ⟨b, k * 3 + j, none⟩ = some ([Value.int .i64 p[k].args, .int .i64 p[k].locals, .slice (As[k]'(by omega)).1 p[k].code.length (As[k]'(by omega)).2][j]) := fun j hj => by
    have hlt : k * 3 + j < (List.zipWith (fun (f : Fn) (a : Option Addr × Nat) => [Value.int .i64 f.args, .int .i64 f.locals, .slice a.1 f.code.length a.2]) p As).flatten.length := by omega
    rw [h.cell hlt, flat_get hz (i := k) (j := j) (by omega) (by simp; omega) hlt]
    simp
  have c0 := cell 0 (by decide)
  have c1 := cell 1 (by decide)
  have c2 := cell 2 (by decide)
  simp only [List.getElem_cons_zero, List.getElem_cons_succ, Nat.add_zero] at c0 c1 c2
  rw [Addr.add_lit, Nat.zero_add]
  exact ⟨c0, c1, _, _, c2, hc k hk (by omega)⟩
/-- A call that answers a program that it has laid. -/
def ProgL (p : List Fn) (n : Nat) (w : World) (e : Ending) (w' : World) : Prop := ∃ g, e = .returned (.agg #[.slice (some ⟨g, 0, none⟩) n n]) ∧ ReadsF w' (some ⟨g, 0, none⟩) p ∧ Below w.heap.size w w'
def twoA : List Ins := [⟨1, 0⟩, ⟨0, 2⟩, ⟨14, 1⟩, ⟨10, 0⟩, ⟨15, 0⟩, ⟨16, 0⟩]
def twoB : List Ins := [⟨1, 0⟩, ⟨1, 1⟩, ⟨3, 0⟩, ⟨16, 0⟩]
def twoP : List Fn := [⟨1, 1, twoA⟩, ⟨2, 2, twoB⟩]
def twoO (n : Nat) : List Obj := [.cells #[.slice (some ⟨n + 3, 0, none⟩) 2 2] 24, .cells (insV twoA).toArray 28, .cells (insV twoB).toArray 28,
  .cells #[.int .i64 1, .int .i64 1, .slice (some ⟨n + 1, 0, none⟩) 6 6, .int .i64 2, .int .i64 2, .slice (some ⟨n + 2, 0, none⟩) 4 4] 31]
theorem two_reads (w : World) : ReadsF (allocsL w (twoO w.heap.size)) (some ⟨w.heap.size + 3, 0, none⟩) twoP :=
  funcsL (As := [(some ⟨w.heap.size + 1, 0, none⟩, 6), (some ⟨w.heap.size + 2, 0, none⟩, 4)]) rfl (rowL (i := 3) (by simp [twoO]) rfl) (fun k hk _ => by
    match k, hk with
    | 0, _ => exact codeL (xs := twoA) (rowL (i := 1) (by simp [twoO]) rfl) (by simp [twoA])
    | 1, _ => exact codeL (xs := twoB) (rowL (i := 2) (by simp [twoO]) rfl) (by simp [twoB])) (by simp [twoP])
theorem small_reads (a l : Int) (A : Option Addr) (c : Nat) (code : List Ins) (w : World) (hr : ReadsC w A code) :
    ReadsF (allocsL w [.cells #[.slice (some ⟨w.heap.size + 1, 0, none⟩) 1 1] 24, .cells #[.int .i64 a, .int .i64 l, .slice A code.length c] 31]) (some ⟨w.heap.size + 1, 0, none⟩) [⟨a, l, code⟩] :=
  funcsL (As := [(A, c)]) rfl (rowL (i := 1) (by simp) rfl) (fun k hk _ => by
    obtain rfl : k = 0 := by simpa using hk
    exact hr.below (allocsL_below _ _)) (by simp)
theorem twoP_len : twoP.length = 2 := rfl
theorem len0 {α : Type} : ([] : List α).length = 0 := rfl
theorem len1 {α : Type} (a : α) : [a].length = 1 := rfl
theorem len2 {α : Type} (a b : α) : [a, b].length = 2 := rfl
theorem two_alloc (w : World) (A B : Obj) : ((w.alloc A).alloc B).heap[w.heap.size]? = some A ∧ ((w.alloc A).alloc B).heap[w.heap.size + 1]? = some B := by
  have h1 := allocsL_get [A, B] w 0 (by simp)
  have h2 := allocsL_get [A, B] w 1 (by simp)
  exact ⟨h1, h2⟩
/-- Whatever a region does to the world: old cells are as they were. -/
theorem below_drw {w w1 : World} (h : Below w.heap.size w w1) : Below w.heap.size w w1.drew := ⟨h.os, h.tape, h.output, h.size, h.block⟩
end Go.Proofs.YtpfgklkdldkajaaDoor

namespace Go.Proofs.YtpfgklkdldkajaaDoor
open Go.RowKit

def frC (f : Frm) (a b : Value) : List Value := [.int .i64 f.fn, .int .i64 f.pc, a, b]
theorem OwnFr.push {w w1 : World} {base N n : Nat} {v v' a b : Value} {fs : List Frm} {vss : List (List Value)} {f : Frm} (h : OwnFr w base v fs vss) (hn : fs.length = n)
    (hG : GrownC w base 149 4 v (n + 1) ((List.zipWith KFr.cells fs vss).flatten ++ frC f a b) v' w1) (ia : InnAt w base a (innI f.locals)) (ib : InnAt w base b (innI f.stack))
    (hold : ∀ u ∈ v :: vss.flatten, ∀ x, ob u = some x → x < N) (ha : ∀ x, ob a = some x → N ≤ x) (hb : ∀ x, ob b = some x → N ≤ x) (hab : ∀ x, ob a = some x → ob b ≠ some x) : OwnFr w1 base v' (fs ++ [f]) (vss ++ [[a, b]]) := by
  refine OwnG.grow (x := f) h (by rw [hn]; exact hG) rfl (fun j hj hj' => ?_) (fun j hj x hx hx2 => ?_) (fun j hj j' hj' hne x hx hx2 => ?_) (fun j hj x hx q hq p hp hx2 => ?_)
  · match j, hj with
    | 0, _ => exact ia
    | 1, _ => exact ib
  · have := hold v (by simp) x hx2
    match j, hj with
    | 0, _ => have := ha x hx; omega
    | 1, _ => have := hb x hx; omega
  · match j, hj, j', hj' with
    | 0, _, 0, _ => exact absurd rfl hne
    | 0, _, 1, _ => exact hab x hx hx2
    | 1, _, 0, _ => exact hab x hx2 hx
    | 1, _, 1, _ => exact absurd rfl hne
  · have := hold _ (List.mem_cons_of_mem _ (List.mem_flatten.2 ⟨_, List.getElem_mem hq, List.getElem_mem hp⟩)) x hx2
    match j, hj with
    | 0, _ => have := ha x hx; omega
    | 1, _ => have := hb x hx; omega
theorem frame_src {w : World} {g : Nat} {f : Frm} {A1 A2 : Option Addr} {n1 c1 n2 c2 : Nat} (h : RowAt 149 g (frC f (.slice A1 n1 c1) (.slice A2 n2 c2)) w) : Src Tryd.prog 4 72 (.slice (some ⟨g, 0, none⟩) 1 1) 1 (frC f (.slice A1 n1 c1) (.slice A2 n2 c2)) w :=
  Src.ofSlice _ Tryd.underlying72 _ 1 1 _ rfl (fun j u hu => by
    obtain ⟨hj, rfl⟩ := List.getElem?_eq_some_iff.1 hu
    rw [add_plain]
    exact h.cell (k := j) hj) (fun u hu => by
    simp [frC] at hu
    rcases hu with rfl | rfl | rfl | rfl <;> rfl)
theorem innI_new {w : World} {base g : Nat} {xs : List Int} {n : Nat} (h : RowAt 3 g (intsV xs) w) (hb : base ≤ g) (hn : xs.length = n) (hm : n ≤ 1000) : InnAt w base (.slice (some ⟨g, 0, none⟩) n n) (innI xs) := by
  subst hn
  exact crow_of (sz := 1) h hb (show (intsV xs).length = xs.length * 1 by rw [intsV_len, Nat.mul_one]) (by unfold maxLen; omega)
theorem innI_nil (w : World) (base : Nat) : InnAt w base (.slice none 0 0) (innI []) := CRow.nil _ _ _ _
theorem ob_new {g n : Nat} {x : Nat} (h : ob (.slice (some ⟨g, 0, none⟩) n n) = some x) : x = g := by have := ob_own h; cases this; rfl
end Go.Proofs.YtpfgklkdldkajaaDoor

namespace Go.Proofs.YtpfgklkdldkajaaDoor
open Go.RowKit

structure FAt (w : World) (base g off : Nat) (f : Frm) (v1 v2 : Value) : Prop where
  blk : ∃ t cur, w.heap[g]? = some (.cells cur t (0, 0)) ∧ cur[off]? = some (.int .i64 f.fn) ∧ cur[off + 1]? = some (.int .i64 f.pc) ∧ cur[off + 2]? = some v1 ∧ cur[off + 3]? = some v2
  lo : base ≤ g
  r1 : InnAt w base v1 (innI f.locals)
  r2 : InnAt w base v2 (innI f.stack)
  n1 : ob v1 ≠ some g
  n2 : ob v2 ≠ some g
  n12 : ∀ b, ob v1 = some b → ob v2 ≠ some b
/-- A block in which two cells of a frame alone may have turned. -/
def Blk4 (w w' : World) (g off : Nat) : Prop := ∀ t cur, w.heap[g]? = some (.cells cur t (0, 0)) → ∃ cur', w'.heap[g]? = some (.cells cur' t (0, 0)) ∧ cur'.size = cur.size ∧ ∀ j, j ≠ off + 1 → j ≠ off + 3 → cur'[j]? = cur[j]?
/-- What turns a frame at a place, and nothing else. -/
structure FTurn (w w' : World) (base g off : Nat) (f : Frm) (v1 v2 v2' : Value) : Prop where
  at_ : FAt w' base g off f v1 v2'
  chg : Chg (fun b => b = g ∨ ob v1 = some b ∨ ob v2 = some b) w w'
  blk : Blk4 w w' g off
  new : ∀ b, ob v2' = some b → ob v2 = some b ∨ w.heap.size ≤ b
section
variable {w w1 w2 : World} {base g off : Nat} {f f1 f2 : Frm} {v1 v2 va vb : Value}
theorem FAt.lt (h : FAt w base g off f v1 v2) : g < w.heap.size := by
  obtain ⟨t, cur, h0, _⟩ := h.blk; exact blk_lt h0
theorem FAt.cells (h : FAt w base g off f v1 v2) : w.cell? ⟨g, off, none⟩ = some (.int .i64 f.fn) ∧ w.cell? ⟨g, off + 1, none⟩ = some (.int .i64 f.pc) ∧ w.cell? ⟨g, off + 2, none⟩ = some v1 ∧ w.cell? ⟨g, off + 3, none⟩ = some v2 ∧ ∀ j, w.frozen? ⟨g, j, none⟩ = false := by
  obtain ⟨t, cur, h0, h1, h2, h3, h4⟩ := h.blk
  exact ⟨(blk_cell h0 _).trans h1, (blk_cell h0 _).trans h2, (blk_cell h0 _).trans h3, (blk_cell h0 _).trans h4, fun j => blk_free h0 j⟩
theorem FAt.shape (h : FAt w base g off f v1 v2) : ∃ A1 c1 A2 c2, v1 = .slice A1 f.locals.length c1 ∧ v2 = .slice A2 f.stack.length c2 := by
  obtain ⟨A1, c1, e1, _⟩ := CRow.shape h.r1
  obtain ⟨A2, c2, e2, _⟩ := CRow.shape h.r2
  exact ⟨A1, c1, A2, c2, e1, e2⟩
theorem FAt.lo1 (h : FAt w base g off f v1 v2) : ∀ b, ob v1 = some b → base ≤ b ∧ b < w.heap.size := CRow.in_ h.r1
theorem FAt.lo2 (h : FAt w base g off f v1 v2) : ∀ b, ob v2 = some b → base ≤ b ∧ b < w.heap.size := CRow.in_ h.r2
theorem FAt.chg {S : Nat → Prop} (h : FAt w base g off f v1 v2) (hk : Chg S w w1) (hg : ¬ S g) (h1 : ∀ b, ob v1 = some b → ¬ S b) (h2 : ∀ b, ob v2 = some b → ¬ S b) : FAt w1 base g off f v1 v2 := by
  obtain ⟨t, cur, h0, hc⟩ := h.blk
  exact ⟨⟨t, cur, (hk.block g (blk_lt h0) hg).trans h0, hc⟩, h.lo, CRow.chg h.r1 hk h1, CRow.chg h.r2 hk h2, h.n1, h.n2, h.n12⟩
theorem FAt.below (h : FAt w base g off f v1 v2) (hb : Below w.heap.size w w1) : FAt w1 base g off f v1 v2 := h.chg (S := fun _ => False) (Chg.of_below hb) (fun h => h) (fun _ _ h => h) (fun _ _ h => h)
theorem Blk4.of_chg {S : Nat → Prop} (hk : Chg S w w1) (hg : ¬ S g) : Blk4 w w1 g off := fun _ cur h => ⟨cur, (hk.block g (blk_lt h) hg).trans h, rfl, fun _ _ _ => rfl⟩
theorem Blk4.trans (h : Blk4 w w1 g off) (k : Blk4 w1 w2 g off) : Blk4 w w2 g off := fun t cur hc => by
  obtain ⟨c1, e1, e2, e3⟩ := h t cur hc
  obtain ⟨c2, g1, g2, g3⟩ := k t c1 e1
  exact ⟨c2, g1, g2.trans e2, fun j h1 h2 => (g3 j h1 h2).trans (e3 j h1 h2)⟩
theorem FTurn.trans (h : FTurn w w1 base g off f1 v1 v2 va) (k : FTurn w1 w2 base g off f2 v1 va vb) : FTurn w w2 base g off f2 v1 v2 vb :=
  ⟨k.at_, h.chg.trans k.chg (fun i hi hs => by
    rcases hs with e | e | e
    · exact .inl e
    · exact .inr (.inl e)
    · exact .inr (.inr ((h.new i e).resolve_right (by omega)))), h.blk.trans k.blk, fun b hb => by
    rcases k.new b hb with e | e
    · exact h.new b e
    · exact .inr (Nat.le_trans h.chg.size e)⟩
theorem FTurn.refl (h : FAt w base g off f v1 v2) : FTurn w w base g off f v1 v2 v2 := ⟨h, Chg.refl _ _, fun _ cur hc => ⟨cur, hc, rfl, fun _ _ _ => rfl⟩, fun _ h => .inl h⟩
theorem FTurn.of_below (h : FAt w base g off f v1 v2) (hb : Below w.heap.size w w1) : FTurn w w1 base g off f v1 v2 v2 :=
  ⟨h.below hb, Chg.of_below hb, Blk4.of_chg (S := fun _ => False) (Chg.of_below hb) (fun h => h), fun _ h => .inl h⟩
theorem FTurn.before (h : FAt w base g off f v1 v2) (hb : Below w.heap.size w w1) (k : FTurn w1 w2 base g off f1 v1 v2 va) : FTurn w w2 base g off f1 v1 v2 va := (FTurn.of_below h hb).trans k
theorem FTurn.after (h : FTurn w w1 base g off f v1 v2 va) (hb : Below w1.heap.size w1 w2) : FTurn w w2 base g off f v1 v2 va := h.trans (FTurn.of_below h.at_ hb)
/-- What is neither the frame's block nor its rows' stays. -/
theorem FTurn.row {t b : Nat} {cs : List Value} (h : FTurn w w1 base g off f1 v1 v2 va) (hr : RowAt t b cs w) (hg : b ≠ g) (h1 : ob v1 ≠ some b) (h2 : ob v2 ≠ some b) : RowAt t b cs w1 :=
  hr.chg h.chg (fun hs => by
    rcases hs with e | e | e
    · exact hg e
    · exact h1 e
    · exact h2 e)
theorem put_at {t : Nat} {cur : Array Value} (h : w.heap[g]? = some (.cells cur t (0, 0))) (i : Nat) (u : Value) : (w.setCell ⟨g, i, none⟩ u).heap[g]? = some (.cells (cur.setIfInBounds i u) t (0, 0)) := by
  simp [World.setCell, Array.getElem?_modify, h]
theorem get_put {cur : Array Value} {i j : Nat} {u : Value} (h : i ≠ j) : (cur.setIfInBounds i u)[j]? = cur[j]? := Array.getElem?_setIfInBounds_ne h
theorem get_put_self {cur : Array Value} {i : Nat} {u v : Value} (h : cur[i]? = some v) : (cur.setIfInBounds i u)[i]? = some u := Array.getElem?_setIfInBounds_self_of_lt (Array.getElem?_eq_some_iff.1 h).1
/-- Another row for its stack. -/
theorem FAt.put_stack (h : FAt w base g off f v1 v2) {u : Value} {st : List Int} (hc : Chg (fun b => ob v2 = some b) w w1) (hi : InnAt w1 base u (innI st)) (hn : ∀ b, ob u = some b → ob v2 = some b ∨ w.heap.size ≤ b) :
    FTurn w (w1.setCell ⟨g, off + 3, none⟩ u) base g off ⟨f.fn, f.pc, f.locals, st⟩ v1 v2 u := by
  obtain ⟨t, cur, h0, h1, h2, h3, h4⟩ := h.blk
  have hg := blk_lt h0
  have h0' := (hc.block g hg h.n2).trans h0
  have hp := put_at h0' (off + 3) u
  have hch : Chg (fun b => b = g) w1 (w1.setCell ⟨g, off + 3, none⟩ u) := Chg.put (S := fun b => b = g) (Chg.refl _ w1) (a := ⟨g, off + 3, none⟩) rfl u
  have hu : ob u ≠ some g := fun e => by
    rcases hn g e with e | e
    · exact h.n2 e
    · omega
  refine ⟨⟨⟨t, _, hp, by rw [get_put (by omega)]; exact h1, by rw [get_put (by omega)]; exact h2, by rw [get_put (by omega)]; exact h3, get_put_self h4⟩, h.lo, ?_, ?_, h.n1, hu, fun b e1 e2 => ?_⟩, ?_, ?_, hn⟩
  · exact CRow.chg (CRow.chg h.r1 hc (fun b e => h.n12 b e)) hch (fun b e e2 => h.n1 (e2 ▸ e))
  · exact CRow.chg hi hch (fun b e e2 => hu (e2 ▸ e))
  · rcases hn b e2 with e | e
    · exact h.n12 b e1 e
    · have := (h.lo1 b e1).2; omega
  · exact (hc.mono (fun b e => .inr (.inr e))).trans hch (fun i _ e => .inl e)
  · intro t' cur' hc'
    rw [h0] at hc'
    cases hc'
    exact ⟨_, hp, by simp, fun j _ h3 => get_put (Ne.symm h3)⟩
/-- Another pc. -/
theorem FAt.put_pc (h : FAt w base g off f v1 v2) (m : Int) : FTurn w (w.setCell ⟨g, off + 1, none⟩ (.int .i64 m)) base g off ⟨f.fn, m, f.locals, f.stack⟩ v1 v2 v2 := by
  obtain ⟨t, cur, h0, h1, h2, h3, h4⟩ := h.blk
  have hp := put_at h0 (off + 1) (.int .i64 m)
  have hch : Chg (fun b => b = g) w (w.setCell ⟨g, off + 1, none⟩ (.int .i64 m)) := Chg.put (S := fun b => b = g) (Chg.refl _ w) (a := ⟨g, off + 1, none⟩) rfl _
  refine ⟨⟨⟨t, _, hp, by rw [get_put (by omega)]; exact h1, get_put_self h2, by rw [get_put (by omega)]; exact h3, by rw [get_put (by omega)]; exact h4⟩, h.lo, ?_, ?_, h.n1, h.n2, h.n12⟩, hch.mono (fun _ e => .inl e), ?_, fun _ e => .inl e⟩
  · exact CRow.chg h.r1 hch (fun b e e2 => h.n1 (e2 ▸ e))
  · exact CRow.chg h.r2 hch (fun b e e2 => h.n2 (e2 ▸ e))
  · intro t' cur' hc'
    rw [h0] at hc'
    cases hc'
    exact ⟨_, hp, by simp, fun j h3 _ => get_put (Ne.symm h3)⟩
/-- A row of ints: one is written. -/
theorem ints_setF {n cap : Nat} {xs : List Int} (h : CRow w base 3 1 (.slice (some ⟨g, off, none⟩) n cap) n (intsV xs)) {j : Nat} (hj : j < xs.length) (m : Int) : CRow (w.setCell ⟨g, off + j, none⟩ (.int .i64 m)) base 3 1 (.slice (some ⟨g, off, none⟩) n cap) n (intsV (xs.set j m)) := by
  have hn : n = xs.length := by have := h.len; rw [intsV_len] at this; omega
  have hp := (h.own (by omega)).put j (.int .i64 m) (by rw [intsV_len]; exact hj)
  rw [show (intsV xs).set j (.int .i64 m) = intsV (xs.set j m) by simp [intsV, List.map_set]] at hp
  exact .inl hp
theorem ints_atF {n cap : Nat} {ao : Option Addr} {xs : List Int} (h : CRow w base 3 1 (.slice ao n cap) n (intsV xs)) {j : Nat} (hj : j < xs.length) :
    ∃ g off, ao = some ⟨g, off, none⟩ ∧ base ≤ g ∧ ob (.slice ao n cap) = some g ∧ w.cell? ⟨g, off + j, none⟩ = some (.int .i64 xs[j]) ∧ w.frozen? ⟨g, off + j, none⟩ = false := by
  have hn : n = xs.length := by have := h.len; rw [intsV_len] at this; omega
  have hcap := h.cap
  obtain ⟨g, off, rfl, h1, h2, hc⟩ := (h.own (by omega)).cell (k := j) (by rw [intsV_len]; exact hj)
  obtain ⟨c0, f0⟩ := hc j (by rw [intsV_len]; exact hj)
  exact ⟨g, off, rfl, h1, ob_some (by omega), by rw [c0]; simp [intsV], f0⟩
/-- A local is written. -/
theorem FAt.put_local {A : Addr} {c : Nat} (h : FAt w base g off f (.slice (some A) f.locals.length c) v2) {j : Nat} (hj : j < f.locals.length) (m : Int) :
    FTurn w (w.setCell ⟨A.block, A.off + j, none⟩ (.int .i64 m)) base g off ⟨f.fn, f.pc, f.locals.set j m, f.stack⟩ (.slice (some A) f.locals.length c) v2 v2 := by
  have hr : CRow w base 3 1 (.slice (some A) f.locals.length c) f.locals.length (intsV f.locals) := h.r1
  obtain ⟨g1, o1, eA, hlo, hob, _, _⟩ := ints_atF hr hj
  cases eA
  have hg1 : g ≠ g1 := fun e => h.n1 (e ▸ hob)
  obtain ⟨t, cur, h0, hcur⟩ := h.blk
  have hch : Chg (fun b => b = g1) w (w.setCell ⟨g1, o1 + j, none⟩ (.int .i64 m)) := Chg.put (S := fun b => b = g1) (Chg.refl _ w) (a := ⟨g1, o1 + j, none⟩) rfl _
  have hset := ints_setF hr hj m
  refine ⟨⟨⟨t, cur, (hch.block g (blk_lt h0) hg1).trans h0, hcur⟩, h.lo, ?_, ?_, h.n1, h.n2, h.n12⟩, hch.mono (fun b e => .inr (.inl (e ▸ hob))), Blk4.of_chg hch hg1, fun _ e => .inl e⟩
  · show CRow _ base 3 1 _ (f.locals.set j m).length _
    rw [List.length_set]; exact hset
  · exact CRow.chg h.r2 hch (fun b e e2 => h.n12 g1 hob (e2 ▸ e))
end
end Go.Proofs.YtpfgklkdldkajaaDoor

/- What the statements share: Num, programs of one and of two functions that they lay themselves. No condition. -/
import Derived.Test.YtpfgklkdldkajaaDoorCopyS
import Derived.Deep.RegionHeld3
namespace Go.Proofs.YtpfgklkdldkajaaDoor
open Go.RowKit

theorem numL_any (n : Int) (w : World) : Calls Tryd.prog 15 #[.int .i64 n] w fun e w' => e = .returned (.int .i64 n) ∧ w' = w := by
  go_enter Tryd.func15, Tryd.ntmps15
  go_wp2
  go_ret
  exact ⟨rfl, rfl⟩
def allocsL (w : World) : List Obj → World
  | [] => w
  | o :: os => allocsL (w.alloc o) os
theorem allocsL_below : ∀ (os : List Obj) (w : World), Below w.heap.size w (allocsL w os)
  | [], _ => Below.refl _ _
  | o :: os, _ => below_trans (below_alloc (Below.refl _ _) o) (allocsL_below os _)
theorem allocsL_get : ∀ (os : List Obj) (w : World) (i : Nat) (h : i < os.length), (allocsL w os).heap[w.heap.size + i]? = some os[i]
  | [], _, _, h => absurd h (by simp)
  | o :: os, w, 0, _ => by
    rw [allocsL, Nat.add_zero, (allocsL_below os (w.alloc o)).block _ (by simp)]
    exact blk_new w o
  | o :: os, w, i + 1, h => by
    have := allocsL_get os (w.alloc o) i (by simpa using h)
    rw [show (w.alloc o).heap.size = w.heap.size + 1 by simp] at this
    rw [allocsL, show w.heap.size + (i + 1) = w.heap.size + 1 + i by omega, this]
    simp
theorem codeL {w : World} {b : Nat} {xs : List Ins} (h : RowAt 28 b (insV xs) w) (hl : xs.length ≤ 1000) : ReadsC w (some ⟨b, 0, none⟩) xs :=
  (ORow.code (base := 0) (ORow.of_row h (Nat.zero_le _) (insV_len xs) (by unfold maxLen; omega))).2
theorem rowL {w : World} {os : List Obj} {i t : Nat} {cs : List Value} (h : i < os.length) (e : os[i] = .cells cs.toArray t) : RowAt t (w.heap.size + i) cs (allocsL w os) := by
  unfold RowAt
  rw [allocsL_get os w i h, e]
theorem intsL {w : World} {b : Nat} {xs : List Int} (h : RowAt 3 b (intsV xs) w) (hl : xs.length ≤ 1000) : ReadsI w (some ⟨b, 0, none⟩) xs := ints_reads (vs := []) (by simpa using h) (by omega)
/-- Functions that lie in a row. -/
theorem funcsL {w : World} {b : Nat} {p : List Fn} {As : List (Option Addr × Nat)} (hl : As.length = p.length) (h : RowAt 31 b (List.zipWith (fun f a => [.int .i64 f.args, .int .i64 f.locals, .slice a.1 f.code.length a.2]) p As).flatten w)
    (hc : ∀ k (h : k < p.length) (h' : k < As.length), ReadsC w As[k].1 p[k].code) (hn : p.length ≤ 1000) : ReadsF w (some ⟨b, 0, none⟩) p := by
  have hz : ∀ l ∈ List.zipWith (fun (f : Fn) (a : Option Addr × Nat) => [Value.int .i64 f.args, .int .i64 f.locals, .slice a.1 f.code.length a.2]) p As, l.length = 3 := fun l hl' => by
    obtain ⟨i, hi, rfl⟩ := List.mem_iff_getElem.1 hl'
    simp
  have hzl : (List.zipWith (fun (f : Fn) (a : Option Addr × Nat) => [Value.int .i64 f.args, .int .i64 f.locals, .slice a.1 f.code.length a.2]) p As).length = p.length := by simp [hl]
  have hfl := flat_len hz
  refine ⟨by omega, fun _ => ⟨_, rfl, fun k hk => ?_⟩⟩
  have hms : k * 3 + 3 ≤ p.length * 3 := by omega
  have cell : ∀ j (hj : j < 3), w.cell? ⟨b, k * 3 + j, none⟩ = some ([Value.int .i64 p[k].args, .int .i64 p[k].locals, .slice (As[k]'(by omega)).1 p[k].code.length (As[k]'(by omega)).2][j]) := fun j hj => by
    have hlt : k * 3 + j < (List.zipWith (fun (f : Fn) (a : Option Addr × Nat) => [Value.int .i64 f.args, .int .i64 f.locals, .slice a.1 f.code.length a.2]) p As).flatten.length := by omega
    rw [h.cell hlt, flat_get hz (i := k) (j := j) (by omega) (by simp; omega) hlt]
    simp
  have c0 := cell 0 (by decide)
  have c1 := cell 1 (by decide)
  have c2 := cell 2 (by decide)
  simp only [List.getElem_cons_zero, List.getElem_cons_succ, Nat.add_zero] at c0 c1 c2
  rw [Addr.add_lit, Nat.zero_add]
  exact ⟨c0, c1, _, _, c2, hc k hk (by omega)⟩
/-- A call that answers a program that it has laid. -/
def ProgL (p : List Fn) (n : Nat) (w : World) (e : Ending) (w' : World) : Prop := ∃ g, e = .returned (.agg #[.slice (some ⟨g, 0, none⟩) n n]) ∧ ReadsF w' (some ⟨g, 0, none⟩) p ∧ Below w.heap.size w w'
def twoA : List Ins := [⟨1, 0⟩, ⟨0, 2⟩, ⟨14, 1⟩, ⟨10, 0⟩, ⟨15, 0⟩, ⟨16, 0⟩]
def twoB : List Ins := [⟨1, 0⟩, ⟨1, 1⟩, ⟨3, 0⟩, ⟨16, 0⟩]
def twoP : List Fn := [⟨1, 1, twoA⟩, ⟨2, 2, twoB⟩]
def twoO (n : Nat) : List Obj := [.cells #[.slice (some ⟨n + 3, 0, none⟩) 2 2] 24, .cells (insV twoA).toArray 28, .cells (insV twoB).toArray 28,
  .cells #[.int .i64 1, .int .i64 1, .slice (some ⟨n + 1, 0, none⟩) 6 6, .int .i64 2, .int .i64 2, .slice (some ⟨n + 2, 0, none⟩) 4 4] 31]
theorem two_reads (w : World) : ReadsF (allocsL w (twoO w.heap.size)) (some ⟨w.heap.size + 3, 0, none⟩) twoP :=
  funcsL (As := [(some ⟨w.heap.size + 1, 0, none⟩, 6), (some ⟨w.heap.size + 2, 0, none⟩, 4)]) rfl (rowL (i := 3) (by simp [twoO]) rfl) (fun k hk _ => by
    match k, hk with
    | 0, _ => exact codeL (xs := twoA) (rowL (i := 1) (by simp [twoO]) rfl) (by simp [twoA])
    | 1, _ => exact codeL (xs := twoB) (rowL (i := 2) (by simp [twoO]) rfl) (by simp [twoB])) (by simp [twoP])
theorem small_reads (a l : Int) (A : Option Addr) (c : Nat) (code : List Ins) (w : World) (hr : ReadsC w A code) :
    ReadsF (allocsL w [.cells #[.slice (some ⟨w.heap.size + 1, 0, none⟩) 1 1] 24, .cells #[.int .i64 a, .int .i64 l, .slice A code.length c] 31]) (some ⟨w.heap.size + 1, 0, none⟩) [⟨a, l, code⟩] :=
  funcsL (As := [(A, c)]) rfl (rowL (i := 1) (by simp) rfl) (fun k hk _ => by
    obtain rfl : k = 0 := by simpa using hk
    exact hr.below (allocsL_below _ _)) (by simp)
theorem twoP_len : twoP.length = 2 := rfl
theorem len0 {α : Type} : ([] : List α).length = 0 := rfl
theorem len1 {α : Type} (a : α) : [a].length = 1 := rfl
theorem len2 {α : Type} (a b : α) : [a, b].length = 2 := rfl
theorem two_alloc (w : World) (A B : Obj) : ((w.alloc A).alloc B).heap[w.heap.size]? = some A ∧ ((w.alloc A).alloc B).heap[w.heap.size + 1]? = some B := by
  have h1 := allocsL_get [A, B] w 0 (by simp)
  have h2 := allocsL_get [A, B] w 1 (by simp)
  exact ⟨h1, h2⟩
/-- Whatever a region does to the world: old cells are as they were. -/
theorem below_drw {w w1 : World} (h : Below w.heap.size w w1) : Below w.heap.size w w1.drew := ⟨h.os, h.tape, h.output, h.size, h.block⟩
end Go.Proofs.YtpfgklkdldkajaaDoor

/- The law ProfFull, walked: a profile whose counts are as full as they may be stays as it is. Condition: errors.errorType is laid. -/
import Derived.Test.YtpfgklkdldkajaaDoorMPd
import Derived.Test.YtpfgklkdldkajaaDoorNums
import Derived.Test.YtpfgklkdldkajaaDoorMPa
namespace Go.Proofs.YtpfgklkdldkajaaDoor
open Go.RowKit

def fullC : List Ins := [⟨1, 0⟩, ⟨13, 0⟩, ⟨0, 1⟩, ⟨16, 0⟩]
def fullP : List Fn := [⟨1, 1, fullC⟩]
def fullS : List FPr := [⟨1073741824, [0, 1073741824, 0, 0], [0, 1073741824, 0, 0], [⟨1, 1073741824, 1073741824⟩]⟩]
theorem fullP_len : fullP.length = 1 := rfl
theorem fullS_len : fullS.length = 1 := rfl
theorem full_may : profB fullP fullS = true := by kernel_rfl
theorem full_fit : FitP fullS := ⟨by decide, fun f hf => by simp [fullS] at hf; subst hf; decide⟩
theorem full_call {m : Int} (h0 : 0 ≤ m) (h1 : m < 4) : calledR fullP fullS 0 [m] = fullS ∧ calledC fullP fullS 0 [m] = 0 := by
  obtain rfl | rfl | rfl | rfl : m = 0 ∨ m = 1 ∨ m = 2 ∨ m = 3 := by omega
  all_goals exact ⟨by kernel_rfl, by kernel_rfl⟩
theorem full_branch (j : Bool) : branchedR fullP fullS 0 1 j = fullS ∧ branchedC fullP fullS 0 1 = 0 := by
  cases j
  all_goals exact ⟨by kernel_rfl, by kernel_rfl⟩
theorem one_prof {W : World} {g : Nat} {f : FPr} {A1 A2 A3 : Option Addr} {c1 c2 c3 : Nat} (h : RowAt 50 g [.int .i64 f.calls, .slice A1 f.jumps.length c1, .slice A2 f.falls.length c2, .slice A3 f.args.length c3] W)
    (h1 : ReadsI W A1 f.jumps) (h2 : ReadsI W A2 f.falls) (h3 : ReadsA W A3 f.args) : ReadsP W (some ⟨g, 0, none⟩) [f] := by
  have c := fun k (hk : k < 4) => h.cell (k := k) hk
  refine ⟨by simp, fun _ => ⟨_, rfl, fun k hk => ?_⟩⟩
  obtain rfl : k = 0 := by simpa using hk
  exact ⟨c 0 (by decide), ⟨_, _, c 1 (by decide), h1⟩, ⟨_, _, c 2 (by decide), h2⟩, _, _, c 3 (by decide), h3⟩
theorem one_arg {W : World} {g : Nat} {x : ArgP} (h : RowAt 52 g [.int .i64 x.value, .int .i64 x.same, .int .i64 x.other] W) : ReadsA W (some ⟨g, 0, none⟩) [x] := by
  have c := fun k (hk : k < 3) => h.cell (k := k) hk
  refine ⟨by simp, fun _ => ⟨_, rfl, fun k hk => ?_⟩⟩
  obtain rfl : k = 0 := by simpa using hk
  exact ⟨c 0 (by decide), c 1 (by decide), c 2 (by decide)⟩
theorem one_fn {W : World} {g : Nat} {f : Fn} {A : Option Addr} {c : Nat} (h : RowAt 31 g [.int .i64 f.args, .int .i64 f.locals, .slice A f.code.length c] W) (hr : ReadsC W A f.code) : ReadsF W (some ⟨g, 0, none⟩) [f] := by
  have c := fun k (hk : k < 3) => h.cell (k := k) hk
  refine ⟨by simp, fun _ => ⟨_, rfl, fun k hk => ?_⟩⟩
  obtain rfl : k = 0 := by simpa using hk
  exact ⟨c 0 (by decide), c 1 (by decide), _, _, c 2 (by decide), hr⟩
theorem calledP_m (p : List Fn) (np : Nat) (s : List FPr) (ns : Nat) (fn : Int) (args : List Int) (na : Nat) (Ap Ar A : Option Addr) (cp cr c : Nat) (w : World) (hl : Laid w) (hp : ReadsF w Ap p) (ho : ReadsP w Ar s) (ha : ReadsI w A args) (hz : FitP s) {r : List FPr} {code : Int} {n : Nat}
    (e : p.length = np) (es : s.length = ns) (ea : args.length = na) (hr : calledR p s fn args = r) (hc : calledC p s fn args = code) (hn : r.length = n) :
    Calls Tryd.prog 20 #[.agg #[.slice Ap np cp], .agg #[.slice Ar ns cr], .int .i64 fn, .slice A na c] w (ProfN r n code w) := by
  subst e es ea; exact (calledP_any p s Ap Ar A cp cr c fn args w hl hp ho ha hz).mono (profN hr hc hn)
theorem branchedP_m (p : List Fn) (np : Nat) (s : List FPr) (ns : Nat) (fn pc : Int) (jumps : Bool) (Ap Ar : Option Addr) (cp cr : Nat) (w : World) (hl : Laid w) (hp : ReadsF w Ap p) (ho : ReadsP w Ar s) (hz : FitP s) {r : List FPr} {code : Int} {n : Nat}
    (e : p.length = np) (es : s.length = ns) (hr : branchedR p s fn pc jumps = r) (hc : branchedC p s fn pc = code) (hn : r.length = n) :
    Calls Tryd.prog 22 #[.agg #[.slice Ap np cp], .agg #[.slice Ar ns cr], .int .i64 fn, .int .i64 pc, .bool jumps] w (ProfN r n code w) := by
  subst e es; exact (branchedP_any p s Ap Ar cp cr fn pc jumps w hl hp ho hz).mono (profN hr hc hn)
theorem samePr_n (p q : List FPr) (n m : Nat) (A B : Option Addr) (ca cb : Nat) (w : World) (hx : ReadsP w A p) (hy : ReadsP w B q) {b : Bool} (e : p.length = n) (e' : q.length = m) (hb : decide (p = q) = b) :
    Calls Tryd.prog 24 #[.agg #[.slice A n ca], .agg #[.slice B m cb]] w (Ret (.bool b) w) := by
  subst e e' hb; exact sameProf_any A B ca cb p q w hx hy
set_option maxRecDepth 100000 in
set_option maxHeartbeats 16000000 in
theorem profFull_yes (x : Int) (j : Bool) (W : World) (hl : Laid W) : Calls Tryd.prog 6 #[.int .i64 x, .bool j] W (Ret (.bool true) W) := by
  have H := Lib.hid (awake9_any W hl)
  have HL := Lib.hid hl
  have B := Lib.hid (Below.refl W.heap.size W)
  obtain ⟨m, hm, m0, m1⟩ : ∃ m : Int, bits .and .i64 x 3 = m ∧ 0 ≤ m ∧ m < 4 := ⟨x % 4, i64_m3 _, by omega, by omega⟩
  clear hl
  go_enter Tryd.func6, Tryd.ntmps6
  go_wp2_with fail
  (with_reducible refine H.out.mono ?_)
  rintro e w1 ⟨rfl, hB⟩
  clear H
  replace HL := Lib.hid (HL.out.below hB)
  replace B := Lib.hid (below_trans B.out hB)
  clear hB
  have hb : Below w1.heap.size w1 ((((((((w1.alloc (.cells #[.int .i64 1, .int .i64 0, .int .i64 13, .int .i64 0, .int .i64 0, .int .i64 1, .int .i64 16, .int .i64 0] 28)).alloc (.cells #[.int .i64 1, .int .i64 1, .slice (some ⟨w1.heap.size, 0, none⟩) 4 4] 31)).alloc (.cells #[.slice (some ⟨w1.heap.size + 1, 0, none⟩) 1 1] 24)).alloc (.cells #[.int .i64 0, .int .i64 1073741824, .int .i64 0, .int .i64 0] 3)).alloc (.cells #[.int .i64 0, .int .i64 1073741824, .int .i64 0, .int .i64 0] 3)).alloc (.cells #[.int .i64 1, .int .i64 1073741824, .int .i64 1073741824] 52)).alloc (.cells #[.int .i64 1073741824, .slice (some ⟨w1.heap.size + 1 + 1 + 1, 0, none⟩) 4 4, .slice (some ⟨w1.heap.size + 1 + 1 + 1 + 1, 0, none⟩) 4 4, .slice (some ⟨w1.heap.size + 1 + 1 + 1 + 1 + 1, 0, none⟩) 1 1] 50)).alloc (.cells #[.slice (some ⟨w1.heap.size + 1 + 1 + 1 + 1 + 1 + 1, 0, none⟩) 1 1] 44)) := allocsL_below [.cells #[.int .i64 1, .int .i64 0, .int .i64 13, .int .i64 0, .int .i64 0, .int .i64 1, .int .i64 16, .int .i64 0] 28, .cells #[.int .i64 1, .int .i64 1, .slice (some ⟨w1.heap.size, 0, none⟩) 4 4] 31, .cells #[.slice (some ⟨w1.heap.size + 1, 0, none⟩) 1 1] 24, .cells #[.int .i64 0, .int .i64 1073741824, .int .i64 0, .int .i64 0] 3, .cells #[.int .i64 0, .int .i64 1073741824, .int .i64 0, .int .i64 0] 3, .cells #[.int .i64 1, .int .i64 1073741824, .int .i64 1073741824] 52, .cells #[.int .i64 1073741824, .slice (some ⟨w1.heap.size + 1 + 1 + 1, 0, none⟩) 4 4, .slice (some ⟨w1.heap.size + 1 + 1 + 1 + 1, 0, none⟩) 4 4, .slice (some ⟨w1.heap.size + 1 + 1 + 1 + 1 + 1, 0, none⟩) 1 1] 50, .cells #[.slice (some ⟨w1.heap.size + 1 + 1 + 1 + 1 + 1 + 1, 0, none⟩) 1 1] 44] w1
  replace HL := Lib.hid (HL.out.below hb)
  replace B := Lib.hid (below_trans B.out hb)
  have C := Lib.hid (show RowAt 28 (w1.heap.size) [.int .i64 1, .int .i64 0, .int .i64 13, .int .i64 0, .int .i64 0, .int .i64 1, .int .i64 16, .int .i64 0] ((((((((w1.alloc (.cells #[.int .i64 1, .int .i64 0, .int .i64 13, .int .i64 0, .int .i64 0, .int .i64 1, .int .i64 16, .int .i64 0] 28)).alloc (.cells #[.int .i64 1, .int .i64 1, .slice (some ⟨w1.heap.size, 0, none⟩) 4 4] 31)).alloc (.cells #[.slice (some ⟨w1.heap.size + 1, 0, none⟩) 1 1] 24)).alloc (.cells #[.int .i64 0, .int .i64 1073741824, .int .i64 0, .int .i64 0] 3)).alloc (.cells #[.int .i64 0, .int .i64 1073741824, .int .i64 0, .int .i64 0] 3)).alloc (.cells #[.int .i64 1, .int .i64 1073741824, .int .i64 1073741824] 52)).alloc (.cells #[.int .i64 1073741824, .slice (some ⟨w1.heap.size + 1 + 1 + 1, 0, none⟩) 4 4, .slice (some ⟨w1.heap.size + 1 + 1 + 1 + 1, 0, none⟩) 4 4, .slice (some ⟨w1.heap.size + 1 + 1 + 1 + 1 + 1, 0, none⟩) 1 1] 50)).alloc (.cells #[.slice (some ⟨w1.heap.size + 1 + 1 + 1 + 1 + 1 + 1, 0, none⟩) 1 1] 44)) from rowL (w := w1) (os := [.cells #[.int .i64 1, .int .i64 0, .int .i64 13, .int .i64 0, .int .i64 0, .int .i64 1, .int .i64 16, .int .i64 0] 28, .cells #[.int .i64 1, .int .i64 1, .slice (some ⟨w1.heap.size, 0, none⟩) 4 4] 31, .cells #[.slice (some ⟨w1.heap.size + 1, 0, none⟩) 1 1] 24, .cells #[.int .i64 0, .int .i64 1073741824, .int .i64 0, .int .i64 0] 3, .cells #[.int .i64 0, .int .i64 1073741824, .int .i64 0, .int .i64 0] 3, .cells #[.int .i64 1, .int .i64 1073741824, .int .i64 1073741824] 52, .cells #[.int .i64 1073741824, .slice (some ⟨w1.heap.size + 1 + 1 + 1, 0, none⟩) 4 4, .slice (some ⟨w1.heap.size + 1 + 1 + 1 + 1, 0, none⟩) 4 4, .slice (some ⟨w1.heap.size + 1 + 1 + 1 + 1 + 1, 0, none⟩) 1 1] 50, .cells #[.slice (some ⟨w1.heap.size + 1 + 1 + 1 + 1 + 1 + 1, 0, none⟩) 1 1] 44]) (i := 0) (cs := [.int .i64 1, .int .i64 0, .int .i64 13, .int .i64 0, .int .i64 0, .int .i64 1, .int .i64 16, .int .i64 0]) (by simp) rfl)
  have F := Lib.hid (show RowAt 31 (w1.heap.size + 1) [.int .i64 1, .int .i64 1, .slice (some ⟨w1.heap.size, 0, none⟩) 4 4] ((((((((w1.alloc (.cells #[.int .i64 1, .int .i64 0, .int .i64 13, .int .i64 0, .int .i64 0, .int .i64 1, .int .i64 16, .int .i64 0] 28)).alloc (.cells #[.int .i64 1, .int .i64 1, .slice (some ⟨w1.heap.size, 0, none⟩) 4 4] 31)).alloc (.cells #[.slice (some ⟨w1.heap.size + 1, 0, none⟩) 1 1] 24)).alloc (.cells #[.int .i64 0, .int .i64 1073741824, .int .i64 0, .int .i64 0] 3)).alloc (.cells #[.int .i64 0, .int .i64 1073741824, .int .i64 0, .int .i64 0] 3)).alloc (.cells #[.int .i64 1, .int .i64 1073741824, .int .i64 1073741824] 52)).alloc (.cells #[.int .i64 1073741824, .slice (some ⟨w1.heap.size + 1 + 1 + 1, 0, none⟩) 4 4, .slice (some ⟨w1.heap.size + 1 + 1 + 1 + 1, 0, none⟩) 4 4, .slice (some ⟨w1.heap.size + 1 + 1 + 1 + 1 + 1, 0, none⟩) 1 1] 50)).alloc (.cells #[.slice (some ⟨w1.heap.size + 1 + 1 + 1 + 1 + 1 + 1, 0, none⟩) 1 1] 44)) from rowL (w := w1) (os := [.cells #[.int .i64 1, .int .i64 0, .int .i64 13, .int .i64 0, .int .i64 0, .int .i64 1, .int .i64 16, .int .i64 0] 28, .cells #[.int .i64 1, .int .i64 1, .slice (some ⟨w1.heap.size, 0, none⟩) 4 4] 31, .cells #[.slice (some ⟨w1.heap.size + 1, 0, none⟩) 1 1] 24, .cells #[.int .i64 0, .int .i64 1073741824, .int .i64 0, .int .i64 0] 3, .cells #[.int .i64 0, .int .i64 1073741824, .int .i64 0, .int .i64 0] 3, .cells #[.int .i64 1, .int .i64 1073741824, .int .i64 1073741824] 52, .cells #[.int .i64 1073741824, .slice (some ⟨w1.heap.size + 1 + 1 + 1, 0, none⟩) 4 4, .slice (some ⟨w1.heap.size + 1 + 1 + 1 + 1, 0, none⟩) 4 4, .slice (some ⟨w1.heap.size + 1 + 1 + 1 + 1 + 1, 0, none⟩) 1 1] 50, .cells #[.slice (some ⟨w1.heap.size + 1 + 1 + 1 + 1 + 1 + 1, 0, none⟩) 1 1] 44]) (i := 1) (cs := [.int .i64 1, .int .i64 1, .slice (some ⟨w1.heap.size, 0, none⟩) 4 4]) (by simp) rfl)
  have P := Lib.hid (show RowAt 24 (w1.heap.size + 1 + 1) [.slice (some ⟨w1.heap.size + 1, 0, none⟩) 1 1] ((((((((w1.alloc (.cells #[.int .i64 1, .int .i64 0, .int .i64 13, .int .i64 0, .int .i64 0, .int .i64 1, .int .i64 16, .int .i64 0] 28)).alloc (.cells #[.int .i64 1, .int .i64 1, .slice (some ⟨w1.heap.size, 0, none⟩) 4 4] 31)).alloc (.cells #[.slice (some ⟨w1.heap.size + 1, 0, none⟩) 1 1] 24)).alloc (.cells #[.int .i64 0, .int .i64 1073741824, .int .i64 0, .int .i64 0] 3)).alloc (.cells #[.int .i64 0, .int .i64 1073741824, .int .i64 0, .int .i64 0] 3)).alloc (.cells #[.int .i64 1, .int .i64 1073741824, .int .i64 1073741824] 52)).alloc (.cells #[.int .i64 1073741824, .slice (some ⟨w1.heap.size + 1 + 1 + 1, 0, none⟩) 4 4, .slice (some ⟨w1.heap.size + 1 + 1 + 1 + 1, 0, none⟩) 4 4, .slice (some ⟨w1.heap.size + 1 + 1 + 1 + 1 + 1, 0, none⟩) 1 1] 50)).alloc (.cells #[.slice (some ⟨w1.heap.size + 1 + 1 + 1 + 1 + 1 + 1, 0, none⟩) 1 1] 44)) from rowL (w := w1) (os := [.cells #[.int .i64 1, .int .i64 0, .int .i64 13, .int .i64 0, .int .i64 0, .int .i64 1, .int .i64 16, .int .i64 0] 28, .cells #[.int .i64 1, .int .i64 1, .slice (some ⟨w1.heap.size, 0, none⟩) 4 4] 31, .cells #[.slice (some ⟨w1.heap.size + 1, 0, none⟩) 1 1] 24, .cells #[.int .i64 0, .int .i64 1073741824, .int .i64 0, .int .i64 0] 3, .cells #[.int .i64 0, .int .i64 1073741824, .int .i64 0, .int .i64 0] 3, .cells #[.int .i64 1, .int .i64 1073741824, .int .i64 1073741824] 52, .cells #[.int .i64 1073741824, .slice (some ⟨w1.heap.size + 1 + 1 + 1, 0, none⟩) 4 4, .slice (some ⟨w1.heap.size + 1 + 1 + 1 + 1, 0, none⟩) 4 4, .slice (some ⟨w1.heap.size + 1 + 1 + 1 + 1 + 1, 0, none⟩) 1 1] 50, .cells #[.slice (some ⟨w1.heap.size + 1 + 1 + 1 + 1 + 1 + 1, 0, none⟩) 1 1] 44]) (i := 2) (cs := [.slice (some ⟨w1.heap.size + 1, 0, none⟩) 1 1]) (by simp) rfl)
  have I1 := Lib.hid (show RowAt 3 (w1.heap.size + 1 + 1 + 1) [.int .i64 0, .int .i64 1073741824, .int .i64 0, .int .i64 0] ((((((((w1.alloc (.cells #[.int .i64 1, .int .i64 0, .int .i64 13, .int .i64 0, .int .i64 0, .int .i64 1, .int .i64 16, .int .i64 0] 28)).alloc (.cells #[.int .i64 1, .int .i64 1, .slice (some ⟨w1.heap.size, 0, none⟩) 4 4] 31)).alloc (.cells #[.slice (some ⟨w1.heap.size + 1, 0, none⟩) 1 1] 24)).alloc (.cells #[.int .i64 0, .int .i64 1073741824, .int .i64 0, .int .i64 0] 3)).alloc (.cells #[.int .i64 0, .int .i64 1073741824, .int .i64 0, .int .i64 0] 3)).alloc (.cells #[.int .i64 1, .int .i64 1073741824, .int .i64 1073741824] 52)).alloc (.cells #[.int .i64 1073741824, .slice (some ⟨w1.heap.size + 1 + 1 + 1, 0, none⟩) 4 4, .slice (some ⟨w1.heap.size + 1 + 1 + 1 + 1, 0, none⟩) 4 4, .slice (some ⟨w1.heap.size + 1 + 1 + 1 + 1 + 1, 0, none⟩) 1 1] 50)).alloc (.cells #[.slice (some ⟨w1.heap.size + 1 + 1 + 1 + 1 + 1 + 1, 0, none⟩) 1 1] 44)) from rowL (w := w1) (os := [.cells #[.int .i64 1, .int .i64 0, .int .i64 13, .int .i64 0, .int .i64 0, .int .i64 1, .int .i64 16, .int .i64 0] 28, .cells #[.int .i64 1, .int .i64 1, .slice (some ⟨w1.heap.size, 0, none⟩) 4 4] 31, .cells #[.slice (some ⟨w1.heap.size + 1, 0, none⟩) 1 1] 24, .cells #[.int .i64 0, .int .i64 1073741824, .int .i64 0, .int .i64 0] 3, .cells #[.int .i64 0, .int .i64 1073741824, .int .i64 0, .int .i64 0] 3, .cells #[.int .i64 1, .int .i64 1073741824, .int .i64 1073741824] 52, .cells #[.int .i64 1073741824, .slice (some ⟨w1.heap.size + 1 + 1 + 1, 0, none⟩) 4 4, .slice (some ⟨w1.heap.size + 1 + 1 + 1 + 1, 0, none⟩) 4 4, .slice (some ⟨w1.heap.size + 1 + 1 + 1 + 1 + 1, 0, none⟩) 1 1] 50, .cells #[.slice (some ⟨w1.heap.size + 1 + 1 + 1 + 1 + 1 + 1, 0, none⟩) 1 1] 44]) (i := 3) (cs := [.int .i64 0, .int .i64 1073741824, .int .i64 0, .int .i64 0]) (by simp) rfl)
  have I2 := Lib.hid (show RowAt 3 (w1.heap.size + 1 + 1 + 1 + 1) [.int .i64 0, .int .i64 1073741824, .int .i64 0, .int .i64 0] ((((((((w1.alloc (.cells #[.int .i64 1, .int .i64 0, .int .i64 13, .int .i64 0, .int .i64 0, .int .i64 1, .int .i64 16, .int .i64 0] 28)).alloc (.cells #[.int .i64 1, .int .i64 1, .slice (some ⟨w1.heap.size, 0, none⟩) 4 4] 31)).alloc (.cells #[.slice (some ⟨w1.heap.size + 1, 0, none⟩) 1 1] 24)).alloc (.cells #[.int .i64 0, .int .i64 1073741824, .int .i64 0, .int .i64 0] 3)).alloc (.cells #[.int .i64 0, .int .i64 1073741824, .int .i64 0, .int .i64 0] 3)).alloc (.cells #[.int .i64 1, .int .i64 1073741824, .int .i64 1073741824] 52)).alloc (.cells #[.int .i64 1073741824, .slice (some ⟨w1.heap.size + 1 + 1 + 1, 0, none⟩) 4 4, .slice (some ⟨w1.heap.size + 1 + 1 + 1 + 1, 0, none⟩) 4 4, .slice (some ⟨w1.heap.size + 1 + 1 + 1 + 1 + 1, 0, none⟩) 1 1] 50)).alloc (.cells #[.slice (some ⟨w1.heap.size + 1 + 1 + 1 + 1 + 1 + 1, 0, none⟩) 1 1] 44)) from rowL (w := w1) (os := [.cells #[.int .i64 1, .int .i64 0, .int .i64 13, .int .i64 0, .int .i64 0, .int .i64 1, .int .i64 16, .int .i64 0] 28, .cells #[.int .i64 1, .int .i64 1, .slice (some ⟨w1.heap.size, 0, none⟩) 4 4] 31, .cells #[.slice (some ⟨w1.heap.size + 1, 0, none⟩) 1 1] 24, .cells #[.int .i64 0, .int .i64 1073741824, .int .i64 0, .int .i64 0] 3, .cells #[.int .i64 0, .int .i64 1073741824, .int .i64 0, .int .i64 0] 3, .cells #[.int .i64 1, .int .i64 1073741824, .int .i64 1073741824] 52, .cells #[.int .i64 1073741824, .slice (some ⟨w1.heap.size + 1 + 1 + 1, 0, none⟩) 4 4, .slice (some ⟨w1.heap.size + 1 + 1 + 1 + 1, 0, none⟩) 4 4, .slice (some ⟨w1.heap.size + 1 + 1 + 1 + 1 + 1, 0, none⟩) 1 1] 50, .cells #[.slice (some ⟨w1.heap.size + 1 + 1 + 1 + 1 + 1 + 1, 0, none⟩) 1 1] 44]) (i := 4) (cs := [.int .i64 0, .int .i64 1073741824, .int .i64 0, .int .i64 0]) (by simp) rfl)
  have A := Lib.hid (show RowAt 52 (w1.heap.size + 1 + 1 + 1 + 1 + 1) [.int .i64 1, .int .i64 1073741824, .int .i64 1073741824] ((((((((w1.alloc (.cells #[.int .i64 1, .int .i64 0, .int .i64 13, .int .i64 0, .int .i64 0, .int .i64 1, .int .i64 16, .int .i64 0] 28)).alloc (.cells #[.int .i64 1, .int .i64 1, .slice (some ⟨w1.heap.size, 0, none⟩) 4 4] 31)).alloc (.cells #[.slice (some ⟨w1.heap.size + 1, 0, none⟩) 1 1] 24)).alloc (.cells #[.int .i64 0, .int .i64 1073741824, .int .i64 0, .int .i64 0] 3)).alloc (.cells #[.int .i64 0, .int .i64 1073741824, .int .i64 0, .int .i64 0] 3)).alloc (.cells #[.int .i64 1, .int .i64 1073741824, .int .i64 1073741824] 52)).alloc (.cells #[.int .i64 1073741824, .slice (some ⟨w1.heap.size + 1 + 1 + 1, 0, none⟩) 4 4, .slice (some ⟨w1.heap.size + 1 + 1 + 1 + 1, 0, none⟩) 4 4, .slice (some ⟨w1.heap.size + 1 + 1 + 1 + 1 + 1, 0, none⟩) 1 1] 50)).alloc (.cells #[.slice (some ⟨w1.heap.size + 1 + 1 + 1 + 1 + 1 + 1, 0, none⟩) 1 1] 44)) from rowL (w := w1) (os := [.cells #[.int .i64 1, .int .i64 0, .int .i64 13, .int .i64 0, .int .i64 0, .int .i64 1, .int .i64 16, .int .i64 0] 28, .cells #[.int .i64 1, .int .i64 1, .slice (some ⟨w1.heap.size, 0, none⟩) 4 4] 31, .cells #[.slice (some ⟨w1.heap.size + 1, 0, none⟩) 1 1] 24, .cells #[.int .i64 0, .int .i64 1073741824, .int .i64 0, .int .i64 0] 3, .cells #[.int .i64 0, .int .i64 1073741824, .int .i64 0, .int .i64 0] 3, .cells #[.int .i64 1, .int .i64 1073741824, .int .i64 1073741824] 52, .cells #[.int .i64 1073741824, .slice (some ⟨w1.heap.size + 1 + 1 + 1, 0, none⟩) 4 4, .slice (some ⟨w1.heap.size + 1 + 1 + 1 + 1, 0, none⟩) 4 4, .slice (some ⟨w1.heap.size + 1 + 1 + 1 + 1 + 1, 0, none⟩) 1 1] 50, .cells #[.slice (some ⟨w1.heap.size + 1 + 1 + 1 + 1 + 1 + 1, 0, none⟩) 1 1] 44]) (i := 5) (cs := [.int .i64 1, .int .i64 1073741824, .int .i64 1073741824]) (by simp) rfl)
  have G := Lib.hid (show RowAt 50 (w1.heap.size + 1 + 1 + 1 + 1 + 1 + 1) [.int .i64 1073741824, .slice (some ⟨w1.heap.size + 1 + 1 + 1, 0, none⟩) 4 4, .slice (some ⟨w1.heap.size + 1 + 1 + 1 + 1, 0, none⟩) 4 4, .slice (some ⟨w1.heap.size + 1 + 1 + 1 + 1 + 1, 0, none⟩) 1 1] ((((((((w1.alloc (.cells #[.int .i64 1, .int .i64 0, .int .i64 13, .int .i64 0, .int .i64 0, .int .i64 1, .int .i64 16, .int .i64 0] 28)).alloc (.cells #[.int .i64 1, .int .i64 1, .slice (some ⟨w1.heap.size, 0, none⟩) 4 4] 31)).alloc (.cells #[.slice (some ⟨w1.heap.size + 1, 0, none⟩) 1 1] 24)).alloc (.cells #[.int .i64 0, .int .i64 1073741824, .int .i64 0, .int .i64 0] 3)).alloc (.cells #[.int .i64 0, .int .i64 1073741824, .int .i64 0, .int .i64 0] 3)).alloc (.cells #[.int .i64 1, .int .i64 1073741824, .int .i64 1073741824] 52)).alloc (.cells #[.int .i64 1073741824, .slice (some ⟨w1.heap.size + 1 + 1 + 1, 0, none⟩) 4 4, .slice (some ⟨w1.heap.size + 1 + 1 + 1 + 1, 0, none⟩) 4 4, .slice (some ⟨w1.heap.size + 1 + 1 + 1 + 1 + 1, 0, none⟩) 1 1] 50)).alloc (.cells #[.slice (some ⟨w1.heap.size + 1 + 1 + 1 + 1 + 1 + 1, 0, none⟩) 1 1] 44)) from rowL (w := w1) (os := [.cells #[.int .i64 1, .int .i64 0, .int .i64 13, .int .i64 0, .int .i64 0, .int .i64 1, .int .i64 16, .int .i64 0] 28, .cells #[.int .i64 1, .int .i64 1, .slice (some ⟨w1.heap.size, 0, none⟩) 4 4] 31, .cells #[.slice (some ⟨w1.heap.size + 1, 0, none⟩) 1 1] 24, .cells #[.int .i64 0, .int .i64 1073741824, .int .i64 0, .int .i64 0] 3, .cells #[.int .i64 0, .int .i64 1073741824, .int .i64 0, .int .i64 0] 3, .cells #[.int .i64 1, .int .i64 1073741824, .int .i64 1073741824] 52, .cells #[.int .i64 1073741824, .slice (some ⟨w1.heap.size + 1 + 1 + 1, 0, none⟩) 4 4, .slice (some ⟨w1.heap.size + 1 + 1 + 1 + 1, 0, none⟩) 4 4, .slice (some ⟨w1.heap.size + 1 + 1 + 1 + 1 + 1, 0, none⟩) 1 1] 50, .cells #[.slice (some ⟨w1.heap.size + 1 + 1 + 1 + 1 + 1 + 1, 0, none⟩) 1 1] 44]) (i := 6) (cs := [.int .i64 1073741824, .slice (some ⟨w1.heap.size + 1 + 1 + 1, 0, none⟩) 4 4, .slice (some ⟨w1.heap.size + 1 + 1 + 1 + 1, 0, none⟩) 4 4, .slice (some ⟨w1.heap.size + 1 + 1 + 1 + 1 + 1, 0, none⟩) 1 1]) (by simp) rfl)
  have Q := Lib.hid (show RowAt 44 (w1.heap.size + 1 + 1 + 1 + 1 + 1 + 1 + 1) [.slice (some ⟨w1.heap.size + 1 + 1 + 1 + 1 + 1 + 1, 0, none⟩) 1 1] ((((((((w1.alloc (.cells #[.int .i64 1, .int .i64 0, .int .i64 13, .int .i64 0, .int .i64 0, .int .i64 1, .int .i64 16, .int .i64 0] 28)).alloc (.cells #[.int .i64 1, .int .i64 1, .slice (some ⟨w1.heap.size, 0, none⟩) 4 4] 31)).alloc (.cells #[.slice (some ⟨w1.heap.size + 1, 0, none⟩) 1 1] 24)).alloc (.cells #[.int .i64 0, .int .i64 1073741824, .int .i64 0, .int .i64 0] 3)).alloc (.cells #[.int .i64 0, .int .i64 1073741824, .int .i64 0, .int .i64 0] 3)).alloc (.cells #[.int .i64 1, .int .i64 1073741824, .int .i64 1073741824] 52)).alloc (.cells #[.int .i64 1073741824, .slice (some ⟨w1.heap.size + 1 + 1 + 1, 0, none⟩) 4 4, .slice (some ⟨w1.heap.size + 1 + 1 + 1 + 1, 0, none⟩) 4 4, .slice (some ⟨w1.heap.size + 1 + 1 + 1 + 1 + 1, 0, none⟩) 1 1] 50)).alloc (.cells #[.slice (some ⟨w1.heap.size + 1 + 1 + 1 + 1 + 1 + 1, 0, none⟩) 1 1] 44)) from rowL (w := w1) (os := [.cells #[.int .i64 1, .int .i64 0, .int .i64 13, .int .i64 0, .int .i64 0, .int .i64 1, .int .i64 16, .int .i64 0] 28, .cells #[.int .i64 1, .int .i64 1, .slice (some ⟨w1.heap.size, 0, none⟩) 4 4] 31, .cells #[.slice (some ⟨w1.heap.size + 1, 0, none⟩) 1 1] 24, .cells #[.int .i64 0, .int .i64 1073741824, .int .i64 0, .int .i64 0] 3, .cells #[.int .i64 0, .int .i64 1073741824, .int .i64 0, .int .i64 0] 3, .cells #[.int .i64 1, .int .i64 1073741824, .int .i64 1073741824] 52, .cells #[.int .i64 1073741824, .slice (some ⟨w1.heap.size + 1 + 1 + 1, 0, none⟩) 4 4, .slice (some ⟨w1.heap.size + 1 + 1 + 1 + 1, 0, none⟩) 4 4, .slice (some ⟨w1.heap.size + 1 + 1 + 1 + 1 + 1, 0, none⟩) 1 1] 50, .cells #[.slice (some ⟨w1.heap.size + 1 + 1 + 1 + 1 + 1 + 1, 0, none⟩) 1 1] 44]) (i := 7) (cs := [.slice (some ⟨w1.heap.size + 1 + 1 + 1 + 1 + 1 + 1, 0, none⟩) 1 1]) (by simp) rfl)
  clear hb
  have RP := Lib.hid (one_fn (f := ⟨1, 1, fullC⟩) F.out (codeL (xs := fullC) C.out (by decide)))
  have RS := Lib.hid (one_prof (f := ⟨1073741824, [0, 1073741824, 0, 0], [0, 1073741824, 0, 0], [⟨1, 1073741824, 1073741824⟩]⟩) G.out (intsL (xs := [0, 1073741824, 0, 0]) I1.out (by simp)) (intsL (xs := [0, 1073741824, 0, 0]) I2.out (by simp)) (one_arg (x := ⟨1, 1073741824, 1073741824⟩) A.out))
  clear C F I1 I2 A G
  go_upto_region 6 with fail
  generalize hw2 : ((((((((w1.alloc (.cells #[.int .i64 1, .int .i64 0, .int .i64 13, .int .i64 0, .int .i64 0, .int .i64 1, .int .i64 16, .int .i64 0] 28)).alloc (.cells #[.int .i64 1, .int .i64 1, .slice (some ⟨w1.heap.size, 0, none⟩) 4 4] 31)).alloc (.cells #[.slice (some ⟨w1.heap.size + 1, 0, none⟩) 1 1] 24)).alloc (.cells #[.int .i64 0, .int .i64 1073741824, .int .i64 0, .int .i64 0] 3)).alloc (.cells #[.int .i64 0, .int .i64 1073741824, .int .i64 0, .int .i64 0] 3)).alloc (.cells #[.int .i64 1, .int .i64 1073741824, .int .i64 1073741824] 52)).alloc (.cells #[.int .i64 1073741824, .slice (some ⟨w1.heap.size + 1 + 1 + 1, 0, none⟩) 4 4, .slice (some ⟨w1.heap.size + 1 + 1 + 1 + 1, 0, none⟩) 4 4, .slice (some ⟨w1.heap.size + 1 + 1 + 1 + 1 + 1, 0, none⟩) 1 1] 50)).alloc (.cells #[.slice (some ⟨w1.heap.size + 1 + 1 + 1 + 1 + 1 + 1, 0, none⟩) 1 1] 44)) = w2 at *
  clear hw2
  have c0 := P.out.cell (k := 0) (by simp)
  simp only [List.getElem_cons_zero] at c0
  have c1 := Q.out.cell (k := 0) (by simp)
  simp only [List.getElem_cons_zero] at c1
  have hb : Below w2.heap.size w2 (w2.alloc (.cells #[.int .i64 m] 3)) := allocsL_below [.cells #[.int .i64 m] 3] w2
  replace HL := Lib.hid (HL.out.below hb)
  replace B := Lib.hid (below_trans B.out hb)
  replace P := Lib.hid (P.out.below hb)
  replace Q := Lib.hid (Q.out.below hb)
  replace RP := Lib.hid (RP.out.below hb)
  replace RS := Lib.hid (RS.out.below hb)
  have T := Lib.hid (show RowAt 3 (w2.heap.size) [.int .i64 m] (w2.alloc (.cells #[.int .i64 m] 3)) from rowL (w := w2) (os := [.cells #[.int .i64 m] 3]) (i := 0) (cs := [.int .i64 m]) (by simp) rfl)
  clear hb
  have c2 := P.out.cell (k := 0) (by simp)
  simp only [List.getElem_cons_zero] at c2
  have c3 := Q.out.cell (k := 0) (by simp)
  simp only [List.getElem_cons_zero] at c3
  have H := Lib.hid (calledP_m fullP 1 fullS 1 0 [m] 1 (some ⟨w1.heap.size + 1, 0, none⟩) (some ⟨w1.heap.size + 1 + 1 + 1 + 1 + 1 + 1, 0, none⟩) (some ⟨w2.heap.size, 0, none⟩) 1 1 1 (w2.alloc (.cells #[.int .i64 m] 3)) HL.out RP.out RS.out (intsL (xs := [m]) T.out (by simp)) full_fit rfl rfl rfl (full_call m0 m1).1 (full_call m0 m1).2 fullS_len)
  go_wp2_with fail
  (with_reducible refine H.out.mono ?_)
  rintro e w3 ⟨A1, d1, v1, rfl, ho, hB⟩
  clear H c0 c1 c2 c3
  replace HL := Lib.hid (HL.out.below hB)
  replace B := Lib.hid (below_trans B.out hB)
  replace P := Lib.hid (P.out.below hB)
  replace Q := Lib.hid (Q.out.below hB)
  replace RP := Lib.hid (RP.out.below hB)
  replace RS := Lib.hid (RS.out.below hB)
  replace T := Lib.hid (T.out.below hB)
  have O1 := Lib.hid (ho)
  clear hB ho
  have c4 := P.out.cell (k := 0) (by simp)
  simp only [List.getElem_cons_zero] at c4
  have c5 := Q.out.cell (k := 0) (by simp)
  simp only [List.getElem_cons_zero] at c5
  have hb : Below w3.heap.size w3 (w3.alloc (.cells #[.slice A1 1 d1] 44)) := allocsL_below [.cells #[.slice A1 1 d1] 44] w3
  replace HL := Lib.hid (HL.out.below hb)
  replace B := Lib.hid (below_trans B.out hb)
  replace P := Lib.hid (P.out.below hb)
  replace Q := Lib.hid (Q.out.below hb)
  replace RP := Lib.hid (RP.out.below hb)
  replace RS := Lib.hid (RS.out.below hb)
  replace T := Lib.hid (T.out.below hb)
  replace O1 := Lib.hid (O1.out.below hb)
  have R1 := Lib.hid (show RowAt 44 (w3.heap.size) [.slice A1 1 d1] (w3.alloc (.cells #[.slice A1 1 d1] 44)) from rowL (w := w3) (os := [.cells #[.slice A1 1 d1] 44]) (i := 0) (cs := [.slice A1 1 d1]) (by simp) rfl)
  clear hb
  have c6 := P.out.cell (k := 0) (by simp)
  simp only [List.getElem_cons_zero] at c6
  have c7 := Q.out.cell (k := 0) (by simp)
  simp only [List.getElem_cons_zero] at c7
  have H := Lib.hid (branchedP_m fullP 1 fullS 1 0 1 j (some ⟨w1.heap.size + 1, 0, none⟩) (some ⟨w1.heap.size + 1 + 1 + 1 + 1 + 1 + 1, 0, none⟩) 1 1 (w3.alloc (.cells #[.slice A1 1 d1] 44)) HL.out RP.out RS.out full_fit rfl rfl (full_branch j).1 (full_branch j).2 fullS_len)
  go_wp2_with fail
  (with_reducible refine H.out.mono ?_)
  rintro e w4 ⟨A2, d2, v2, rfl, ho, hB⟩
  clear H c4 c5 c6 c7
  replace HL := Lib.hid (HL.out.below hB)
  replace B := Lib.hid (below_trans B.out hB)
  replace P := Lib.hid (P.out.below hB)
  replace Q := Lib.hid (Q.out.below hB)
  replace RP := Lib.hid (RP.out.below hB)
  replace RS := Lib.hid (RS.out.below hB)
  replace T := Lib.hid (T.out.below hB)
  replace O1 := Lib.hid (O1.out.below hB)
  replace R1 := Lib.hid (R1.out.below hB)
  have O2 := Lib.hid (ho)
  clear hB ho
  have c8 := P.out.cell (k := 0) (by simp)
  simp only [List.getElem_cons_zero] at c8
  have c9 := Q.out.cell (k := 0) (by simp)
  simp only [List.getElem_cons_zero] at c9
  have hb : Below w4.heap.size w4 (w4.alloc (.cells #[.slice A2 1 d2] 44)) := allocsL_below [.cells #[.slice A2 1 d2] 44] w4
  replace HL := Lib.hid (HL.out.below hb)
  replace B := Lib.hid (below_trans B.out hb)
  replace P := Lib.hid (P.out.below hb)
  replace Q := Lib.hid (Q.out.below hb)
  replace RP := Lib.hid (RP.out.below hb)
  replace RS := Lib.hid (RS.out.below hb)
  replace T := Lib.hid (T.out.below hb)
  replace O1 := Lib.hid (O1.out.below hb)
  replace R1 := Lib.hid (R1.out.below hb)
  replace O2 := Lib.hid (O2.out.below hb)
  have R2 := Lib.hid (show RowAt 44 (w4.heap.size) [.slice A2 1 d2] (w4.alloc (.cells #[.slice A2 1 d2] 44)) from rowL (w := w4) (os := [.cells #[.slice A2 1 d2] 44]) (i := 0) (cs := [.slice A2 1 d2]) (by simp) rfl)
  clear hb
  have c10 := P.out.cell (k := 0) (by simp)
  simp only [List.getElem_cons_zero] at c10
  have c11 := Q.out.cell (k := 0) (by simp)
  simp only [List.getElem_cons_zero] at c11
  have H := Lib.hid (mayP_n fullP 1 fullS 1 (some ⟨w1.heap.size + 1, 0, none⟩) (some ⟨w1.heap.size + 1 + 1 + 1 + 1 + 1 + 1, 0, none⟩) 1 1 (w4.alloc (.cells #[.slice A2 1 d2] 44)) HL.out RP.out RS.out rfl rfl full_may)
  go_wp2_with fail
  (with_reducible refine H.out.mono ?_)
  rintro e w5 ⟨rfl, hB⟩
  clear H c8 c9 c10 c11
  replace HL := Lib.hid (HL.out.below hB)
  replace B := Lib.hid (below_trans B.out hB)
  replace P := Lib.hid (P.out.below hB)
  replace Q := Lib.hid (Q.out.below hB)
  replace RP := Lib.hid (RP.out.below hB)
  replace RS := Lib.hid (RS.out.below hB)
  replace T := Lib.hid (T.out.below hB)
  replace O1 := Lib.hid (O1.out.below hB)
  replace R1 := Lib.hid (R1.out.below hB)
  replace O2 := Lib.hid (O2.out.below hB)
  replace R2 := Lib.hid (R2.out.below hB)
  clear hB
  have c12 := R1.out.cell (k := 0) (by simp)
  simp only [List.getElem_cons_zero] at c12
  have c13 := Q.out.cell (k := 0) (by simp)
  simp only [List.getElem_cons_zero] at c13
  have H := Lib.hid (samePr_n (b := true) fullS fullS 1 1 A1 (some ⟨w1.heap.size + 1 + 1 + 1 + 1 + 1 + 1, 0, none⟩) d1 1 w5 O1.out.reads.2 RS.out rfl rfl (decide_eq_true rfl))
  go_wp2_with (first | (go_at_call 15; (with_reducible refine (numL_any _ _).mono ?_); rintro e wn ⟨rfl, rfl⟩) | fail)
  (with_reducible refine H.out.mono ?_)
  rintro e w6 ⟨rfl, hB⟩
  clear H c12 c13
  replace HL := Lib.hid (HL.out.below hB)
  replace B := Lib.hid (below_trans B.out hB)
  replace P := Lib.hid (P.out.below hB)
  replace Q := Lib.hid (Q.out.below hB)
  replace RP := Lib.hid (RP.out.below hB)
  replace RS := Lib.hid (RS.out.below hB)
  replace T := Lib.hid (T.out.below hB)
  replace O1 := Lib.hid (O1.out.below hB)
  replace R1 := Lib.hid (R1.out.below hB)
  replace O2 := Lib.hid (O2.out.below hB)
  replace R2 := Lib.hid (R2.out.below hB)
  clear hB
  have c14 := R2.out.cell (k := 0) (by simp)
  simp only [List.getElem_cons_zero] at c14
  have c15 := Q.out.cell (k := 0) (by simp)
  simp only [List.getElem_cons_zero] at c15
  have H := Lib.hid (samePr_n (b := true) fullS fullS 1 1 A2 (some ⟨w1.heap.size + 1 + 1 + 1 + 1 + 1 + 1, 0, none⟩) d2 1 w6 O2.out.reads.2 RS.out rfl rfl (decide_eq_true rfl))
  go_wp2_with (first | (go_at_call 15; (with_reducible refine (numL_any _ _).mono ?_); rintro e wn ⟨rfl, rfl⟩) | fail)
  (with_reducible refine H.out.mono ?_)
  rintro e w7 ⟨rfl, hB⟩
  clear H c14 c15
  replace HL := Lib.hid (HL.out.below hB)
  replace B := Lib.hid (below_trans B.out hB)
  replace P := Lib.hid (P.out.below hB)
  replace Q := Lib.hid (Q.out.below hB)
  replace RP := Lib.hid (RP.out.below hB)
  replace RS := Lib.hid (RS.out.below hB)
  replace T := Lib.hid (T.out.below hB)
  replace O1 := Lib.hid (O1.out.below hB)
  replace R1 := Lib.hid (R1.out.below hB)
  replace O2 := Lib.hid (O2.out.below hB)
  replace R2 := Lib.hid (R2.out.below hB)
  clear hB
  go_wp2_with fail
  go_ret
  exact ⟨rfl, B.out⟩
end Go.Proofs.YtpfgklkdldkajaaDoor

/- The law ProfCounts, plain: what a profile counts of calls of one function. No condition. The law ProfCounts, walked: twenty calls of one function, told a profile. Conditions: the program and the ints lie in memory as they are said; errors.errorType is laid. -/
import Derived.Test.YtpfgklkdldkajaaDoorMPd
import Derived.Test.YtpfgklkdldkajaaDoorPFull
import Derived.Test.YtpfgklkdldkajaaDoorNums
import Derived.Deep.Quiet
namespace Go.Proofs.YtpfgklkdldkajaaDoor
open Go.RowKit

def argS (v0 : Int) (i same : Nat) (j : Nat) : ArgP := if i = 0 then ⟨0, 0, 0⟩ else ⟨v0 + j, same, (i : Int) - same⟩
def fprS (f : Fn) (v0 : Int) (i same : Nat) : FPr := ⟨i, List.replicate f.code.length 0, List.replicate f.code.length 0, (List.range f.args.toNat).map (argS v0 i same)⟩
def profS (p : List Fn) (fn : Nat) (f : Fn) (v0 : Int) (i same : Nat) : List FPr := (p.map newF).set fn (fprS f v0 i same)
def argsX (v : Int) (m : Nat) : List Int := (List.range m).map fun (j : Nat) => v + (j : Int)
def sameN (xs : List Int) (v0 : Int) (i : Nat) : Nat := (xs.take i).countP fun x => decide (x % 4 = v0)
theorem sameN_zero (xs : List Int) (v0 : Int) : sameN xs v0 0 = 0 := by simp [sameN]
theorem sameN_succ (xs : List Int) (v0 : Int) {i : Nat} (hi : i < xs.length) : sameN xs v0 (i + 1) = sameN xs v0 i + if xs[i] % 4 = v0 then 1 else 0 := by
  unfold sameN
  rw [List.take_succ_eq_append_getElem hi, List.countP_append]
  by_cases h : xs[i] % 4 = v0 <;> simp [h]
theorem sameN_le (xs : List Int) (v0 : Int) (i : Nat) : sameN xs v0 i ≤ i := Nat.le_trans List.countP_le_length (by simp; omega)
theorem sameN_pos (xs : List Int) (h0 : 0 < xs.length) {i : Nat} (hi : 0 < i) : 1 ≤ sameN xs (xs[0] % 4) i := by
  unfold sameN
  have : xs[0] ∈ xs.take i := by rw [List.mem_iff_getElem]; exact ⟨0, by simp; omega, by simp⟩
  exact List.countP_pos_iff.2 ⟨_, this, by simp⟩
theorem profS_len (p : List Fn) (fn : Nat) (f : Fn) (v0 : Int) (i same : Nat) : (profS p fn f v0 i same).length = p.length := by simp [profS]
theorem profS_at {p : List Fn} {fn : Nat} (hfn : fn < p.length) (v0 : Int) (i same : Nat) (h : fn < (profS p fn p[fn] v0 i same).length) : (profS p fn p[fn] v0 i same)[fn] = fprS p[fn] v0 i same := by simp [profS]
theorem profS_zero {p : List Fn} {fn : Nat} (hfn : fn < p.length) (v0 : Int) : profS p fn p[fn] v0 0 0 = p.map newF := by
  have e : fprS p[fn] v0 0 0 = newF p[fn] := by
    refine fpr_ext rfl rfl rfl ?_
    show (List.range _).map _ = List.replicate _ _
    apply List.ext_getElem
    · simp
    · intro j h1 h2; simp [argS]
  unfold profS
  rw [e]
  apply List.ext_getElem
  · simp
  · intro j h1 h2
    rw [List.getElem_set]
    split
    · rename_i hj; subst hj; simp
    · rfl
theorem moreN_lt {n : Int} (h : n < 1073741824) : moreN n = n + 1 := by unfold moreN; rw [if_pos h]
theorem fprB_s {f : Fn} (h0 : 0 ≤ f.args) (h4 : f.args ≤ 4) {v0 : Int} (hv0 : 0 ≤ v0) (hv4 : v0 < 4) {i same : Nat} (hi : i ≤ 20) (hs : same ≤ i) : fprB f (fprS f v0 i same) = true := by
  have hc : ∀ n : Nat, (List.replicate n (0 : Int)).all countB = true := fun n => List.all_eq_true.2 fun x hx => by
    rw [List.mem_replicate] at hx; rw [hx.2]; rfl
  have ha : ((List.range f.args.toNat).map (argS v0 i same)).all argB = true := List.all_eq_true.2 fun x hx => by
    obtain ⟨j, hj, rfl⟩ := List.mem_map.1 hx
    have := List.mem_range.1 hj
    unfold argS
    split
    · rfl
    · simp [argB, countB, isNum]; omega
  unfold fprB countsB fprS
  simp only [hc, ha, Bool.and_true]
  simp [countB]
  omega
theorem fprB_new {f : Fn} (h0 : 0 ≤ f.args) : fprB f (newF f) = true := by
  have hc : ∀ n : Nat, (List.replicate n (0 : Int)).all countB = true := fun n => List.all_eq_true.2 fun x hx => by
    rw [List.mem_replicate] at hx; rw [hx.2]; rfl
  have ha : (List.replicate f.args.toNat (⟨0, 0, 0⟩ : ArgP)).all argB = true := List.all_eq_true.2 fun x hx => by
    rw [List.mem_replicate] at hx; rw [hx.2]; rfl
  unfold fprB countsB newF
  simp only [hc, ha, Bool.and_true]
  simp [countB]
  omega
theorem profS_may {p : List Fn} (hv : verifyOf p = 0) {fn : Nat} (hfn : fn < p.length) {v0 : Int} (hv0 : 0 ≤ v0) (hv4 : v0 < 4) {i same : Nat} (hi : i ≤ 20) (hs : same ≤ i) : profB p (profS p fn p[fn] v0 i same) = true := by
  have hp := verifyOf_packs hv
  unfold profB
  rw [profS_len, decide_eq_true hv, decide_eq_true rfl]
  simp only [Bool.true_and]
  refine List.all_eq_true.2 fun x hx => ?_
  obtain ⟨k, hk, rfl⟩ := List.mem_iff_getElem.1 hx
  have hkp : k < p.length := by simp [profS_len] at hk; omega
  have hm := fnMay_of (packs_fn hp hkp)
  have hm2 := fnMay_of (packs_fn hp hfn)
  rw [List.getElem_zip]
  simp only [profS, List.getElem_set, List.getElem_map]
  split
  · rename_i e; subst e
    exact fprB_s hm.1 (by have := hm.2.1; omega) hv0 hv4 hi hs
  · exact fprB_new hm.1
theorem callF_s {f : Fn} {v v0 : Int} {i same : Nat} (hi : i < 20) (hs : same ≤ i) (hs0 : i = 0 → v0 = v) (hs1 : 0 < i → 1 ≤ same) :
    callF (fprS f v0 i same) (argsX v f.args.toNat) = fprS f v0 (i + 1) (same + if v = v0 then 1 else 0) := by
  refine fpr_ext ?_ rfl rfl ?_
  · simp only [callF, fprS]
    rw [moreN_lt (by omega)]; omega
  · show List.zipWith callA ((List.range _).map _) ((List.range _).map _) = (List.range _).map _
    apply List.ext_getElem
    · simp
    · intro j h1 h2
      simp only [List.getElem_zipWith, List.getElem_map, List.getElem_range]
      unfold argS callA
      rw [if_neg (show ¬ i + 1 = 0 by omega)]
      by_cases h0 : i = 0
      · subst h0
        obtain rfl := hs0 rfl
        obtain rfl : same = 0 := by omega
        simp
      · have h1s := hs1 (by omega)
        rw [if_neg h0]
        simp only
        rw [if_neg (by omega)]
        by_cases hv : v = v0
        · subst hv
          rw [if_pos rfl, if_pos rfl]
          refine argP_ext rfl ?_ ?_
          · simp only
            rw [moreN_lt (by omega)]; omega
          · show (i : Int) - same = ((i + 1 : Nat) : Int) - ((same + 1 : Nat) : Int)
            omega
        · rw [if_neg (by omega), if_neg hv]
          refine argP_ext rfl rfl ?_
          show moreN ((i : Int) - same) = ((i + 1 : Nat) : Int) - ((same + 0 : Nat) : Int)
          rw [moreN_lt (by omega)]; omega
theorem argsX_num {v : Int} {m : Nat} (hv : 0 ≤ v) (hv4 : v < 4) (hm : m ≤ 4) : (argsX v m).all isNum = true := List.all_eq_true.2 fun x hx => by
  obtain ⟨j, hj, rfl⟩ := List.mem_map.1 hx
  have := List.mem_range.1 hj
  simp [isNum]; omega
theorem profS_step {p : List Fn} (hpv : verifyOf p = 0) {fn : Nat} (hfn : fn < p.length) {v v0 : Int} (hv : 0 ≤ v) (hv4 : v < 4) (hv0 : 0 ≤ v0) (hv04 : v0 < 4) {i same : Nat} (hi : i < 20) (hs : same ≤ i) (hs0 : i = 0 → v0 = v) (hs1 : 0 < i → 1 ≤ same) :
    calledR p (profS p fn p[fn] v0 i same) fn (argsX v p[fn].args.toNat) = profS p fn p[fn] v0 (i + 1) (same + if v = v0 then 1 else 0) ∧ calledC p (profS p fn p[fn] v0 i same) fn (argsX v p[fn].args.toNat) = 0 := by
  have hm := fnMay_of (packs_fn (verifyOf_packs hpv) hfn)
  have hn : fn < (profS p fn p[fn] v0 i same).length := by rw [profS_len]; exact hfn
  have hB : calledB p (profS p fn p[fn] v0 i same) fn (argsX v p[fn].args.toNat) = true := by
    unfold calledB
    rw [profS_may hpv hfn hv0 hv04 (by omega) hs, argsX_num hv hv4 (by have := hm.2.1; omega), show argsIn p (fn : Int) = p[fn].args by unfold argsIn; rw [Int.toNat_natCast, List.getElem?_eq_getElem hfn]]
    simp [argsX]
    exact ⟨hfn, by have := hm.1; omega⟩
  obtain ⟨e1, e2⟩ := called_yes hB hn
  refine ⟨?_, e2⟩
  rw [e1, profS_at hfn, callF_s hi hs hs0 hs1]
  unfold profS
  rw [List.set_set]
theorem fpr_fit {p : List Fn} (hpv : verifyOf p = 0) (fn : Nat) {f : Fn} (hf : f ∈ p) (v0 : Int) (i same : Nat) : FitP (profS p fn f v0 i same) := by
  have hp := verifyOf_packs hpv
  have h8 := (packs_len hp).2
  have all : ∀ g ∈ p, g.code.length ≤ 64 ∧ 0 ≤ g.args ∧ g.args ≤ 4 := fun g hg => by
    obtain ⟨k, hk, rfl⟩ := List.mem_iff_getElem.1 hg
    have hm := fnMay_of (packs_fn hp hk)
    exact ⟨(codeMay_len hm.2.2.2.2).2, hm.1, by have := hm.2.1; omega⟩
  refine ⟨by rw [profS_len]; omega, fun r hr => ?_⟩
  rcases List.mem_or_eq_of_mem_set hr with h | rfl
  · obtain ⟨g, hg, rfl⟩ := List.mem_map.1 h
    have := all g hg
    simp [newF]; omega
  · have := all f hf
    simp [fprS]; omega
end Go.Proofs.YtpfgklkdldkajaaDoor

namespace Go.Proofs.YtpfgklkdldkajaaDoor
open Go.RowKit

theorem argsX_succ (v : Int) (q : Nat) : argsX v (q + 1) = argsX v q ++ [v + (q : Int)] := by unfold argsX; rw [List.range_succ, List.map_append]; rfl
theorem argsX_len (v : Int) (q : Nat) : (argsX v q).length = q := by simp [argsX]
/-- An int more, laid by the call itself. -/
theorem push_int {w0 w : World} {q : Nat} {v : Value} {l : List Int} (x : Int) (h : CRow w w0.heap.size 3 1 v q (intsV l)) (hb : Below w0.heap.size w0 w) (hq : q ≤ 1000) :
    ∃ ao cap w', (Builtin.append_ #[32, 32] 32 #[v, .slice (some ⟨w.heap.size, 0, none⟩) 1 1]).run Tryd.prog (w.alloc (.cells #[.int .i64 x] 3)) = .ok (.slice ao (q + 1) cap) w' ∧ CRow w' w0.heap.size 3 1 (.slice ao (q + 1) cap) (q + 1) (intsV (l ++ [x])) ∧ Below w0.heap.size w0 w' := by
  have b2 := below_alloc (Below.refl w.heap.size w) (.cells #[.int .i64 x] 3)
  have rN := RowAt.new 3 (intsV [x]) w
  have hsrc : Src Tryd.prog 1 32 (.slice (some ⟨w.heap.size, 0, none⟩) 1 1) 1 (intsV [x]) (w.alloc (.cells #[.int .i64 x] 3)) := ints_src (xs := [x]) Tryd.underlying32 (intsL (xs := [x]) rN (by simp)) (fun e => by cases e)
  obtain ⟨i, hi, hz0, hs, hbb⟩ := info_parts info_int
  obtain ⟨ao, cap, rfl, _, _⟩ := h.shape
  have hc2 := h.below b2
  have hsz := hb.size
  obtain ⟨v', w', hrun, hG⟩ := run_append_crow (P := Tryd.prog) (w.alloc (.cells #[.int .i64 x] 3)) 32 3 32 32 i (.int .i64 0) 1 8 Tryd.underlying32 hi hz0 hs hbb rfl w0.heap.size ao q cap (intsV l) hc2 (by simp; omega)
    (.slice (some ⟨w.heap.size, 0, none⟩) 1 1) 1 (intsV [x]) hsrc (by omega) (by unfold maxLen; omega)
  obtain ⟨ao', cap', rfl, _, _⟩ := hG.row.shape
  have e : intsV l ++ intsV [x] = intsV (l ++ [x]) := by simp [intsV]
  have hrow := hG.row
  rw [e] at hrow
  exact ⟨ao', cap', w', hrun, hrow, Chg.below (below_trans hb b2) hG.chg (fun b hb => (hc2.in_ b hb).1)⟩
set_option maxRecDepth 100000 in
set_option maxHeartbeats 16000000 in
theorem profCounts_yes (Ap A2 : Option Addr) (cp c2 : Nat) (p : List Fn) (n : Int) (xs : List Int) (W : World) (hl : Laid W) (hp : ReadsF W Ap p) (hx : ReadsI W A2 xs) : Calls Tryd.prog 4 #[.agg #[.slice Ap p.length cp], .int .i64 n, .slice A2 xs.length c2] W (Ret (.bool true) W) := by
  obtain ⟨w0, hw0⟩ : ∃ w0, W.alloc (.cells #[.slice Ap p.length cp] 24) = w0 := ⟨_, rfl⟩
  have b0 : Below W.heap.size W w0 := hw0 ▸ below_alloc (Below.refl _ _) _
  have r0 : RowAt 24 W.heap.size [.slice Ap p.length cp] w0 := hw0 ▸ RowAt.new _ _ W
  have HLW := Lib.hid hl
  have RPW := Lib.hid hp
  have RXW := Lib.hid hx
  have H := Lib.hid (awake9_any w0 (hl.below b0))
  have B := Lib.hid b0
  have P := Lib.hid r0
  have n1 : p.length ≤ 9223372036854775807 := hp.1
  have n2 : xs.length ≤ 9223372036854775807 := hx.1
  clear hl hp hx b0 r0
  go_enter Tryd.func4, Tryd.ntmps4
  go_wp2_with fail
  (with_reducible refine H.out.mono ?_)
  rintro e w1 ⟨rfl, hB⟩
  replace B := Lib.hid (below_trans B.out hB)
  replace P := Lib.hid (P.out.below hB)
  clear hB H hw0
  have LT1 := Lib.hid (blk_lt P.out)
  have H := Lib.hid (newP_any p Ap cp w1 (HLW.out.below B.out) (RPW.out.below B.out))
  have c0 := row_cell P.out
  go_wp2_with fail
  (with_reducible refine H.out.mono ?_)
  rintro e w2 ⟨A, d, vss, rfl, ho, hB⟩
  obtain ⟨NL, hNL⟩ : ∃ NL, (newR p).length = NL := ⟨_, rfl⟩
  rw [hNL] at ho ⊢
  have hNL := Lib.hid hNL
  obtain ⟨w3, hw3⟩ : ∃ w3, w2.alloc (.cells #[.slice A NL d] 44) = w3 := ⟨_, rfl⟩
  have b3 : Below w2.heap.size w2 w3 := hw3 ▸ below_alloc (Below.refl _ _) _
  have r3 : RowAt 44 w2.heap.size [.slice A NL d] w3 := hw3 ▸ RowAt.new _ _ w2
  have hBB := below_trans hB b3
  have LT := Lib.hid (show W.heap.size < w2.heap.size by have h1 := LT1.out; have h2 := hB.size; omega)
  have O := Lib.hid (OwnG.mono (OwnPr.below ho b3) (show W.heap.size ≤ w1.heap.size from B.out.size))
  replace B := Lib.hid (below_trans B.out hBB)
  replace P := Lib.hid (P.out.below hBB)
  have FL := Lib.hid (show ∀ u ∈ Value.slice A NL d :: vss.flatten, ∀ b, ob u = some b → b ≠ w2.heap.size from fun u hu b e => Nat.ne_of_lt (OwnG.lo ho u hu b e).2)
  have S := Lib.hid r3
  clear H hB b3 r3 hBB ho c0 LT1
  have c0 := row_cell P.out
  by_cases hv : verifyOf p = 0
  case neg =>
    rw [(newR_no hv).2]
    clear hv
    go_wp2_with (first | (go_at_call 15; (with_reducible refine (numL_any _ _).mono ?_); rintro e wn ⟨rfl, eW⟩; subst wn) | fail)
    go_ret
    exact ⟨rfl, B.out⟩
  have HV := Lib.hid hv
  obtain ⟨e1, e2⟩ := newR_yes hv
  obtain rfl : p.length = NL := by rw [← hNL.out, e1, List.length_map]
  rw [e1] at O
  rw [e2]
  have hpl := packs_len (verifyOf_packs hv)
  obtain ⟨fn, hfn, hfl⟩ := u64_remu n p.length (by omega)
  have hu1 : IntKind.u64.wrap (p.length : Int) = p.length := by rw [IntKind.wrap_u64]; omega
  have hw1 : wrap64 (fn : Int) = fn := wrap64_in (by omega) (by omega)
  have hz : decide (p.length = 0) = false := decide_eq_false (by omega)
  have hz2 : ((p.length : Int) == 0) = false := beq_eq_false_iff_ne.2 (by omega)
  clear hv e1 e2 hpl hNL
  go_wp2_with (first | (go_at_call 15; (with_reducible refine (numL_any _ _).mono ?_); rintro e wn ⟨rfl, eW⟩; subst wn) | fail)
  clear c0 hu1 hw1 hz hz2 hw3
  have hfz := fnMay_of (packs_fn (verifyOf_packs HV.out) hfl)
  obtain ⟨M, hM⟩ := Int.eq_ofNat_of_zero_le hfz.1
  have hM4 : M ≤ 4 := by have := hfz.2.1; omega
  have HM := Lib.hid hM
  have HFZ := Lib.hid hfz
  clear hfz hM hfn
  obtain ⟨v0, hv0⟩ : ∃ v0 : Int, v0 = (xs.headD 0) % 4 := ⟨_, rfl⟩
  have V0 := Lib.hid hv0
  have V1 := Lib.hid (show 0 ≤ v0 ∧ v0 < 4 by omega)
  clear hv0
  go_loopw [12, 10, 11] (fun i sm ca wr => ∃ (k : Nat) (A : Option Addr) (d : Nat) (vss : List (List Value)), i = .int .i64 k ∧ ca = .int .i64 k ∧ k ≤ xs.length ∧ k ≤ 20 ∧ sm = .int .i64 (sameN xs v0 k : Nat) ∧ OwnPr wr W.heap.size (.slice A p.length d) (profS p fn p[fn] v0 k (sameN xs v0 k)) vss ∧ (∀ u ∈ Value.slice A p.length d :: vss.flatten, ∀ b, ob u = some b → b ≠ w2.heap.size) ∧ RowAt 44 w2.heap.size [.slice A p.length d] wr ∧ Below W.heap.size W wr ∧ RowAt 24 W.heap.size [.slice Ap p.length cp] wr) (fun i _ _ _ => xs.length - (intOf i).toNat)
  case atStart => exact ⟨0, A, d, vss, rfl, rfl, Nat.zero_le _, Nat.zero_le _, by rw [sameN_zero]; rfl, by rw [sameN_zero, profS_zero hfl]; exact O.out, FL.out, S.out, B.out, P.out⟩
  case round =>
    obtain ⟨k, A, d, vss, rfl, rfl, hk1, hk2, rfl, ho, hfr, hs, hb, hp0⟩ := hrel
    obtain ⟨wo, rfl⟩ : ∃ wo, wo = wr := ⟨_, rfl⟩
    replace O := Lib.hid ho
    replace FL := Lib.hid hfr
    replace S := Lib.hid hs
    replace B := Lib.hid hb
    replace P := Lib.hid hp0
    clear ho hfr hs hb hp0
    obtain ⟨sN, hsN⟩ : ∃ sN, sameN xs v0 k = sN := ⟨_, rfl⟩
    rw [hsN] at O ⊢
    have HSN := Lib.hid hsN
    have hsk : sN ≤ k := hsN ▸ sameN_le xs v0 k
    clear hsN
    have c0 := row_cell P.out
    have c1 := row_cell S.out
    by_cases hlt : k < xs.length ∧ k < 20
    case pos =>
      obtain ⟨hlx, hl2⟩ := hlt
      have t1 : decide (k < xs.length) = true := decide_eq_true hlx
      have t2 : decide ((k : Int) < 20) = true := decide_eq_true (by omega)
      obtain ⟨ax, eX, hx⟩ := (RXW.out.below B.out).at_ hlx
      subst eX
      obtain ⟨vv, hvv⟩ : ∃ vv, xs[k] % 4 = vv := ⟨_, rfl⟩
      have hb3 : bits .and .i64 xs[k] 3 = vv := (i64_m3 _).trans hvv
      have HVV := Lib.hid hvv
      have hvb : 0 ≤ vv ∧ vv < 4 := by omega
      clear hvv
      go_wp2_with fail
      go_loopw [14, 15] (fun av jv wq => ∃ (q : Nat), jv = .int .i64 q ∧ q ≤ M ∧ CRow wq wo.heap.size 3 1 av q (intsV (argsX vv q)) ∧ Below wo.heap.size wo wq) (fun _ j _ => M - (intOf j).toNat)
      case atStart => exact ⟨0, rfl, Nat.zero_le _, .inr ⟨rfl, rfl, none, rfl⟩, Below.refl _ _⟩
      case round =>
        obtain ⟨q, rfl, hq, hcr, hbq⟩ := hrel
        have CR := Lib.hid hcr
        have BQ := Lib.hid hbq
        clear hcr hbq hx c0 c1
        have BW := Lib.hid (below_trans B.out BQ.out)
        obtain ⟨ad, eA, Ac, cc, hF⟩ := fnAt_of RPW.out BW.out hfl
        subst eA
        have g0 := hF.c0
        rw [HM.out] at g0
        have c0 := row_cell (P.out.below BQ.out)
        have c1 := row_cell (S.out.below BQ.out)
        clear hF
        by_cases hqm : q < M
        case pos =>
          have hwr : IntKind.i64.wrap (vv + (q : Int)) = vv + q := by rw [IntKind.wrap_i64]; omega
          obtain ⟨ao', cap', w6, hrun, hrow, hbel⟩ := push_int (vv + (q : Int)) CR.out BQ.out (by omega)
          have HROW := Lib.hid hrow
          have HBEL := Lib.hid hbel
          have HVB := Lib.hid hvb
          clear hrow hbel hvb
          go_wp2_with (first | (at_builtin; refine wpList_append_run _ rfl _ _ _ _ rfl _ _ _ _ rfl rfl hrun ?_) | fail)
          go_roundw
          case rel => exact ⟨q + 1, by go_num, by omega, by rw [argsX_succ]; exact HROW.out, HBEL.out⟩
          case measure => simp only [intOf]; omega
        obtain rfl : q = M := by omega
        obtain ⟨ao, cap, rfl, _, _⟩ := CR.out.shape
        have hx0 : 0 < xs.length := by omega
        have hv00 : v0 = xs[0] % 4 := by rw [V0.out]; cases xs with | nil => cases hx0 | cons x xs => rfl
        have HV00 := Lib.hid hv00
        have hst := profS_step HV.out hfl (v := vv) (v0 := v0) hvb.1 hvb.2 V1.out.1 V1.out.2 hl2 hsk (fun h0 => by subst h0; rw [hv00, ← HVV.out]) (fun h0 => by have := sameN_pos xs hx0 h0; rw [← hv00, HSN.out] at this; exact this)
        rw [show p[fn].args.toNat = q by rw [HM.out]; rfl] at hst
        have H := Lib.hid (calledP_m p p.length (profS p fn p[fn] v0 k sN) p.length fn (argsX vv q) q (some ad) A ao cp d cap wr (HLW.out.below BW.out) (RPW.out.below BW.out) (OwnPr.below O.out BQ.out).reads.2 (CRow.ints CR.out) (fpr_fit HV.out fn (List.getElem_mem hfl) v0 k sN) rfl (profS_len _ _ _ _ _ _) (argsX_len _ _) hst.1 hst.2 (profS_len _ _ _ _ _ _))
        have HVB := Lib.hid hvb
        clear hst hv00 hvb hqm hq
        go_wp2_with fail
        (with_reducible refine H.out.mono ?_)
        rintro e w7 ⟨A', d', vss', rfl, ho', hB⟩
        obtain ⟨w8, hw8⟩ : ∃ w8, w7.alloc (.cells #[.slice A' p.length d'] 44) = w8 := ⟨_, rfl⟩
        have b8 : Below w7.heap.size w7 w8 := hw8 ▸ below_alloc (Below.refl _ _) _
        have r8 : RowAt 44 w7.heap.size [.slice A' p.length d'] w8 := hw8 ▸ RowAt.new _ _ w7
        have hbb := below_trans BQ.out (below_trans hB b8)
        have hS8 := S.out.below hbb
        have hP8 := P.out.below hbb
        have hB8 := below_trans B.out hbb
        have hO8 := OwnPr.below ho' b8
        have hlo := OwnG.lo ho'
        have l1 := LT.out
        have l2 := blk_lt S.out
        have l3 := BQ.out.size
        have kc : Chg (fun b => b = w2.heap.size) w8 (w8.setCell ⟨w2.heap.size, 0, none⟩ (.slice A' p.length d')) := Chg.put (S := fun b => b = w2.heap.size) (Chg.refl _ w8) (a := ⟨w2.heap.size, 0, none⟩) rfl _
        have F1 := Lib.hid (OwnG.mono (OwnG.chg hO8 kc (fun u hu b hb e => by have := (hlo u hu b hb).1; omega)) (show W.heap.size ≤ wr.heap.size by omega))
        have F2 := Lib.hid (show ∀ u ∈ Value.slice A' p.length d' :: vss'.flatten, ∀ b, ob u = some b → b ≠ w2.heap.size from fun u hu b e => by have := (hlo u hu b e).1; omega)
        have hF3 := hS8.put 0 (.slice A' p.length d')
        simp only [List.set_cons_zero] at hF3
        have F3 := Lib.hid hF3
        have F4 := Lib.hid (Below.setCell hB8 (p := ⟨w2.heap.size, 0, none⟩) (by simp; omega) (.slice A' p.length d'))
        have F5 := Lib.hid (hP8.chg kc (by omega))
        have t8 := row_cell r8
        have s8 := row_cell hS8
        have f8 := hS8.free 0
        obtain ⟨ax', eX', hx'⟩ := (RXW.out.below F4.out).at_ hx0
        cases eX'
        rw [add_nil] at hx'
        have hb0 : bits .and .i64 xs[0] 3 = v0 := (i64_m3 _).trans HV00.out.symm
        have hws : IntKind.i64.wrap ((sN : Int) + 1) = sN + 1 := by rw [IntKind.wrap_i64]; omega
        have hss := Lib.hid (show sameN xs v0 (k + 1) = sN + (if vv = v0 then 1 else 0) from by rw [sameN_succ _ _ hlx, HSN.out, HVV.out])
        have HSK := Lib.hid hsk
        clear ho' hB b8 r8 hbb hS8 hP8 hB8 hO8 hlo l1 l2 l3 kc hF3 H c0 c1 hsk hb3 g0
        by_cases hvv0 : vv = v0
        case pos =>
          have d3 : (vv == v0) = true := by simpa using hvv0
          have HVE := Lib.hid hvv0
          clear hvv0
          go_wp2_with (first | (go_at_call 15; (with_reducible refine (numL_any _ _).mono ?_); rintro e wn ⟨rfl, eW⟩; subst wn) | fail)
          go_roundw
          case rel => exact ⟨k + 1, A', d', vss', by go_num, by go_num, by omega, by omega, by rw [hss.out, if_pos HVE.out]; go_num, by rw [hss.out]; exact F1.out, F2.out, F3.out, F4.out, F5.out⟩
          case measure => simp only [intOf]; omega
        have d3 : (vv == v0) = false := by simpa using hvv0
        have HVE := Lib.hid hvv0
        clear hvv0
        go_wp2_with (first | (go_at_call 15; (with_reducible refine (numL_any _ _).mono ?_); rintro e wn ⟨rfl, eW⟩; subst wn) | fail)
        go_roundw
        case rel => exact ⟨k + 1, A', d', vss', by go_num, by go_num, by omega, by omega, by rw [hss.out, if_neg HVE.out]; rfl, by rw [hss.out]; exact F1.out, F2.out, F3.out, F4.out, F5.out⟩
        case measure => simp only [intOf]; omega
    have hX : (¬ k < xs.length) ∨ (k < xs.length ∧ ¬ k < 20) := by omega
    have hrn : fn < (profS p fn p[fn] v0 k sN).length := by rw [profS_len]; exact hfl
    obtain ⟨g, off, eA, -, -, -, -, B1, b1, B2, b2, B3, b3, -, -, -, i3, m0, m1, m2, m3, -⟩ := OwnPr.at_ O.out hrn
    subst eA
    have hal : (fprS p[fn] v0 k sN).args.length = M := by simp [fprS, HM.out]
    simp only [profS_at hfl v0 k sN hrn] at i3 m0 m3
    have i4 : CRow wo W.heap.size 52 3 (.slice B3 (fprS p[fn] v0 k sN).args.length b3) (fprS p[fn] v0 k sN).args.length (argsV (fprS p[fn] v0 k sN).args) := i3
    rw [hal] at i4 m3
    replace m0 : wo.cell? ⟨g, off + fn * 4, none⟩ = some (.int .i64 k) := m0
    obtain ⟨ad, eA, Ac, cc, hF⟩ := fnAt_of RPW.out B.out hfl
    subst eA
    have g0 := hF.c0
    rw [HM.out] at g0
    have RA := Lib.hid (CRow.args i4)
    have HAL := Lib.hid hal
    clear m1 m2 i3 i4 hF hal hrn hlt
    have HX := Lib.hid hX
    clear hX
    rcases HX.out with h1 | ⟨h1, h2⟩
    · have t1 : decide (k < xs.length) = false := decide_eq_false h1
      clear h1
      go_wp2_with fail
      go_quiet (fail)
      go_wp2_with fail
      go_loopw [18] (fun i wr => ∃ (j : Nat), i = .int .i64 j ∧ j ≤ M ∧ Below wo.heap.size wo wr) (fun i _ => M - (intOf i).toNat)
      case atStart => exact ⟨0, rfl, Nat.zero_le _, below_drew (Below.refl _ _) _⟩
      case round =>
        obtain ⟨j, rfl, hj, hbr⟩ := hrel
        have BR := Lib.hid hbr
        have c0' := cell_below hbr c0
        have c1' := cell_below hbr c1
        have m3' := cell_below hbr m3
        clear hbr c0 c1 m3 m0 g0
        have BW := Lib.hid (below_trans B.out BR.out)
        by_cases hjm : j < M
        case neg =>
          have H := Lib.hid (mayP_n p p.length (profS p fn p[fn] v0 k sN) p.length (some ad) (some ⟨g, off, none⟩) cp d wr (HLW.out.below BW.out) (RPW.out.below BW.out) (OwnPr.below O.out BR.out).reads.2 rfl (profS_len _ _ _ _ _ _) (profS_may HV.out hfl V1.out.1 V1.out.2 hk2 hsk))
          have hje : j = M := by omega
          have t9 : decide (j < M) = false := decide_eq_false hjm
          clear hjm hje
          go_wp2_with fail
          (with_reducible refine H.out.mono ?_)
          rintro e w9 ⟨rfl, hB⟩
          go_wp2_with fail
          go_ret
          exact ⟨rfl, below_trans BW.out hB⟩
        have t9 : decide (j < M) = true := decide_eq_true hjm
        have hja : j < (fprS p[fn] v0 k sN).args.length := by rw [HAL.out]; exact hjm
        obtain ⟨aa, eB, q0, q1, q2⟩ := RA.out.at_ BR.out hja
        subst eB
        simp only [show (fprS p[fn] v0 k sN).args[j] = argS v0 k sN j by simp [fprS]] at q0 q1 q2
        clear hja
        by_cases hk0 : k = 0
        · subst hk0
          obtain rfl : sN = 0 := by omega
          replace q0 : wr.cell? (aa.add (j * 3)) = some (.int .i64 0) := q0
          replace q1 : wr.cell? ⟨(aa.add (j * 3)).block, (aa.add (j * 3)).off + 1, none⟩ = some (.int .i64 0) := q1
          replace q2 : wr.cell? ⟨(aa.add (j * 3)).block, (aa.add (j * 3)).off + 2, none⟩ = some (.int .i64 0) := q2
          go_upto_region 30 with fail
          obtain ⟨w9, hw9⟩ : ∃ w9, wr.alloc (.cells #[.int .i64 0, .int .i64 0, .int .i64 0] 52) = w9 := ⟨_, rfl⟩
          have b9 : Below wr.heap.size wr w9 := hw9 ▸ below_alloc (Below.refl _ _) _
          have r9 : RowAt 52 wr.heap.size [.int .i64 0, .int .i64 0, .int .i64 0] w9 := hw9 ▸ RowAt.new _ _ wr
          have z0 := r9.cell (k := 0) (by simp)
          have z1 := r9.cell (k := 1) (by simp)
          have z2 := r9.cell (k := 2) (by simp)
          simp only [List.getElem_cons_zero, List.getElem_cons_succ] at z0 z1 z2
          skip
          have BZ := Lib.hid (below_trans BR.out b9)
          rw [hw9]
          clear b9 r9 hw9
          go_quiet (fail)
          go_wp2_with fail
          go_roundw
          case rel => exact ⟨j + 1, by go_num, by omega, below_drew BZ.out _⟩
          case measure => simp only [intOf]; omega
        · have e3 : argS v0 k sN j = ⟨v0 + j, sN, (k : Int) - sN⟩ := by unfold argS; rw [if_neg hk0]
          rw [e3] at q0 q1 q2
          simp only at q0 q1 q2
          clear e3
          have hx0 : 0 < xs.length := by omega
          obtain ⟨ax, eX, hx'⟩ := (RXW.out.below BW.out).at_ hx0
          subst eX
          rw [add_nil] at hx'
          have hv00 : v0 = xs[0] % 4 := by rw [V0.out]; cases xs with | nil => cases hx0 | cons x xs => rfl
          have hb0 : bits .and .i64 xs[0] 3 = v0 := (i64_m3 _).trans hv00.symm
          have hv1 := V1.out
          have hws : IntKind.i64.wrap ((k : Int) - sN) = k - sN := by rw [IntKind.wrap_i64]; omega
          have hwv : IntKind.i64.wrap (v0 + (j : Int)) = v0 + j := by rw [IntKind.wrap_i64]; omega
          have hkp : decide ((0 : Int) < (k : Int)) = true := decide_eq_true (by omega)
          have hkp2 : decide (0 < k) = true := decide_eq_true (by omega)
          clear hk0 hv00 hv1
          go_upto_region 30 with fail
          obtain ⟨w9, hw9⟩ : ∃ w9, wr.alloc (.cells #[.int .i64 (v0 + j), .int .i64 sN, .int .i64 (k - sN)] 52) = w9 := ⟨_, rfl⟩
          have b9 : Below wr.heap.size wr w9 := hw9 ▸ below_alloc (Below.refl _ _) _
          have r9 : RowAt 52 wr.heap.size [.int .i64 (v0 + j), .int .i64 sN, .int .i64 (k - sN)] w9 := hw9 ▸ RowAt.new _ _ wr
          have z0 := r9.cell (k := 0) (by simp)
          have z1 := r9.cell (k := 1) (by simp)
          have z2 := r9.cell (k := 2) (by simp)
          simp only [List.getElem_cons_zero, List.getElem_cons_succ] at z0 z1 z2
          have x9 := cell_below b9 hx'
          have BZ := Lib.hid (below_trans BR.out b9)
          rw [hw9]
          clear b9 r9 hw9
          go_quiet (fail)
          go_wp2_with fail
          go_roundw
          case rel => exact ⟨j + 1, by go_num, by omega, below_drew BZ.out _⟩
          case measure => simp only [intOf]; omega
    · have t1 : decide (k < xs.length) = true := decide_eq_true h1
      have t2 : decide ((k : Int) < 20) = false := decide_eq_false (by omega)
      clear h1 h2
      go_wp2_with fail
      go_quiet (fail)
      go_wp2_with fail
      go_loopw [18] (fun i wr => ∃ (j : Nat), i = .int .i64 j ∧ j ≤ M ∧ Below wo.heap.size wo wr) (fun i _ => M - (intOf i).toNat)
      case atStart => exact ⟨0, rfl, Nat.zero_le _, below_drew (Below.refl _ _) _⟩
      case round =>
        obtain ⟨j, rfl, hj, hbr⟩ := hrel
        have BR := Lib.hid hbr
        have c0' := cell_below hbr c0
        have c1' := cell_below hbr c1
        have m3' := cell_below hbr m3
        clear hbr c0 c1 m3 m0 g0
        have BW := Lib.hid (below_trans B.out BR.out)
        by_cases hjm : j < M
        case neg =>
          have H := Lib.hid (mayP_n p p.length (profS p fn p[fn] v0 k sN) p.length (some ad) (some ⟨g, off, none⟩) cp d wr (HLW.out.below BW.out) (RPW.out.below BW.out) (OwnPr.below O.out BR.out).reads.2 rfl (profS_len _ _ _ _ _ _) (profS_may HV.out hfl V1.out.1 V1.out.2 hk2 hsk))
          have hje : j = M := by omega
          have t9 : decide (j < M) = false := decide_eq_false hjm
          clear hjm hje
          go_wp2_with fail
          (with_reducible refine H.out.mono ?_)
          rintro e w9 ⟨rfl, hB⟩
          go_wp2_with fail
          go_ret
          exact ⟨rfl, below_trans BW.out hB⟩
        have t9 : decide (j < M) = true := decide_eq_true hjm
        have hja : j < (fprS p[fn] v0 k sN).args.length := by rw [HAL.out]; exact hjm
        obtain ⟨aa, eB, q0, q1, q2⟩ := RA.out.at_ BR.out hja
        subst eB
        simp only [show (fprS p[fn] v0 k sN).args[j] = argS v0 k sN j by simp [fprS]] at q0 q1 q2
        clear hja
        by_cases hk0 : k = 0
        · subst hk0
          obtain rfl : sN = 0 := by omega
          replace q0 : wr.cell? (aa.add (j * 3)) = some (.int .i64 0) := q0
          replace q1 : wr.cell? ⟨(aa.add (j * 3)).block, (aa.add (j * 3)).off + 1, none⟩ = some (.int .i64 0) := q1
          replace q2 : wr.cell? ⟨(aa.add (j * 3)).block, (aa.add (j * 3)).off + 2, none⟩ = some (.int .i64 0) := q2
          go_upto_region 30 with fail
          obtain ⟨w9, hw9⟩ : ∃ w9, wr.alloc (.cells #[.int .i64 0, .int .i64 0, .int .i64 0] 52) = w9 := ⟨_, rfl⟩
          have b9 : Below wr.heap.size wr w9 := hw9 ▸ below_alloc (Below.refl _ _) _
          have r9 : RowAt 52 wr.heap.size [.int .i64 0, .int .i64 0, .int .i64 0] w9 := hw9 ▸ RowAt.new _ _ wr
          have z0 := r9.cell (k := 0) (by simp)
          have z1 := r9.cell (k := 1) (by simp)
          have z2 := r9.cell (k := 2) (by simp)
          simp only [List.getElem_cons_zero, List.getElem_cons_succ] at z0 z1 z2
          skip
          have BZ := Lib.hid (below_trans BR.out b9)
          rw [hw9]
          clear b9 r9 hw9
          go_quiet (fail)
          go_wp2_with fail
          go_roundw
          case rel => exact ⟨j + 1, by go_num, by omega, below_drew BZ.out _⟩
          case measure => simp only [intOf]; omega
        · have e3 : argS v0 k sN j = ⟨v0 + j, sN, (k : Int) - sN⟩ := by unfold argS; rw [if_neg hk0]
          rw [e3] at q0 q1 q2
          simp only at q0 q1 q2
          clear e3
          have hx0 : 0 < xs.length := by omega
          obtain ⟨ax, eX, hx'⟩ := (RXW.out.below BW.out).at_ hx0
          subst eX
          rw [add_nil] at hx'
          have hv00 : v0 = xs[0] % 4 := by rw [V0.out]; cases xs with | nil => cases hx0 | cons x xs => rfl
          have hb0 : bits .and .i64 xs[0] 3 = v0 := (i64_m3 _).trans hv00.symm
          have hv1 := V1.out
          have hws : IntKind.i64.wrap ((k : Int) - sN) = k - sN := by rw [IntKind.wrap_i64]; omega
          have hwv : IntKind.i64.wrap (v0 + (j : Int)) = v0 + j := by rw [IntKind.wrap_i64]; omega
          have hkp : decide ((0 : Int) < (k : Int)) = true := decide_eq_true (by omega)
          have hkp2 : decide (0 < k) = true := decide_eq_true (by omega)
          clear hk0 hv00 hv1
          go_upto_region 30 with fail
          obtain ⟨w9, hw9⟩ : ∃ w9, wr.alloc (.cells #[.int .i64 (v0 + j), .int .i64 sN, .int .i64 (k - sN)] 52) = w9 := ⟨_, rfl⟩
          have b9 : Below wr.heap.size wr w9 := hw9 ▸ below_alloc (Below.refl _ _) _
          have r9 : RowAt 52 wr.heap.size [.int .i64 (v0 + j), .int .i64 sN, .int .i64 (k - sN)] w9 := hw9 ▸ RowAt.new _ _ wr
          have z0 := r9.cell (k := 0) (by simp)
          have z1 := r9.cell (k := 1) (by simp)
          have z2 := r9.cell (k := 2) (by simp)
          simp only [List.getElem_cons_zero, List.getElem_cons_succ] at z0 z1 z2
          have x9 := cell_below b9 hx'
          have BZ := Lib.hid (below_trans BR.out b9)
          rw [hw9]
          clear b9 r9 hw9
          go_quiet (fail)
          go_wp2_with fail
          go_roundw
          case rel => exact ⟨j + 1, by go_num, by omega, below_drew BZ.out _⟩
          case measure => simp only [intOf]; omega
theorem profCounts_law (Ap : Option Addr) (cp : Nat) (p : List Fn) (n : Int) (A2 : Option Addr) (c2 : Nat) (xs : List Int) (W : World) (hl : Laid W) (hp : ReadsF W Ap p) (_hz : Fits p) (hx : ReadsI W A2 xs) : Calls Tryd.prog 4 #[.agg #[.slice Ap p.length cp], .int .i64 n, .slice A2 xs.length c2] W (Ret (.bool true) W) :=
  profCounts_yes Ap A2 cp c2 p n xs W hl hp hx
end Go.Proofs.YtpfgklkdldkajaaDoor

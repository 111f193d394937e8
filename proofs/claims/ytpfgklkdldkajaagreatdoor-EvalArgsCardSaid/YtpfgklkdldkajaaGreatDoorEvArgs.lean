/- EvalArgs: the walk. An argument that is never loaded turns nothing. Conditions: errors.errorType is laid; the program, the args lie in memory. -/
import Derived.Test.YtpfgklkdldkajaaGreatDoorEvArgsLaw
import Derived.Test.YtpfgklkdldkajaaGreatDoorGZ26
import Derived.Test.YtpfgklkdldkajaaGreatDoorGZ29
import Derived.Test.YtpfgklkdldkajaaGreatDoorGZ09
namespace Go.Proofs.YtpfgklkdldkajaaGreatDoor
open Go.RowKit

/-- Is a local loaded in the first instructions? -/
def readTo (p : List Fn) (i q : Nat) : Bool := match p[0]? with | some f => (f.code.take q).any fun x => decide (x = ⟨1, (i : Int)⟩) | none => false
theorem readTo_zero (p : List Fn) (i : Nat) : readTo p i 0 = false := by unfold readTo; cases p[0]? <;> simp
theorem readTo_next {p : List Fn} {i q : Nat} (h0 : 0 < p.length) (h : q < p[0].code.length) : readTo p i (q + 1) = (readTo p i q || eqIns p[0].code[q] ⟨1, (i : Int)⟩) := by
  unfold readTo
  rw [List.getElem?_eq_getElem h0]
  simp only [List.take_add_one, List.getElem?_eq_getElem h, Option.toList_some, List.any_append, List.any_cons, List.any_nil, Bool.or_false]
  congr 1
  unfold eqIns
  rw [Bool.eq_iff_iff]
  simp only [decide_eq_true_eq, Bool.and_eq_true, beq_iff_eq]
  cases p[0].code[q] with
  | mk k a => simp
theorem readTo_all {p : List Fn} {i : Nat} (h0 : 0 < p.length) : readTo p i p[0].code.length = readB p i := by
  unfold readTo readB
  rw [List.getElem?_eq_getElem h0]
  simp only [List.take_length]
/-- Args that are as they were where they are loaded, and numbers where they are not. -/
structure ArgsR (p : List Fn) (xs ys : List Int) : Prop where
  len : ys.length = xs.length
  val : ∀ i (h : i < ys.length) (h' : i < xs.length), ys[i] = xs[i] ∨ (readB p i = false ∧ isNum ys[i] = true)
theorem ArgsR.set {p : List Fn} {xs ys : List Int} (h : ArgsR p xs ys) {j : Nat} (hr : readB p j = false) {v : Int} (hv : isNum v = true) : ArgsR p xs (ys.set j v) :=
  ⟨by rw [List.length_set]; exact h.len, fun i hi hi' => by
    rw [List.getElem_set]
    split
    · rename_i e; subst e; exact .inr ⟨hr, hv⟩
    · exact h.val i (by simpa using hi) hi'⟩
theorem args_law2 {p : List Fn} {xs ys : List Int} {m : Int} (h : ArgsR p xs ys) : evalC p xs m = 800 ∨ (evalC p xs m = 0 ∧ evalC p ys m = 0 ∧ evalR p xs m = evalR p ys m) := by
  refine args_law h.len (fun hn => ?_) (fun i hi hi' hr => ?_)
  · rw [List.all_eq_true] at hn ⊢
    intro y hy
    obtain ⟨i, hi, rfl⟩ := List.mem_iff_getElem.1 hy
    rcases h.val i hi (by have := h.len; omega) with e | ⟨_, e⟩
    · rw [e]; exact hn _ (List.getElem_mem _)
    · exact e
  · rcases h.val i hi' hi with e | ⟨e, _⟩
    · exact e
    · rw [hr] at e; cases e
set_option maxRecDepth 100000 in
set_option maxHeartbeats 8000000 in
theorem evalArgs_yes (A : Option Addr) (c : Nat) (p : List Fn) (A2 : Option Addr) (c2 : Nat) (args : List Int) (fuel other : Int) (W : World) (hl : Laid W) (hr : ReadsF W A p) (_hz : Fits p) (ha : ReadsI W A2 args ∧ args.length * 8 ≤ 140737488351232) :
    Calls Tryz.prog 10 #[.agg #[.slice A p.length c], .slice A2 args.length c2, .int .i64 fuel, .int .i64 other] W (Ret (.bool true) W) := by
  obtain ⟨ha, hz8⟩ := ha
  obtain ⟨w1, hw1⟩ : ∃ w1, W.alloc (.cells #[.slice A p.length c] 24) = w1 := ⟨_, rfl⟩
  have b1 : Below W.heap.size W w1 := hw1 ▸ below_alloc (Below.refl _ _) _
  have P := Lib.hid (hw1 ▸ RowAt.new _ _ W : RowAt 24 W.heap.size [.slice A p.length c] w1)
  have HA := Lib.hid (awake8_any w1 (hl.below b1))
  have RF := Lib.hid (hr.below b1)
  have RA := Lib.hid (ha.below b1)
  have BB := Lib.hid b1
  have HL := Lib.hid hl
  have hn1 := hr.1
  have hn2 := ha.1
  clear hl hr ha b1
  go_enter Tryz.func10, Tryz.ntmps10
  go_wp2_with fail
  (with_reducible refine HA.out.mono ?_)
  rintro e w2 ⟨rfl, hB2⟩
  replace P := Lib.hid (P.out.below hB2)
  replace RF := Lib.hid (RF.out.below hB2)
  replace RA := Lib.hid (RA.out.below hB2)
  replace BB := Lib.hid (below_trans BB.out hB2)
  clear hB2 hw1 HA
  have p0 := row_cell P.out
  have HV := Lib.hid (rverify_any p A c w2 RF.out)
  obtain ⟨vf, hvf⟩ : ∃ vf, verifyOf p = vf := ⟨_, rfl⟩
  rw [hvf] at HV
  go_wp2_with fail
  (with_reducible refine HV.out.mono ?_)
  rintro e w3 ⟨rfl, hB3⟩
  replace P := Lib.hid (P.out.below hB3)
  replace RF := Lib.hid (RF.out.below hB3)
  replace RA := Lib.hid (RA.out.below hB3)
  replace BB := Lib.hid (below_trans BB.out hB3)
  clear hB3 HV p0
  by_cases hv : vf = 0
  case neg =>
    have dv : (vf != 0) = true := by simpa using hv
    go_wp2_with fail
    go_ret
    exact ⟨rfl, BB.out⟩
  subst hv
  have hp1 : 0 < p.length := (packs_len (verifyOf_packs hvf)).1
  have hm64 : p[0].code.length ≤ 64 := (codeMay_len (fnMay_of (packs_fn (verifyOf_packs hvf) hp1)).2.2.2.2).2
  have p0 := row_cell P.out
  have dl : decide (p.length < 1) = false := decide_eq_false (by omega)
  have dl2 : decide ((p.length : Int) < 1) = false := decide_eq_false (by omega)
  have h0p : (0 : Int) < p.length := by omega
  obtain ⟨ao, cap, w4, hrun4, hc4, hb4⟩ := append_copy (c := c2) RA.out hz8
  have q0 := row_cell (P.out.below hb4)
  obtain ⟨ad, eA, Ac, cc, hF⟩ := fnAt_of RF.out (Below.refl _ _) hp1
  subst eA
  have RC := Lib.hid hF.r
  have hF4 := hF.below hb4
  have k0 := hF4.c0
  have k1 := hF4.c1
  have k2 := hF4.c2
  simp only [Nat.zero_mul, add_nil] at k0 k1 k2
  obtain ⟨w5, hw5⟩ : ∃ w5, w4.alloc (.cells #[.int .i64 p[0].args, .int .i64 p[0].locals, .slice Ac p[0].code.length cc] 86) = w5 := ⟨_, rfl⟩
  have b5 : Below w4.heap.size w4 w5 := hw5 ▸ below_alloc (Below.refl _ _) _
  have F5 := Lib.hid (hw5 ▸ RowAt.new _ _ w4 : RowAt 86 w4.heap.size [.int .i64 p[0].args, .int .i64 p[0].locals, .slice Ac p[0].code.length cc] w5)
  have B35 := Lib.hid (below_trans hb4 b5)
  have HC5 := Lib.hid (hc4.below b5)
  have Z45 := Lib.hid (And.intro hb4.size (blk_lt F5.out))
  have GLT := Lib.hid (show ∀ b, ob (.slice ao args.length cap) = some b → b < w4.heap.size from fun b hb => (hc4.in_ b hb).2)
  have HM64 := Lib.hid hm64
  clear hF hF4 b5 hc4 hb4 hvf
  go_wp2_with (first | (at_builtin; refine wpList_append_run _ rfl _ _ _ _ rfl _ _ _ _ rfl rfl hrun4 ?_) | fail)
  clear hw5 hrun4 p0 q0 k0 k1 k2 dl dl2 h0p
  go_loopw [11] (fun i wr => ∃ (j : Nat) (ys : List Int), i = .int .i64 j ∧ j ≤ args.length ∧ ArgsR p args ys ∧ CRow wr w3.heap.size 3 1 (.slice ao args.length cap) args.length (intsV ys) ∧ RowAt 86 w4.heap.size [.int .i64 p[0].args, .int .i64 p[0].locals, .slice Ac p[0].code.length cc] wr ∧ Below w3.heap.size w3 wr) (fun i _ => args.length - (intOf i).toNat)
  case atStart => exact ⟨0, args, rfl, Nat.zero_le _, ⟨rfl, fun _ _ _ => .inl rfl⟩, HC5.out, F5.out, B35.out⟩
  case round =>
    obtain ⟨j, ys, rfl, hj, har, hc, hF5, hb⟩ := hrel
    have HAR := Lib.hid har
    have HC := Lib.hid hc
    have HF5 := Lib.hid hF5
    have HB := Lib.hid hb
    clear F5 HC5 B35 har hc hF5 hb
    obtain ⟨wo, rfl⟩ : ∃ wo, wo = wr := ⟨_, rfl⟩
    by_cases hlt : j < args.length
    case neg =>
      have hke : j = args.length := by omega
      obtain ⟨k, hk, k0, k1⟩ : ∃ k : Int, bits .and .i64 fuel 4095 = k ∧ 0 ≤ k ∧ k ≤ 4095 := ⟨fuel % 4096, i64_m4095 _, by omega, by omega⟩
      have LAW := Lib.hid (args_law2 (m := k) HAR.out)
      have P2 := Lib.hid (P.out.below HB.out)
      have RF2 := Lib.hid (RF.out.below HB.out)
      have RA2 := Lib.hid (RA.out.below HB.out)
      have RY := Lib.hid (show ReadsI wo ao ys from CRow.ints HC.out)
      have BB2 := Lib.hid (below_trans BB.out HB.out)
      have p0 := row_cell P2.out
      obtain ⟨R1, hR1⟩ : ∃ R1, evalR p args k = R1 := ⟨_, rfl⟩
      obtain ⟨C1, hC1⟩ : ∃ C1, evalC p args k = C1 := ⟨_, rfl⟩
      obtain ⟨R2, hR2⟩ : ∃ R2, evalR p ys k = R2 := ⟨_, rfl⟩
      obtain ⟨C2, hC2⟩ : ∃ C2, evalC p ys k = C2 := ⟨_, rfl⟩
      have H1 := Lib.hid (eval_n (fuel := k) (cp := c) (c := c2) (HL.out.below BB2.out) RF2.out RA2.out rfl rfl hR1 hC1 rfl)
      have HYL := Lib.hid HAR.out.len
      have HR2 := Lib.hid (And.intro hR2 hC2)
      rw [hR1, hC1, hR2, hC2] at LAW
      clear hR1 hC1 hR2 hC2 k0 k1 hke
      go_wp2_with fail
      (with_reducible refine H1.out.mono ?_)
      rintro e w6 ⟨A6, c6, rfl, hc6, hR6, hB6⟩
      obtain ⟨w7, hw7⟩ : ∃ w7, w6.alloc (.cells #[.int .i64 R1.done, .int .i64 R1.value, .slice A6 R1.out.length c6, .int .i64 R1.fuel] 74) = w7 := ⟨_, rfl⟩
      have b7 : Below w6.heap.size w6 w7 := hw7 ▸ below_alloc (Below.refl _ _) _
      have b67 := below_trans hB6 b7
      have X := Lib.hid (hw7 ▸ RowAt.new _ _ w6 : RowAt 74 w6.heap.size [.int .i64 R1.done, .int .i64 R1.value, .slice A6 R1.out.length c6, .int .i64 R1.fuel] w7)
      have RO := Lib.hid (hR6.below b7)
      replace P2 := Lib.hid (P2.out.below b67)
      replace RF2 := Lib.hid (RF2.out.below b67)
      replace RY := Lib.hid (RY.out.below b67)
      replace BB2 := Lib.hid (below_trans BB2.out b67)
      have H2 := Lib.hid (eval_n (fuel := k) (cp := c) (c := cap) (HL.out.below BB2.out) RF2.out RY.out rfl HYL.out HR2.out.1 HR2.out.2 rfl)
      clear hc6 hR6 hB6 b7 b67 H1 p0
      have p0 := row_cell P2.out
      go_wp2_with fail
      (with_reducible refine H2.out.mono ?_)
      rintro e w8 ⟨A8, c8, rfl, hc8, hR8, hB8⟩
      obtain ⟨w9, hw9⟩ : ∃ w9, w8.alloc (.cells #[.int .i64 R2.done, .int .i64 R2.value, .slice A8 R2.out.length c8, .int .i64 R2.fuel] 74) = w9 := ⟨_, rfl⟩
      have b9 : Below w8.heap.size w8 w9 := hw9 ▸ below_alloc (Below.refl _ _) _
      have b89 := below_trans hB8 b9
      have Y := Lib.hid (hw9 ▸ RowAt.new _ _ w8 : RowAt 74 w8.heap.size [.int .i64 R2.done, .int .i64 R2.value, .slice A8 R2.out.length c8, .int .i64 R2.fuel] w9)
      replace X := Lib.hid (X.out.below b89)
      replace RO := Lib.hid (RO.out.below b89)
      have RO2 := Lib.hid (hR8.below b9)
      replace BB2 := Lib.hid (below_trans BB2.out b89)
      have HNUM := Lib.hid (fun (n : Int) (W : World) => numL_any n W)
      clear hw7 hc8 hR8 hB8 b9 b89 H2 p0
      rcases LAW.out with e1 | ⟨e1, e2, e3⟩
      · subst e1
        go_wp2_with (first | (go_at_call 19; (with_reducible refine (HNUM.out _ _).mono ?_); rintro e wn ⟨rfl, rfl⟩) | fail)
        go_ret
        exact ⟨rfl, BB2.out⟩
      · subst e1 e2 e3
        have x0 := X.out.cell (k := 0) (by simp)
        have x1 := X.out.cell (k := 1) (by simp)
        have x2 := X.out.cell (k := 2) (by simp)
        have x3 := X.out.cell (k := 3) (by simp)
        have y0 := Y.out.cell (k := 0) (by simp)
        have y1 := Y.out.cell (k := 1) (by simp)
        have y2 := Y.out.cell (k := 2) (by simp)
        have y3 := Y.out.cell (k := 3) (by simp)
        simp only [List.getElem_cons_zero, List.getElem_cons_succ] at x0 x1 x2 x3 y0 y1 y2 y3
        have HS := Lib.hid (same_n (c := c6) (d := c8) (b := true) RO.out RO2.out rfl rfl (by simp))
        go_wp2_with (first | (go_at_call 19; (with_reducible refine (HNUM.out _ _).mono ?_); rintro e wn ⟨rfl, rfl⟩) | (go_at_call 40; (with_reducible refine HS.out.mono ?_); rintro e wa ⟨rfl, hBa⟩; have HBA := Lib.hid hBa; clear hBa) | fail)
        go_ret
        exact ⟨rfl, below_trans BB2.out HBA.out⟩
    have HJ := Lib.hid hlt
    go_wp2_with fail
    go_loopw [12, 13] (fun r i wi => ∃ q : Nat, q ≤ p[0].code.length ∧ r = .bool (readTo p j q) ∧ i = .int .i64 q ∧ wi = wo) (fun _ i _ => p[0].code.length - (intOf i).toNat)
    case atStart => exact ⟨0, Nat.zero_le _, by rw [readTo_zero], rfl, rfl⟩
    case round =>
      obtain ⟨q, hq, rfl, rfl, ew⟩ := hrel
      have ew2 := ew.symm
      clear ew
      subst ew2
      have f2 := HF5.out.cell (k := 2) (by simp)
      simp only [List.getElem_cons_zero, List.getElem_cons_succ] at f2
      by_cases hq2 : q < p[0].code.length
      · obtain ⟨Ad, rfl, c0, c1⟩ := (RC.out.below HB.out).at_ (Below.refl _ _) hq2
        have heq := fun (W : World) => eql_of (fun d => eqrIns d W p[0].code[q] ⟨1, (j : Int)⟩)
        have HNX := Lib.hid (readTo_next (i := j) hp1 hq2)
        obtain ⟨bq, hbq⟩ : ∃ bq, eqIns p[0].code[q] ⟨1, (j : Int)⟩ = bq := ⟨_, rfl⟩
        rw [hbq] at HNX
        simp only [hbq] at heq
        have e5 : wrap64 ((q : Int) + 1) = (q : Int) + 1 := by have := HM64.out; unfold wrap64; omega
        clear hbq
        cases hrt : readTo p j q with
        | true =>
          rw [hrt] at HNX
          clear hrt
          go_wp2_with fail
          go_roundw
          case rel => exact ⟨q + 1, hq2, by rw [HNX.out]; rfl, (by first | rfl | (rw [e5]; rfl)), (by first | rfl | trivial)⟩
          case measure =>
            try rw [e5]
            show p[0].code.length - ((q : Int) + 1).toNat < p[0].code.length - (q : Int).toNat
            omega
        | false =>
          rw [hrt] at HNX
          clear hrt
          go_wp2_with fail
          go_roundw
          case rel => exact ⟨q + 1, hq2, by rw [HNX.out]; rfl, (by first | rfl | (rw [e5]; rfl)), (by first | rfl | trivial)⟩
          case measure =>
            try rw [e5]
            show p[0].code.length - ((q : Int) + 1).toNat < p[0].code.length - (q : Int).toNat
            omega
      · obtain rfl : q = p[0].code.length := by omega
        rw [readTo_all hp1]
        have e5 : wrap64 ((j : Int) + 1) = (j : Int) + 1 := by have := HJ.out; unfold wrap64; omega
        cases hrb : readB p j with
        | true =>
          clear hrb
          go_wp2_with fail
          go_roundw
          case rel => exact ⟨j + 1, ys, (by first | rfl | (rw [e5]; rfl)), HJ.out, HAR.out, HC.out, HF5.out, HB.out⟩
          case measure =>
            try rw [e5]
            show args.length - ((j : Int) + 1).toNat < args.length - (j : Int).toNat
            have := HJ.out; omega
        | false =>
          obtain ⟨g, off, rfl, hg, hob, c0, z0⟩ := ints_atF HC.out (j := j) (by have := HAR.out.len; have := HJ.out; omega)
          have HWW := Lib.hid (fun (W : World) => refWrapN_any (wrap64 (other + j)) W)
          obtain ⟨v, hv⟩ : ∃ v, wrapN (wrap64 (other + j)) = v := ⟨_, rfl⟩
          have hvn : isNum v = true := by rw [← hv]; exact wrapN_num _
          rw [hv] at HWW
          have hset := ints_setF HC.out (j := j) (by have := HAR.out.len; have := HJ.out; omega) v
          have kc : Chg (fun b => b = g) wo (wo.setCell ⟨g, off + j, none⟩ (.int .i64 v)) := Chg.put (S := fun b => b = g) (Chg.refl _ wo) (a := ⟨g, off + j, none⟩) rfl _
          have HN := Lib.hid (show ArgsR p args (ys.set j v) ∧ CRow (wo.setCell ⟨g, off + j, none⟩ (.int .i64 v)) w3.heap.size 3 1 (.slice (some ⟨g, off, none⟩) args.length cap) args.length (intsV (ys.set j v)) ∧ RowAt 86 w4.heap.size [.int .i64 p[0].args, .int .i64 p[0].locals, .slice Ac p[0].code.length cc] (wo.setCell ⟨g, off + j, none⟩ (.int .i64 v)) ∧ Below w3.heap.size w3 (wo.setCell ⟨g, off + j, none⟩ (.int .i64 v)) from
            ⟨HAR.out.set hrb hvn, hset, HF5.out.chg kc (fun e => by have := GLT.out g hob; omega), Chg.below HB.out kc (fun b e => by omega)⟩)
          clear hrb hv hvn hset kc hg hob
          go_wp2_with (first | (go_at_call 44; (with_reducible refine (HWW.out _).mono ?_); rintro e wn ⟨rfl, ew⟩; subst wn) | fail)
          go_roundw
          case rel => exact ⟨j + 1, _, (by first | rfl | (rw [e5]; rfl)), HJ.out, HN.out.1, HN.out.2.1, HN.out.2.2.1, HN.out.2.2.2⟩
          case measure =>
            try rw [e5]
            show args.length - ((j : Int) + 1).toNat < args.length - (j : Int).toNat
            have := HJ.out; omega
end Go.Proofs.YtpfgklkdldkajaaGreatDoor

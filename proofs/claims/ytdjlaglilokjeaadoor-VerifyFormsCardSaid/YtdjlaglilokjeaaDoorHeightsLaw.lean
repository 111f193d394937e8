/- The law VerifyHeights, walked: heights rise to their number, and fall; more than may be are refused. Condition: errors.errorType is laid. -/
import Derived.Test.YtdjlaglilokjeaaDoorVerifies
import Derived.Laws.Bits64b
namespace Go.Proofs.YtdjlaglilokjeaaDoor
open Go.RowKit

theorem i64_andp (n p : Int) (q : Nat) (hp : (BitVec.ofInt 64 p).toNat = 2 ^ q - 1) (hq : q < 60) : bits .and .i64 n p = n % 2 ^ q := by
  have key : (BitVec.ofInt 64 n &&& BitVec.ofInt 64 p).toNat = (n % ((2 ^ 64 : Nat) : Int)).toNat % 2 ^ q := by
    rw [BitVec.toNat_and, BitVec.toNat_ofInt, hp, Nat.and_two_pow_sub_one_eq_mod]
  have hd : (2 ^ 64 : Int) = 2 ^ q * 2 ^ (64 - q) := by rw [← Int.pow_add]; congr 1; omega
  have h2 : ((2 ^ q : Nat) : Int) = (2 : Int) ^ q := by simp
  have h0 : 0 ≤ n % ((2 ^ 64 : Nat) : Int) := Int.emod_nonneg _ (by decide)
  have e : (((n % ((2 ^ 64 : Nat) : Int)).toNat % 2 ^ q : Nat) : Int) = n % 2 ^ q := by
    rw [Int.natCast_emod, Int.toNat_of_nonneg h0, h2, Int.emod_emod_of_dvd n (show (2 : Int) ^ q ∣ ((2 ^ 64 : Nat) : Int) from ⟨2 ^ (64 - q), hd⟩)]
  have hb : n % 2 ^ q < 2 ^ q := Int.emod_lt_of_pos _ (Int.pow_pos (by decide))
  have hb0 : 0 ≤ n % (2 : Int) ^ q := Int.emod_nonneg _ (Int.pow_ne_zero (by decide))
  have hl : (2 : Int) ^ q ≤ 2 ^ 60 := by
    have := Nat.pow_le_pow_right (n := 2) (by decide) (show q ≤ 60 by omega)
    rw [← h2]; exact_mod_cast this
  show IntKind.i64.wrap ((BitVec.ofInt 64 n &&& BitVec.ofInt 64 p).toNat : Nat) = n % 2 ^ q
  rw [key, e, IntKind.wrap_i64]
  omega
theorem i64_and15 (n : Int) : bits .and .i64 n 15 = n % 16 := i64_andp n 15 4 (by decide) (by decide)
theorem i64_and7 (n : Int) : bits .and .i64 n 7 = n % 8 := i64_andp n 7 3 (by decide) (by decide)

theorem wrap64_id {n : Int} (h0 : -9223372036854775808 ≤ n) (h1 : n ≤ 9223372036854775807) : wrap64 n = n := by unfold wrap64; omega

def riseC (k : Nat) : List Ins := (List.range k).map fun j : Nat => ⟨0, (j : Int)⟩
def riseW (k : Nat) : List Int := (List.range k).map fun j : Nat => (j : Int)
def fallC (n : Nat) : List Ins := List.replicate n ⟨3, 0⟩
/-- m, m - 1, .., so many of them. -/
def fallW (k n : Nat) : List Int := (List.range n).map fun j : Nat => (k : Int) - (j : Int)
def hillC (k : Nat) : List Ins := riseC k ++ fallC (k - 1) ++ [⟨16, 0⟩]
def hillW (k : Nat) : List Int := riseW k ++ fallW k (k - 1) ++ [1]
theorem hill (k : Nat) (h1 : 1 ≤ k) (h16 : k ≤ 16) : heightsOf [⟨0, 0, hillC k⟩] 0 = if 8 < k then ([], 8, 502) else (hillW k, 0, 0) := by
  obtain rfl | rfl | rfl | rfl | rfl | rfl | rfl | rfl | rfl | rfl | rfl | rfl | rfl | rfl | rfl | rfl : k = 1 ∨ k = 2 ∨ k = 3 ∨ k = 4 ∨ k = 5 ∨ k = 6 ∨ k = 7 ∨ k = 8 ∨ k = 9 ∨ k = 10 ∨ k = 11 ∨ k = 12 ∨ k = 13 ∨ k = 14 ∨ k = 15 ∨ k = 16 := by omega
  all_goals kernel_rfl
theorem insV_app (xs ys : List Ins) : insV (xs ++ ys) = insV xs ++ insV ys := by simp [insV]
theorem intsV_app (xs ys : List Int) : intsV (xs ++ ys) = intsV xs ++ intsV ys := by simp [intsV]
/-- 'append' of an instruction to code of the call's own. -/
theorem wpList_app_ins {ops : Array Oper} {rest : List Oper} {o : Oper} {a : Act} {Q : Exit → Act → World → Prop} (w : World) (hg : o.guard = none) (s x : Operand)
    (hop : o.op = Op.call { callee := Callee.builtin Builtin.append, args := #[s, x], argTypes := #[40, 40] }) (base : Nat) (v : Value) (n : Nat) (xs : List Ins) (hs : a.eval s = v) (hq : ORow w base 44 2 v n (insV xs)) (hbase : base ≤ w.heap.size)
    (A : Option Addr) (m c : Nat) (news : List Ins) (hx : a.eval x = .slice A m c) (hm : news.length = m) (hr : ReadsC w A news) (hlen : (n + m) * 16 ≤ 140737488355328)
    (h : ∀ v' w', Grown w base 44 2 v (n + m) (insV (xs ++ news)) v' w' → wpList Tryd.prog ops Q rest (a.put o.dst v') w') : wpList Tryd.prog ops Q (o :: rest) a w := by
  obtain ⟨i, hi, hz, hsz, hby⟩ := info_parts info_ins
  subst hm
  refine wpList_append_row w hg s x _ _ _ hop i _ 2 16 Tryd.underlying40 hi hz hsz hby rfl base v n (insV xs) hs hq hbase _ news.length (insV news) hx (code_src Tryd.underlying40 hr) hlen (by unfold maxLen; omega) (fun v' w' hG => h v' w' ?_)
  rwa [insV_app]
theorem int_new (x : Int) (w : World) : ReadsI (w.alloc (.cells #[.int .i64 x] 3)) (some ⟨w.heap.size, 0, none⟩) [x] := ints_reads (vs := []) (RowAt.new 3 (intsV [x]) w) (by simp)
theorem ins_new (x : Ins) (w : World) : ReadsC (w.alloc (.cells #[.int .i64 x.kind, .int .i64 x.a] 44)) (some ⟨w.heap.size, 0, none⟩) [x] := code_new [x] w (by simp)
/-- Two rows of the call's own, apart: code and ints. -/
structure Duo (w : World) (base : Nat) (v u : Value) (code : List Ins) (xs : List Int) : Prop where
  a : ORow w base 44 2 v code.length (insV code)
  b : ORow w base 3 1 u xs.length (intsV xs)
  d : ∀ k, v.ownBlock = some k → Apart u k
theorem Duo.below {w w1 : World} {base : Nat} {v u : Value} {code : List Ins} {xs : List Int} (h : Duo w base v u code xs) (hb : Below w.heap.size w w1) : Duo w1 base v u code xs := ⟨h.a.below hb, h.b.below hb, h.d⟩
theorem Duo.growA {w w1 : World} {base : Nat} {v u v' : Value} {code : List Ins} {xs : List Int} {x : Ins} (h : Duo w base v u code xs) (hG : Grown w base 44 2 v (code.length + 1) (insV (code ++ [x])) v' w1) : Duo w1 base v' u (code ++ [x]) xs := by
  refine ⟨by rw [List.length_append]; exact hG.row, h.b.grown hG.kept ?_, fun k hk e => ?_⟩
  · rcases he : u.ownBlock with _ | b
    · exact .inl rfl
    · exact .inr fun e => h.d b e.symm he
  · have hl := h.b.in_ k e
    exact hG.apart hl.2 (fun e' => h.d k e' e) hk
theorem Duo.growB {w w1 : World} {base : Nat} {v u u' : Value} {code : List Ins} {xs : List Int} {x : Int} (h : Duo w base v u code xs) (hG : Grown w base 3 1 u (xs.length + 1) (intsV (xs ++ [x])) u' w1) : Duo w1 base v u' code (xs ++ [x]) := by
  refine ⟨h.a.grown hG.kept ?_, by rw [List.length_append]; exact hG.row, fun k hk => hG.apart (h.a.in_ k hk).2 (h.d k hk)⟩
  rcases he : v.ownBlock with _ | b
  · exact .inl rfl
  · exact .inr fun e => h.d b he e.symm
theorem riseC_succ (k : Nat) : riseC (k + 1) = riseC k ++ [⟨0, (k : Int)⟩] := by simp [riseC, List.range_succ]
theorem riseW_succ (k : Nat) : riseW (k + 1) = riseW k ++ [(k : Int)] := by simp [riseW, List.range_succ]
theorem fallC_succ (k : Nat) : fallC (k + 1) = fallC k ++ [⟨3, 0⟩] := by simp [fallC, List.replicate_succ']
theorem fallW_succ (k n : Nat) : fallW k (n + 1) = fallW k n ++ [(k : Int) - n] := by simp [fallW, List.range_succ]
theorem riseC_len (k : Nat) : (riseC k).length = k := by simp [riseC]
theorem riseW_len (k : Nat) : (riseW k).length = k := by simp [riseW]
theorem fallC_len (k : Nat) : (fallC k).length = k := by simp [fallC]
theorem fallW_len (k n : Nat) : (fallW k n).length = n := by simp [fallW]
set_option maxRecDepth 100000 in
set_option maxHeartbeats 4000000 in
theorem heightsLaw_yes (many : Int) (W : World) (hl : Laid W) : Calls Tryd.prog 6 #[.int .i64 many] W (Ret (.bool true) W) := by
  have HL := Lib.hid hl
  have HA := Lib.hid (awakeV_any W hl)
  obtain ⟨m, hm, m0, m1⟩ : ∃ m : Int, bits .and .i64 many 15 = m ∧ 0 ≤ m ∧ m ≤ 15 := ⟨many % 16, i64_and15 _, by omega, by omega⟩
  obtain ⟨k, hk⟩ : ∃ k : Nat, 1 + m = (k : Int) := ⟨(1 + m).toNat, by omega⟩
  have k1 : 1 ≤ k := by omega
  have k16 : k ≤ 16 := by omega
  clear hl
  go_enter Tryd.func6, Tryd.ntmps6
  go_wp2_with fail
  refine HA.out.mono ?_
  rintro e w1 ⟨rfl, hB⟩
  have B1 := Lib.hid hB
  clear hB
  go_wp2_with fail
  clear hm hk m0 m1
  go_loopw [4, 5, 6] (fun v u i wr => ∃ j : Nat, i = .int .i64 j ∧ j ≤ k ∧ Duo wr W.heap.size v u (riseC j) (riseW j) ∧ Below W.heap.size W wr) (fun _ _ i _ => k - (intOf i).toNat)
  case atStart => exact ⟨0, rfl, Nat.zero_le _, ⟨ORow.nil _ _ _ _, ORow.nil _ _ _ _, fun _ h => by cases h⟩, B1.out⟩
  case round =>
    obtain ⟨j, rfl, hj, hd, hb⟩ := hrel
    have HD := Lib.hid hd
    have HB := Lib.hid hb
    clear hd hb
    by_cases hlt : j < k
    · have b1 := below_alloc (Below.refl wr.heap.size wr) (.cells #[.int .i64 0, .int .i64 j] 44)
      have D1 := Lib.hid (HD.out.below b1)
      have N1 := Lib.hid (ins_new ⟨0, (j : Int)⟩ wr)
      have BB1 := Lib.hid (below_trans HB.out b1)
      have hz := HB.out.size
      have HL1 := Lib.hid (riseC_len j)
      have HL2 := Lib.hid (riseW_len j)
      clear b1
      go_upto_region 10 with (first | (at_builtin; refine wpList_app_ins _ rfl _ _ rfl W.heap.size u4 _ (riseC j) rfl D1.out.a ?c1 _ _ _ [⟨0, (j : Int)⟩] rfl rfl N1.out ?c2 ?_; rotate_left 2; intro v' w3 hG) | fail)
      case c1 => omega
      case c2 => have := HL1.out; omega
      have D2 := D1.out.growA hG
      rw [← riseC_succ] at D2
      have b2 := BB1.out.grown hG.kept (by simp; omega) (fun x hx => D1.out.a.lo x hx)
      have b3 := below_alloc (Below.refl w3.heap.size w3) (.cells #[.int .i64 j] 3)
      have D3 := Lib.hid (D2.below b3)
      have BB3 := Lib.hid (below_trans b2 b3)
      have hz3 := b2.size
      have N3 := Lib.hid (int_new (j : Int) w3)
      clear hG D2 b2 b3
      go_wp2_with (first | (at_builtin; refine wpList_app_int _ rfl _ _ rfl W.heap.size u5 _ (riseW j) rfl D3.out.b ?c3 _ _ _ [(j : Int)] rfl rfl N3.out ?c4 ?_; rotate_left 2; intro u' w5 hG) | fail)
      case c3 => omega
      case c4 => have := HL2.out; omega
      have D5 := D3.out.growB hG
      rw [← riseW_succ] at D5
      have b5 := BB3.out.grown hG.kept (by simp; omega) (fun x hx => D3.out.b.lo x hx)
      have D6 := Lib.hid D5
      have BB6 := Lib.hid b5
      clear hG D5 b5
      go_roundw
      case rel => exact ⟨j + 1, by go_num, by omega, D6.out, BB6.out⟩
      case measure => simp only [intOf]; omega
    · obtain rfl : j = k := by omega
      obtain ⟨w2, rfl⟩ : ∃ w2 : World, w2 = wr := ⟨_, rfl⟩
      go_wp2_with fail
      go_loopw [4, 5, 7] (fun v u i wr => ∃ n : Nat, n + 1 ≤ j ∧ i = .int .i64 ((j : Int) - n) ∧ Duo wr W.heap.size v u (riseC j ++ fallC n) (riseW j ++ fallW j n) ∧ Below W.heap.size W wr) (fun _ _ i _ => (intOf i).toNat)
      case atStart => exact ⟨0, by omega, by simp, by simpa [fallC, fallW] using HD.out, HB.out⟩
      case round =>
        obtain ⟨n, hn, rfl, hd, hb⟩ := hrel
        have HD2 := Lib.hid hd
        have HB2 := Lib.hid hb
        clear hd hb
        by_cases hlt2 : 1 < (j : Int) - n
        · have b1 := below_alloc (Below.refl wr.heap.size wr) (.cells #[.int .i64 3, .int .i64 0] 44)
          have D1 := Lib.hid (HD2.out.below b1)
          have N1 := Lib.hid (ins_new ⟨3, 0⟩ wr)
          have BB1 := Lib.hid (below_trans HB2.out b1)
          have hz := HB2.out.size
          have hsum : j + n ≤ 40 := by omega
          have HL1 := Lib.hid (show (riseC j ++ fallC n).length = j + n by rw [List.length_append, riseC_len, fallC_len])
          have HL2 := Lib.hid (show (riseW j ++ fallW j n).length = j + n by rw [List.length_append, riseW_len, fallW_len])
          clear b1
          go_upto_region 15 with (first | (at_builtin; refine wpList_app_ins _ rfl _ _ rfl W.heap.size u4 _ (riseC j ++ fallC n) rfl D1.out.a ?c1 _ _ _ [⟨3, 0⟩] rfl rfl N1.out ?c2 ?_; rotate_left 2; intro v' w3 hG) | fail)
          case c1 => omega
          case c2 => have := HL1.out; simp only [List.length_append] at *; omega
          have D2 := D1.out.growA hG
          rw [List.append_assoc, ← fallC_succ] at D2
          have b2 := BB1.out.grown hG.kept (by simp; omega) (fun x hx => D1.out.a.lo x hx)
          have b3 := below_alloc (Below.refl w3.heap.size w3) (.cells #[.int .i64 ((j : Int) - n)] 3)
          have D3 := Lib.hid (D2.below b3)
          have BB3 := Lib.hid (below_trans b2 b3)
          have hz3 := b2.size
          have N3 := Lib.hid (int_new ((j : Int) - n) w3)
          clear hG D2 b2 b3
          go_wp2_with (first | (at_builtin; refine wpList_app_int _ rfl _ _ rfl W.heap.size u5 _ (riseW j ++ fallW j n) rfl D3.out.b ?c3 _ _ _ [(j : Int) - n] rfl rfl N3.out ?c4 ?_; rotate_left 2; intro u' w5 hG) | fail)
          case c3 => omega
          case c4 => have := HL2.out; simp only [List.length_append] at *; omega
          have D5 := D3.out.growB hG
          rw [List.append_assoc, ← fallW_succ] at D5
          have b5 := BB3.out.grown hG.kept (by simp; omega) (fun x hx => D3.out.b.lo x hx)
          have D6 := Lib.hid D5
          have BB6 := Lib.hid b5
          clear hG D5 b5
          go_roundw
          case rel => exact ⟨n + 1, by omega, by
            have : (j : Int) - n - 1 = (j : Int) - ((n + 1 : Nat) : Int) := by omega
            rw [this], D6.out, BB6.out⟩
          case measure => simp only [intOf]; omega
        · obtain rfl : n = j - 1 := by omega
          obtain ⟨w3, rfl⟩ : ∃ w3 : World, w3 = wr := ⟨_, rfl⟩
          have b1 := below_alloc (Below.refl w3.heap.size w3) (.cells #[.int .i64 16, .int .i64 0] 44)
          have D1 := Lib.hid (HD2.out.below b1)
          have N1 := Lib.hid (ins_new ⟨16, 0⟩ w3)
          have BB1 := Lib.hid (below_trans HB2.out b1)
          have hz := HB2.out.size
          have HL1 := Lib.hid (show (riseC j ++ fallC (j - 1)).length = j + (j - 1) by rw [List.length_append, riseC_len, fallC_len])
          have HL2 := Lib.hid (show (riseW j ++ fallW j (j - 1)).length = j + (j - 1) by rw [List.length_append, riseW_len, fallW_len])
          have hsum : j + (j - 1) ≤ 40 := by omega
          clear b1
          go_upto_region 17 with (first | (at_builtin; refine wpList_app_ins _ rfl _ _ rfl W.heap.size u4 _ (riseC j ++ fallC (j - 1)) rfl D1.out.a ?c1 _ _ _ [⟨16, 0⟩] rfl rfl N1.out ?c2 ?_; rotate_left 2; intro v' w5 hG) | fail)
          case c1 => omega
          case c2 => have := HL1.out; simp only [List.length_append] at *; omega
          have D2 := D1.out.growA hG
          have b2 := BB1.out.grown hG.kept (by simp; omega) (fun x hx => D1.out.a.lo x hx)
          have b3 := below_alloc (Below.refl w5.heap.size w5) (.cells #[.int .i64 1] 3)
          have D3 := Lib.hid (D2.below b3)
          have BB3 := Lib.hid (below_trans b2 b3)
          have hz3 := b2.size
          have N3 := Lib.hid (int_new 1 w5)
          clear hG D2 b2 b3
          go_upto_region 18 with (first | (at_builtin; refine wpList_app_int _ rfl _ _ rfl W.heap.size u5 _ (riseW j ++ fallW j (j - 1)) rfl D3.out.b ?c3 _ _ _ [1] rfl rfl N3.out ?c4 ?_; rotate_left 2; intro u' w7 hG) | fail)
          case c3 => omega
          case c4 => have := HL2.out; simp only [List.length_append] at *; omega
          have D5 : Duo w7 W.heap.size v' u' (hillC j) (hillW j) := D3.out.growB hG
          have b5 := BB3.out.grown hG.kept (by simp; omega) (fun x hx => D3.out.b.lo x hx)
          have D6 := Lib.hid D5
          have BB6 := Lib.hid b5
          clear hG D5 b5
          obtain ⟨ac, cc, ec, _, _⟩ := D6.out.a.shape
          obtain ⟨aw, cw, ew, _, _⟩ := D6.out.b.shape
          subst ec ew
          have HS := Lib.hid (smallV_any 0 0 ac cc (hillC j) w7 D6.out.a.code.2)
          go_wp2_with fail
          refine HS.out.mono ?_
          rintro e w8 ⟨g8, rfl, hr8, hB8⟩
          have HV := Lib.hid (heightsV_any [⟨0, 0, hillC j⟩] (some ⟨g8, 0, none⟩) 1 0 w8 (HL.out.below (below_trans BB6.out hB8)) hr8)
          rw [hill j (by omega) (by omega)] at HV
          have B8 := Lib.hid (below_trans BB6.out hB8)
          have D8 := Lib.hid (D6.out.below hB8)
          clear hB8 hr8
          by_cases h8 : 8 < j
          · rw [if_pos h8] at HV
            have d8 : decide (8 < (j : Int)) = true := by simp; omega
            go_wp2_with fail
            refine HV.out.mono ?_
            rintro e w9 hE
            obtain ⟨A9, c9, rfl, hrow9, hB9⟩ := hE.reads
            have B9 := Lib.hid (below_trans B8.out hB9)
            clear hE hrow9 hB9
            go_wp2_with (go_at_call 16; refine (num_any _ _).mono ?_; rintro e wn ⟨rfl, rfl⟩)
            go_ret
            exact ⟨rfl, B9.out⟩
          · rw [if_neg h8] at HV
            have d8 : decide (8 < (j : Int)) = false := by simp; omega
            go_wp2_with fail
            refine HV.out.mono ?_
            rintro e w9 hE
            obtain ⟨A9, c9, rfl, hrow9, hB9⟩ := hE.reads
            have B9 := Lib.hid (below_trans B8.out hB9)
            have HSI := Lib.hid (sameInts_any A9 aw c9 cw (hillW j) (hillW j) w9 hrow9.ints.2 (D8.out.below hB9).b.ints.2)
            rw [decide_eq_true rfl] at HSI
            clear hE hrow9 hB9
            go_wp2_with (first | (go_at_call 16; refine (num_any _ _).mono ?_; rintro e wn ⟨rfl, rfl⟩) | (go_at_call 15; refine HSI.out.mono ?_; rintro e ws ⟨rfl, n, rfl⟩))
            go_ret
            exact ⟨rfl, below_drew B9.out _⟩
end Go.Proofs.YtdjlaglilokjeaaDoor

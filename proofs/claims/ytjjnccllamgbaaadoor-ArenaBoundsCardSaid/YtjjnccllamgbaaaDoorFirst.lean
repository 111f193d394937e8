/- The law ArenaFirst, walked: a Take hands out the first slot that is free. Condition: errors.errorType holds the handle of 'error'. -/
import Derived.Test.YtjjnccllamgbaaaDoorOwnRows
import Derived.Test.YtjjnccllamgbaaaDoorRound
import Derived.Deep.Cut
namespace Go.Proofs.YtjjnccllamgbaaaDoor
open Go.RowKit

/-- The arena, the generations and what is taken: alike in one world. -/
structure St (w : World) (g gs bg bt : Nat) (xs : List Slot) (ge : List Int) (ta : List Bool) (i : Int) (wi : World) : Prop where
  m : Mine 58 w g gs xs wi
  rg : RowAt 3 bg (intsV ge) wi
  rt : RowAt 4 bt (boolsV ta) wi
  lg : ge.length = xs.length
  lt : ta.length = xs.length
  d1 : bg ≠ gs
  d2 : bt ≠ gs
  d3 : bg ≠ bt
  d4 : g ≠ bg
  d5 : g ≠ bt
  o1 : w.heap.size ≤ bg
  o2 : w.heap.size ≤ bt
  alike : ∀ j (h : j < xs.length), ge[j]'(by omega) = xs[j].gen ∧ xs[j].state = (if ta[j]'(by omega) then 1 else 0) ∧ 1 ≤ xs[j].gen ∧ xs[j].gen ≤ i
/-- A row's index out of an int. -/
theorem index_of (v : Int) (k : Nat) (h1 : 1 ≤ k) (h8 : k ≤ 8) : ∃ p : Nat, wrap64 ((IntKind.u64.wrap v).tmod k) = p ∧ p < k := by
  have h0 : IntKind.u64.wrap v = v % 18446744073709551616 := by rw [IntKind.wrap_u64]
  have h2 : 0 ≤ v % 18446744073709551616 := Int.emod_nonneg _ (by decide)
  have h3 : v % 18446744073709551616 % (k : Int) < k := Int.emod_lt_of_pos _ (by omega)
  have h4 : 0 ≤ v % 18446744073709551616 % (k : Int) := Int.emod_nonneg _ (by omega)
  rw [h0, Int.tmod_eq_emod_of_nonneg h2, wrap64_id (by omega) (by omega)]
  exact ⟨(v % 18446744073709551616 % (k : Int)).toNat, by omega, by omega⟩
theorem St.freed {w wi w1 : World} {g gs bg bt : Nat} {xs : List Slot} {ge : List Int} {ta : List Bool} {i : Int} (h : St w g gs bg bt xs ge ta i wi) {p : Nat} (hp : p < xs.length) (hk : Keeps gs wi w1)
    (hm : Mine 58 w g gs (xs.set p ⟨xs[p].gen, 0, 0, 0⟩) w1) : St w g gs bg bt (xs.set p ⟨xs[p].gen, 0, 0, 0⟩) ge (ta.set p false) i (w1.setCell ⟨bt, p, none⟩ (.bool false)) := by
  have k2 : Keeps bt w1 (w1.setCell ⟨bt, p, none⟩ (.bool false)) := Keeps.put (Keeps.of_below (Below.refl _ _)) _ _
  refine ⟨hm.other k2 h.d5 (Ne.symm h.d2) h.o2, (h.rg.keeps hk h.d1).keeps k2 h.d3, bools_put (h.rt.keeps hk h.d2) p false, by simpa using h.lg, by simpa using h.lt, h.d1, h.d2, h.d3, h.d4, h.d5, h.o1, h.o2, fun j hj => ?_⟩
  have hj' : j < xs.length := by simpa using hj
  obtain ⟨a1, a2, a3, a4⟩ := h.alike j hj'
  by_cases e : p = j
  · subst e; simp; exact ⟨a1, a3, a4⟩
  · simp [e]; exact ⟨a1, a2, a3, a4⟩
theorem St.took {w wi w1 : World} {g gs bg bt : Nat} {xs : List Slot} {ge : List Int} {ta : List Bool} {i n : Int} (h : St w g gs bg bt xs ge ta i wi) {p : Nat} (hp : p < xs.length) (hk : Keeps gs wi w1) (hn : n = xs[p].gen + 1)
    (hm : Mine 58 w g gs (xs.set p ⟨n, 1, 1, 0⟩) w1) :
    St w g gs bg bt (xs.set p ⟨n, 1, 1, 0⟩) (ge.set p n) (ta.set p true) (i + 1) ((w1.setCell ⟨bg, p, none⟩ (.int .i64 n)).setCell ⟨bt, p, none⟩ (.bool true)) := by
  have k1 : Keeps bg w1 (w1.setCell ⟨bg, p, none⟩ (.int .i64 n)) := Keeps.put (Keeps.of_below (Below.refl _ _)) _ _
  have k2 : Keeps bt (w1.setCell ⟨bg, p, none⟩ (.int .i64 n)) ((w1.setCell ⟨bg, p, none⟩ (.int .i64 n)).setCell ⟨bt, p, none⟩ (.bool true)) := Keeps.put (Keeps.of_below (Below.refl _ _)) _ _

  obtain ⟨b1, b2, b3, b4⟩ := h.alike p hp
  refine ⟨(hm.other k1 h.d4 (Ne.symm h.d1) h.o1).other k2 h.d5 (Ne.symm h.d2) h.o2, (ints_put (h.rg.keeps hk h.d1) p n).keeps k2 h.d3, bools_put ((h.rt.keeps hk h.d2).keeps k1 (Ne.symm h.d3)) p true, by simpa using h.lg, by simpa using h.lt, h.d1, h.d2, h.d3, h.d4, h.d5, h.o1, h.o2, fun j hj => ?_⟩
  have hj' : j < xs.length := by simpa using hj
  obtain ⟨a1, a2, a3, a4⟩ := h.alike j hj'
  by_cases e : p = j
  · subst e; simp; omega
  · simp [e]; exact ⟨a1, a2, a3, by omega⟩
/-- The first that is free, of those from q on. -/
def Upto (ta : List Bool) (q : Nat) (a : Int) : Prop := (a = -1 ∧ ∀ x (h : x < ta.length), q ≤ x → ta[x] = true) ∨ ∃ f : Nat, a = f ∧ q ≤ f ∧ ∃ hf : f < ta.length, ta[f] = false ∧ ∀ x (h : x < ta.length), q ≤ x → x < f → ta[x] = true
theorem Upto.start (ta : List Bool) (q : Nat) (h : ta.length ≤ q) : Upto ta q (-1) := .inl ⟨rfl, fun x h1 h2 => by omega⟩
theorem Upto.taken {ta : List Bool} {q : Nat} {a : Int} (h : Upto ta (q + 1) a) (hq : q < ta.length) (e : ta[q] = true) : Upto ta q a := by
  rcases h with ⟨h1, h2⟩ | ⟨f, h1, h2, h3, h4, h5⟩
  · exact .inl ⟨h1, fun x hx h => by by_cases c : x = q; (subst c; exact e); exact h2 x hx (by omega)⟩
  · exact .inr ⟨f, h1, by omega, h3, h4, fun x hx h h' => by by_cases c : x = q; (subst c; exact e); exact h5 x hx (by omega) h'⟩
theorem Upto.free {ta : List Bool} {q : Nat} (hq : q < ta.length) (e : ta[q] = false) : Upto ta q q := .inr ⟨q, rfl, Nat.le_refl _, hq, e, fun x _ h h' => by omega⟩
theorem Upto.least {ta : List Bool} {a : Int} (h : Upto ta 0 a) {p : Nat} (hp : p < ta.length) (e : ta[p] = false) : ∃ f : Nat, a = f ∧ ∃ hf : f < ta.length, ta[f] = false ∧ ∀ x (h : x < ta.length), x < f → ta[x] = true := by
  rcases h with ⟨h1, h2⟩ | ⟨f, h1, h2, h3, h4, h5⟩
  · rw [h2 p hp (Nat.zero_le _)] at e; cases e
  · exact ⟨f, h1, h3, h4, fun x hx h => h5 x hx (Nat.zero_le _) h⟩
theorem St.take {w wi : World} {g gs bg bt : Nat} {xs : List Slot} {ge : List Int} {ta : List Bool} {i : Int} (h : St w g gs bg bt xs ge ta i wi) (hi : i ≤ 100) {f : Nat} (hf : f < xs.length) (hf2 : f < ta.length) (e : ta[f] = false) (hb : ∀ x (h : x < ta.length), x < f → ta[x] = true) :
    takeF xs 1 = (xs.set f ⟨xs[f].gen + 1, 1, 1, 0⟩, ((f : Int), xs[f].gen + 1, 0)) := by
  obtain ⟨a1, a2, a3, a4⟩ := h.alike f hf
  have hff : firstFree xs = some f := by
    refine free_some _ f hf (fun x hx hxf => ?_) ?_
    · obtain ⟨_, b2, _⟩ := h.alike x hx
      rw [hb x (by rw [h.lt]; exact hx) hxf] at b2
      simp [b2]
    · rw [e] at a2; simp [a2]
  unfold takeF
  rw [if_neg (by decide), hff]
  have hg : slotAt xs (f : Int) = xs[f] := slotAt_in hf
  simp only [hg, wrap64_id (n := xs[f].gen + 1) (by omega) (by omega)]
theorem free_in {xs : List Slot} {p : Nat} (hp : p < xs.length) (hs : xs[p].state = 1) :
    freeF xs p xs[p].gen = (xs.set p ⟨xs[p].gen, 0, 0, 0⟩, 0) := by
  unfold freeF atB
  rw [if_pos (by simp [hp, hs])]
  simp
/-- j slots of k have been taken. -/
def some1 (k j : Nat) : List Slot := (List.range k).map fun x => if x < j then ⟨1, 1, x, 0⟩ else zSlot
def gens1 (k j : Nat) : List Int := (List.range k).map fun x => if x < j then 1 else 0
def taken1 (k j : Nat) : List Bool := (List.range k).map fun x => decide (x < j)
theorem some1_zero (k : Nat) : some1 k 0 = List.replicate k zSlot := by
  apply List.ext_getElem <;> simp [some1]
theorem gens1_zero (k : Nat) : gens1 k 0 = List.replicate k 0 := by
  apply List.ext_getElem <;> simp [gens1]
theorem taken1_zero (k : Nat) : taken1 k 0 = List.replicate k false := by
  apply List.ext_getElem <;> simp [taken1]
theorem gens1_succ (k j : Nat) : (gens1 k j).set j 1 = gens1 k (j + 1) := by
  apply List.ext_getElem
  · simp [gens1]
  · intro i h1 h2
    rw [List.getElem_set]
    by_cases e : j = i
    · subst e; simp [gens1]
    · have h3 : (i < j + 1) = (i < j) := by simp; omega
      simp [gens1, e, h3]
theorem taken1_succ (k j : Nat) : (taken1 k j).set j true = taken1 k (j + 1) := by
  apply List.ext_getElem
  · simp [taken1]
  · intro i h1 h2
    rw [List.getElem_set]
    by_cases e : j = i
    · subst e; simp [taken1]
    · have h3 : (i < j + 1) = (i < j) := by simp; omega
      simp [taken1, e, h3]
theorem some1_take (k j : Nat) (hj : j < k) (h8 : k ≤ 8) : takeF (some1 k j) j = (some1 k (j + 1), ((j : Int), (1 : Int), (0 : Int))) := by
  have hf : firstFree (some1 k j) = some j := by
    refine free_some _ j (by simpa [some1] using hj) (fun x hx hxj => ?_) ?_
    · simp [some1, hxj]
    · simp [some1, zSlot]
  unfold takeF
  rw [if_neg (by omega), hf]
  have hg : slotAt (some1 k j) (j : Int) = zSlot := by rw [slotAt_in (by simpa [some1] using hj)]; simp [some1]
  have hg' : (slotAt (some1 k j) (j : Int)).gen = 0 := by rw [hg]; rfl
  simp only [hg', wrap64_id (n := 0 + 1) (by decide) (by decide)]
  refine Prod.ext ?_ rfl
  apply List.ext_getElem
  · simp [some1]
  · intro i h1 h2
    show ((some1 k j).set j _)[i] = _
    rw [List.getElem_set]
    by_cases e : j = i
    · subst e; simp [some1]
    · have h3 : (i < j + 1) = (i < j) := by simp; omega
      simp [some1, e, h3]

theorem St.start {w wi : World} {g gs bg bt k : Nat} (hm : Mine 58 w g gs (some1 k k) wi) (rg : RowAt 3 bg (intsV (gens1 k k)) wi) (rt : RowAt 4 bt (boolsV (taken1 k k)) wi)
    (d1 : bg ≠ gs) (d2 : bt ≠ gs) (d3 : bg ≠ bt) (d4 : g ≠ bg) (d5 : g ≠ bt) (o1 : w.heap.size ≤ bg) (o2 : w.heap.size ≤ bt) : St w g gs bg bt (some1 k k) (gens1 k k) (taken1 k k) 1 wi := by
  refine ⟨hm, rg, rt, by simp [gens1, some1], by simp [taken1, some1], d1, d2, d3, d4, d5, o1, o2, fun j hj => ?_⟩
  have hj' : j < k := by simpa [some1] using hj
  simp [some1, gens1, taken1, hj']

set_option maxRecDepth 100000 in
set_option maxHeartbeats 8000000 in
theorem first_yes (s : Int) (A : Option Addr) (c : Nat) (fr : List Int) (w : World) (hG : Glob w) (hR : ReadsI w A fr) :
    Calls Tryd.prog 6 #[.int .i64 s, .slice A fr.length c] w fun e w' => e = .returned (.bool true) ∧ Below w.heap.size w w' := by
  have hmax : fr.length ≤ 9223372036854775807 := hR.1
  have HR := Lib.hid hR
  clear hR
  go_enter Tryd.func6, Tryd.ntmps6
  go_wp2_with fail
  refine (awake_yes w hG).mono ?_
  rintro e w0 ⟨rfl, hB0⟩
  have G0 := Lib.hid (hG.below hB0)
  have B0 := Lib.hid hB0
  clear hB0
  go_wp2_with fail
  obtain ⟨k, hk, k1, k8⟩ := slots_of s
  simp only [hk]
  refine (new_ok k w0 k1 k8).mono ?_
  rintro e w1 ⟨g, gs, rfl, hA, hg, hgs, hB⟩
  have m1 : Mine 58 w0 g gs _ w1 := ⟨hA, hgs, hB⟩
  have hl1 := blk_lt hA.a
  have hl2 := blk_lt hA.s
  have hl3 := hB.size
  clear hA hB
  have M1 := Lib.hid m1
  clear m1 hk
  have hm := make_ints k (by omega)
  have hmb := make_bools k (by omega)
  go_wp2_with (go_at_call 10; refine (num_any _ _).mono ?_; rintro e w' ⟨rfl, rfl⟩)
  have r1 : RowAt 3 w1.heap.size (intsV (gens1 k 0)) (w1.alloc (.cells (intsV (List.replicate k 0)).toArray 3)) := by rw [gens1_zero]; exact RowAt.new _ _ _
  have m2 := M1.out.below (below_alloc (Below.refl _ _) (.cells (intsV (List.replicate k 0)).toArray 3))
  rw [← some1_zero] at m2
  go_loopw [9] (fun v wr => ∃ j : Nat, v = .int .i64 j ∧ j ≤ k ∧ Mine 58 w0 g gs (some1 k j) wr ∧ RowAt 3 w1.heap.size (intsV (gens1 k j)) wr) (fun v _ => k - (intOf v).toNat)
  case atStart => exact ⟨0, rfl, by omega, m2, r1⟩
  case round =>
    obtain ⟨j, rfl, hj, m3, r3⟩ := hrel
    clear m2 r1 M1
    have M3 := Lib.hid m3
    have R3 := Lib.hid r3
    clear m3 r3
    by_cases hlt : j < k
    · have hd1 : decide ((j : Int) < k) = true := by simp; omega
      have hd2 : ((j : Int) != j) = false := by simp
      have he := some1_take k j hlt k8
      have hj8 : (j : Int) % 8 = j := by omega
      go_wp2_with fail
      simp only [hj8]
      refine (take_do M3.out j).mono ?_
      rintro e w2 ⟨rfl, m4, k4⟩
      rw [he] at m4
      simp only [he]
      have hlj : j < (gens1 k j).length := by simpa [gens1] using hlt
      have r4 := R3.out.keeps k4 (by omega)
      have f4 := r4.free j
      have c4 := ints_cell r4 hlj
      have r5 := ints_put r4 j 1
      rw [gens1_succ] at r5
      have m5 := m4.other (Keeps.put (Keeps.of_below (gs := w1.heap.size) (Below.refl _ w2)) j (.int .i64 1)) (by omega) (by omega) (by omega)
      have M5 := Lib.hid m5
      have R5 := Lib.hid r5
      clear m4 k4 r4 r5 m5 M3 R3 he
      go_wp2_with (go_at_call 10; refine (num_any _ _).mono ?_; rintro e w' ⟨rfl, rfl⟩)
      go_roundw
      case rel => exact ⟨j + 1, rfl, by omega, M5.out, R5.out⟩
      case measure => simp only [intOf]; omega
    · obtain rfl : j = k := by omega
      have hd1 : decide ((j : Int) < j) = false := by simp
      have ⟨w2, hw2⟩ : ∃ w2, w2 = wr := ⟨wr, rfl⟩
      subst hw2
      have M4 := Lib.hid M3.out
      have R4 := Lib.hid R3.out
      have r1 : RowAt 4 w2.heap.size (boolsV (taken1 j 0)) (w2.alloc (.cells (boolsV (List.replicate j false)).toArray 4)) := by rw [taken1_zero]; exact RowAt.new _ _ _
      have b1 : Below w2.heap.size w2 (w2.alloc (.cells (boolsV (List.replicate j false)).toArray 4)) := below_alloc (Below.refl _ _) _
      have hl4 := blk_lt R3.out
      have hl5 := blk_lt M3.out.at_.a
      have hl6 := blk_lt M3.out.at_.s
      have hl7 := M3.out.B.size
      have m2 := M3.out.below b1
      have r2 := R3.out.below b1
      clear M3 R3 b1
      go_wp2_with fail
      go_loopw [14] (fun v w3 => ∃ i : Nat, v = .int .i64 i ∧ i ≤ j ∧ Mine 58 w0 g gs (some1 j j) w3 ∧ RowAt 3 w1.heap.size (intsV (gens1 j j)) w3 ∧ RowAt 4 w2.heap.size (boolsV (taken1 j i)) w3) (fun v _ => j - (intOf v).toNat)
      case atStart => exact ⟨0, rfl, by omega, m2, r2, r1⟩
      case round =>
        obtain ⟨i, rfl, hi, m3, r3, t3⟩ := hrel
        clear m2 r2 r1
        by_cases hlt : i < j
        · have hd1 : decide ((i : Int) < j) = true := by simp; omega
          have hlj : i < (taken1 j i).length := by simpa [taken1] using hlt
          have f4 := t3.free i
          have c4 := bools_cell t3 hlj
          have r5 := bools_put t3 i true
          rw [taken1_succ] at r5
          have kk : Keeps w2.heap.size wr (wr.setCell ⟨w2.heap.size, i, none⟩ (.bool true)) := Keeps.put (Keeps.of_below (Below.refl _ _)) _ _
          go_wp2_with fail
          go_roundw
          case rel => exact ⟨i + 1, rfl, by omega, m3.other kk (by omega) (by omega) (by omega), r3.keeps kk (by omega), r5⟩
          case measure => simp only [intOf]; omega
        · obtain rfl : i = j := by omega
          have hd1 : decide ((i : Int) < i) = false := by simp
          have ST := Lib.hid (St.start m3 r3 t3 (by omega) (by omega) (by omega) (by omega) (by omega) (by omega) (by omega))
          clear m3 r3 t3
          have hxl : (some1 i i).length = i := by simp [some1]
          go_wp2_with fail
          clear hm hmb hlt hd1 hl1 hl2 hl3 hl4 hl5 hl6 hl7
          go_loopw [15] (fun v w3 => ∃ (n : Nat) (xs : List Slot) (ge : List Int) (ta : List Bool), v = .int .i64 n ∧ n ≤ fr.length ∧ n ≤ 20 ∧ xs.length = i ∧ St w0 g gs w1.heap.size w2.heap.size xs ge ta (1 + n) w3) (fun v _ => 20 - (intOf v).toNat)
          case atStart => exact ⟨0, _, _, _, rfl, by omega, by omega, hxl, ST.out⟩
          case round =>
            obtain ⟨n, xs, ge, ta, rfl, hn, hn2, hx, st⟩ := hrel
            clear ST hxl
            have ST := Lib.hid st
            clear st
            by_cases hlt : n < fr.length
            · by_cases hlt2 : n < 20
              · have hd1 : decide (n < fr.length) = true := by simpa using hlt
                have hd2 : decide ((n : Int) < 20) = true := by simp; omega
                obtain ⟨ad, rfl, c0⟩ := (HR.out.below (below_trans B0.out ST.out.m.B)).at_ hlt
                obtain ⟨p, hp, hpi⟩ := index_of fr[n] i k1 k8
                have hpx : p < xs.length := by omega
                have hpg : p < ge.length := by rw [ST.out.lg]; exact hpx
                have hpt : p < ta.length := by rw [ST.out.lt]; exact hpx
                obtain ⟨a1, a2, a3, a4⟩ := ST.out.alike p hpx
                have c1 := ints_cell ST.out.rg hpg
                have c2 := bools_cell ST.out.rt hpt
                rw [a1] at c1
                have f1 := ST.out.rt.free p
                go_upto_region 24 with fail
                simp only [hp]
                by_cases ht : ta[p] = true
                · rw [ht] at c2
                  rw [if_pos ht] at a2
                  have eF := free_in hpx a2
                  go_wp2_with fail
                  refine (free_do G0.out ST.out.m p xs[p].gen).mono ?_
                  rintro e w4 ⟨rfl, m4, k4⟩
                  rw [eF] at m4
                  simp only [eF]
                  have ST2 := Lib.hid (ST.out.freed hpx k4 m4)
                  have f4 := (ST.out.rt.keeps k4 ST.out.d2).free p
                  have c4 := bools_cell (ST.out.rt.keeps k4 ST.out.d2) hpt
                  clear m4 k4 eF f1 c0 c1 c2
                  obtain ⟨ad2, e2, c3⟩ := (HR.out.below (below_trans B0.out ST2.out.m.B)).at_ hlt
                  cases e2
                  have hx2 : (xs.set p ⟨xs[p].gen, 0, 0, 0⟩).length = i := by simpa using hx
                  have ht2 : (ta.set p false).length = i := by rw [ST2.out.lt]; exact hx2
                  have hg2 : ge.length = i := by rw [ST2.out.lg]; exact hx2
                  by_cases hq : (bits .and .i64 fr[n] 32 == 0) = true
                  · go_wp2_with (go_at_call 10; refine (num_any _ _).mono ?_; rintro e w' ⟨rfl, rfl⟩)
                    go_roundw
                    case rel => exact ⟨n + 1, xs.set p ⟨xs[p].gen, 0, 0, 0⟩, ge, ta.set p false, rfl, by omega, by omega, by simpa using hx, { ST2.out with alike := fun j hj => by obtain ⟨b1, b2, b3, b4⟩ := ST2.out.alike j hj; exact ⟨b1, b2, b3, by omega⟩ }⟩
                    case measure => simp only [intOf]; omega
                  · have hq' : (bits .and .i64 fr[n] 32 == 0) = false := by simpa using hq
                    go_wp2_with (go_at_call 10; refine (num_any _ _).mono ?_; rintro e w' ⟨rfl, rfl⟩)
                    go_loopw [18, 19] (fun a b w5 => ∃ (q : Nat) (v av : Int), b = .int .i64 v ∧ v = (q : Int) - 1 ∧ q ≤ i ∧ a = .int .i64 av ∧ Upto (ta.set p false) q av ∧ w5 = w4.setCell ⟨w2.heap.size, p, none⟩ (.bool false)) (fun _ b _ => (intOf b + 1).toNat)
                    case atStart => exact ⟨i, (i : Int) - 1, -1, rfl, rfl, by omega, rfl, Upto.start _ _ (by omega), rfl⟩
                    case round =>
                      obtain ⟨q, v, av, rfl, hv, hqi, rfl, up, rfl⟩ := hrel
                      have UP := Lib.hid up
                      clear up
                      rcases q with _ | q
                      · obtain rfl : v = -1 := by omega
                        clear hv
                        have hpt2 : p < (ta.set p false).length := by omega
                        obtain ⟨f, rfl, hf, hf1, hf2⟩ := UP.out.least hpt2 (by simp)
                        have hfx : f < (xs.set p ⟨xs[p].gen, 0, 0, 0⟩).length := by omega
                        have eT := ST2.out.take (by omega) hfx hf hf1 hf2
                        obtain ⟨b1, b2, b3, b4⟩ := ST2.out.alike f hfx
                        have hd3 : decide ((f : Int) < 0) = false := by simp
                        have hd4 : ((f : Int) != f) = false := by simp
                        have hd5 : ((xs.set p ⟨xs[p].gen, 0, 0, 0⟩)[f].gen + 1 != (xs.set p ⟨xs[p].gen, 0, 0, 0⟩)[f].gen + 1) = false := by simp
                        have hfg : f < ge.length := by omega
                        clear UP hf2 hq hq'
                        go_wp2_with fail
                        refine (take_do ST2.out.m 1).mono ?_
                        rintro e w6 ⟨rfl, m6, k6⟩
                        rw [eT] at m6
                        simp only [eT]
                        have c6 := ints_cell (ST2.out.rg.keeps k6 ST2.out.d1) hfg
                        rw [b1] at c6
                        have f6 := (ST2.out.rg.keeps k6 ST2.out.d1).free f
                        have f7 := (ST2.out.rt.keeps k6 ST2.out.d2).free f
                        have kp : Keeps w1.heap.size w6 (w6.setCell ⟨w1.heap.size, f, none⟩ (.int .i64 ((xs.set p ⟨xs[p].gen, 0, 0, 0⟩)[f].gen + 1))) := Keeps.put (Keeps.of_below (Below.refl _ _)) _ _
                        have r9 := (ST2.out.rt.keeps k6 ST2.out.d2).keeps kp (Ne.symm ST2.out.d3)
                        have c9 := bools_cell r9 hf
                        have f9 := r9.free f
                        clear r9 kp f7
                        have ST3 := Lib.hid (ST2.out.took hfx k6 rfl m6)
                        clear m6 k6 eT
                        go_wp2_with (go_at_call 10; refine (num_any _ _).mono ?_; rintro e w' ⟨rfl, rfl⟩)
                        go_roundw
                        case rel => exact ⟨n + 1, (xs.set p ⟨xs[p].gen, 0, 0, 0⟩).set f ⟨(xs.set p ⟨xs[p].gen, 0, 0, 0⟩)[f].gen + 1, 1, 1, 0⟩, _, _, rfl, by omega, by omega, by simpa using hx, by rw [show (1 + ((n + 1 : Nat) : Int)) = 1 + n + 1 by omega]; exact ST3.out⟩
                        case measure => show 20 - ((n : Int) + 1).toNat < 20 - ((n : Int)).toNat; omega
                      · obtain rfl : v = (q : Int) := by omega
                        clear hv
                        have hqt : q < (ta.set p false).length := by omega
                        have c7 := bools_cell ST2.out.rt hqt
                        by_cases hb : (ta.set p false)[q] = true
                        · rw [hb] at c7
                          go_wp2_with fail
                          go_roundw
                          case rel => exact ⟨q, (q : Int) - 1, av, rfl, rfl, by omega, rfl, UP.out.taken hqt hb, by trivial⟩
                          case measure => show ((q : Int) - 1 + 1).toNat < ((q : Int) + 1).toNat; omega
                        · rw [Bool.eq_false_iff.2 hb] at c7
                          go_wp2_with fail
                          go_roundw
                          case rel => exact ⟨q, (q : Int) - 1, q, rfl, rfl, by omega, rfl, Upto.free hqt (Bool.eq_false_iff.2 hb), by trivial⟩
                          case measure => show ((q : Int) - 1 + 1).toNat < ((q : Int) + 1).toNat; omega
                · have htf := Bool.eq_false_iff.2 ht
                  rw [htf] at c2
                  have ST2 := Lib.hid ST.out
                  clear f1
                  obtain ⟨ad2, e2, c3⟩ := (HR.out.below (below_trans B0.out ST2.out.m.B)).at_ hlt
                  cases e2
                  have hx2 : (xs).length = i := by simpa using hx
                  have ht2 : (ta).length = i := by rw [ST2.out.lt]; exact hx2
                  have hg2 : ge.length = i := by rw [ST2.out.lg]; exact hx2
                  by_cases hq : (bits .and .i64 fr[n] 32 == 0) = true
                  · go_wp2_with (go_at_call 10; refine (num_any _ _).mono ?_; rintro e w' ⟨rfl, rfl⟩)
                    go_roundw
                    case rel => exact ⟨n + 1, xs, ge, ta, rfl, by omega, by omega, by simpa using hx, { ST2.out with alike := fun j hj => by obtain ⟨b1, b2, b3, b4⟩ := ST2.out.alike j hj; exact ⟨b1, b2, b3, by omega⟩ }⟩
                    case measure => simp only [intOf]; omega
                  · have hq' : (bits .and .i64 fr[n] 32 == 0) = false := by simpa using hq
                    go_wp2_with (go_at_call 10; refine (num_any _ _).mono ?_; rintro e w' ⟨rfl, rfl⟩)
                    go_loopw [18, 19] (fun a b w5 => ∃ (q : Nat) (v av : Int), b = .int .i64 v ∧ v = (q : Int) - 1 ∧ q ≤ i ∧ a = .int .i64 av ∧ Upto (ta) q av ∧ w5 = wr) (fun _ b _ => (intOf b + 1).toNat)
                    case atStart => exact ⟨i, (i : Int) - 1, -1, rfl, rfl, by omega, rfl, Upto.start _ _ (by omega), rfl⟩
                    case round =>
                      obtain ⟨q, v, av, rfl, hv, hqi, rfl, up, rfl⟩ := hrel
                      have UP := Lib.hid up
                      clear up
                      rcases q with _ | q
                      · obtain rfl : v = -1 := by omega
                        clear hv
                        have hpt2 : p < (ta).length := by omega
                        obtain ⟨f, rfl, hf, hf1, hf2⟩ := UP.out.least hpt2 htf
                        have hfx : f < (xs).length := by omega
                        have eT := ST2.out.take (by omega) hfx hf hf1 hf2
                        obtain ⟨b1, b2, b3, b4⟩ := ST2.out.alike f hfx
                        have hd3 : decide ((f : Int) < 0) = false := by simp
                        have hd4 : ((f : Int) != f) = false := by simp
                        have hd5 : ((xs)[f].gen + 1 != (xs)[f].gen + 1) = false := by simp
                        have hfg : f < ge.length := by omega
                        clear UP hf2 hq hq'
                        go_wp2_with fail
                        refine (take_do ST2.out.m 1).mono ?_
                        rintro e w6 ⟨rfl, m6, k6⟩
                        rw [eT] at m6
                        simp only [eT]
                        have c6 := ints_cell (ST2.out.rg.keeps k6 ST2.out.d1) hfg
                        rw [b1] at c6
                        have f6 := (ST2.out.rg.keeps k6 ST2.out.d1).free f
                        have f7 := (ST2.out.rt.keeps k6 ST2.out.d2).free f
                        have kp : Keeps w1.heap.size w6 (w6.setCell ⟨w1.heap.size, f, none⟩ (.int .i64 ((xs)[f].gen + 1))) := Keeps.put (Keeps.of_below (Below.refl _ _)) _ _
                        have r9 := (ST2.out.rt.keeps k6 ST2.out.d2).keeps kp (Ne.symm ST2.out.d3)
                        have c9 := bools_cell r9 hf
                        have f9 := r9.free f
                        clear r9 kp f7
                        have ST3 := Lib.hid (ST2.out.took hfx k6 rfl m6)
                        clear m6 k6 eT
                        go_wp2_with (go_at_call 10; refine (num_any _ _).mono ?_; rintro e w' ⟨rfl, rfl⟩)
                        go_roundw
                        case rel => exact ⟨n + 1, (xs).set f ⟨(xs)[f].gen + 1, 1, 1, 0⟩, _, _, rfl, by omega, by omega, by simpa using hx, by rw [show (1 + ((n + 1 : Nat) : Int)) = 1 + n + 1 by omega]; exact ST3.out⟩
                        case measure => show 20 - ((n : Int) + 1).toNat < 20 - ((n : Int)).toNat; omega
                      · obtain rfl : v = (q : Int) := by omega
                        clear hv
                        have hqt : q < (ta).length := by omega
                        have c7 := bools_cell ST2.out.rt hqt
                        by_cases hb : (ta)[q] = true
                        · rw [hb] at c7
                          go_wp2_with fail
                          go_roundw
                          case rel => exact ⟨q, (q : Int) - 1, av, rfl, rfl, by omega, rfl, UP.out.taken hqt hb, by trivial⟩
                          case measure => show ((q : Int) - 1 + 1).toNat < ((q : Int) + 1).toNat; omega
                        · rw [Bool.eq_false_iff.2 hb] at c7
                          go_wp2_with fail
                          go_roundw
                          case rel => exact ⟨q, (q : Int) - 1, q, rfl, rfl, by omega, rfl, Upto.free hqt (Bool.eq_false_iff.2 hb), by trivial⟩
                          case measure => show ((q : Int) - 1 + 1).toNat < ((q : Int) + 1).toNat; omega
              · have hd1 : decide (n < fr.length) = true := by simpa using hlt
                have hd2 : decide ((n : Int) < 20) = false := by simp; omega
                have HB := Lib.hid (below_trans B0.out ST.out.m.B)
                go_wp2_with fail
                go_ret
                exact ⟨rfl, HB.out⟩
            · have hd1 : decide (n < fr.length) = false := by simpa using hlt
              have HB := Lib.hid (below_trans B0.out ST.out.m.B)
              go_wp2_with fail
              go_ret
              exact ⟨rfl, HB.out⟩
end Go.Proofs.YtjjnccllamgbaaaDoor

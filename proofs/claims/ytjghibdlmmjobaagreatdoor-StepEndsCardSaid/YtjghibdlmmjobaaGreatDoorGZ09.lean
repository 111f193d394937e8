/- 'verify.All', 'verify.Program' and the document's 'Verify' answer the same error; All gives the heights of all functions. Conditions: the program lies in memory as it is said; errors.errorType is laid. What the statements need of lists: are two the same, a copy, written over. Conditions: the lists lie in memory as they are said. Copies of code and programs, lists written over. Conditions: they lie in memory as they are said; no list is longer than the reach. -/
import Derived.Test.YtjghibdlmmjobaaGreatDoorGZ08
import Derived.Test.YtjghibdlmmjobaaGreatDoorGZ05
import Derived.Test.YtjghibdlmmjobaaGreatDoorGZ02
namespace Go.Proofs.YtjghibdlmmjobaaGreatDoor
open Go.RowKit

theorem verifyOf_no {p : List Fn} (h : packs p = false) : verifyOf p = 500 := by unfold verifyOf; rw [h]; rfl
theorem verifyOf_err {p : List Fn} (h : packs p = true) {k : Nat} (hk : k < p.length) (hv : ∀ j (hj : j < p.length), j < k → (heightsF p p[j]).2.2 = 0) (he : (heightsF p p[k]).2.2 ≠ 0) : verifyOf p = (heightsF p p[k]).2.2 := by
  unfold verifyOf
  rw [if_pos h]
  have : p.find? (fun f => (heightsF p f).2.2 != 0) = some p[k] := by
    rw [List.find?_eq_some_iff_getElem]
    exact ⟨by simpa using he, k, hk, rfl, fun j hj => by simp [hv j (by omega) hj]⟩
  rw [this]
theorem verifyOf_ok {p : List Fn} (h : packs p = true) (hv : ∀ j (hj : j < p.length), (heightsF p p[j]).2.2 = 0) : verifyOf p = 0 := by
  unfold verifyOf
  rw [if_pos h]
  have : p.find? (fun f => (heightsF p f).2.2 != 0) = none := by
    rw [List.find?_eq_none]
    intro x hx
    obtain ⟨j, hj, rfl⟩ := List.mem_iff_getElem.1 hx
    simp [hv j hj]
  rw [this]
theorem verifyOf_packs {p : List Fn} (h : verifyOf p = 0) : packs p = true := by
  cases hp : packs p with
  | true => rfl
  | false => rw [verifyOf_no hp] at h; cases h
theorem verifyOf_fn {p : List Fn} (h : verifyOf p = 0) {k : Nat} (hk : k < p.length) : (heightsF p p[k]).2.2 = 0 := by
  have hp := verifyOf_packs h
  unfold verifyOf at h
  rw [if_pos hp] at h
  split at h
  · rename_i f hf
    have := List.find?_some hf
    simp only [bne_iff_ne, ne_eq] at this
    exact absurd h this
  · rename_i hf
    rw [List.find?_eq_none] at hf
    have := hf p[k] (List.getElem_mem hk)
    simpa using this
theorem upto_next {α : Type} {xs : List α} {q : α → Prop} {k : Nat} (h : ∀ j (hj : j < xs.length), j < k → q xs[j]) (hk : k < xs.length) (he : q xs[k]) : ∀ j (hj : j < xs.length), j < k + 1 → q xs[j] := fun j hj h1 => by
  rcases Nat.lt_or_ge j k with h2 | h2
  · exact h j hj h2
  · obtain rfl : j = k := by omega
    exact he
set_option maxRecDepth 100000 in
set_option maxHeartbeats 4000000 in
theorem rverify_any (p : List Fn) (Ap : Option Addr) (cp : Nat) (w : World) (hr : ReadsF w Ap p) :
    Calls Tryz.prog 65 #[.agg #[.slice Ap p.length cp]] w (Ret (.int .i64 (verifyOf p)) w) := by
  have b1 : Below w.heap.size w (w.alloc (.cells #[.slice Ap p.length cp] 24)) := below_alloc (Below.refl _ _) _
  have hP1 : (w.alloc (.cells #[.slice Ap p.length cp] 24)).cell? ⟨w.heap.size, 0, none⟩ = some (.slice Ap p.length cp) := (blk_cell (blk_new w _) 0).trans rfl
  have HM := Lib.hid (rpacks_any p Ap cp _ (hr.below b1))
  have hn : p.length ≤ 9223372036854775807 := hr.1
  have HRF := Lib.hid hr
  have HB1 := Lib.hid b1
  have HP := Lib.hid hP1
  clear hr b1 hP1
  cases hp : packs p with
  | false =>
    rw [hp] at HM
    have HE := Lib.hid (verifyOf_no hp)
    clear hp
    go_enter Tryz.func65, Tryz.ntmps65
    go_wp2_with fail
    refine HM.out.mono ?_
    rintro e w2 ⟨rfl, hB⟩
    have B2 := Lib.hid (below_trans HB1.out hB)
    clear hB
    go_wp2_with fail
    go_ret
    rw [HE.out]
    exact ⟨rfl, B2.out⟩
  | true =>
    rw [hp] at HM
    have HPK := Lib.hid hp
    clear hp
    go_enter Tryz.func65, Tryz.ntmps65
    go_wp2_with fail
    refine HM.out.mono ?_
    rintro e w2 ⟨rfl, hB⟩
    have B2 := Lib.hid (below_trans HB1.out hB)
    have HP2 := Lib.hid ((hB.cell (World.block_lt_of_cell? _ _ HP.out)).trans HP.out)
    clear hB
    go_wp2_with fail
    go_loopw [3] (fun i wr => ∃ k : Nat, k ≤ p.length ∧ i = .int .i64 k ∧ (∀ j (hj : j < p.length), j < k → (heightsF p p[j]).2.2 = 0) ∧ Below w2.heap.size w2 wr) (fun i _ => p.length - (intOf i).toNat)
    case atStart => exact ⟨0, Nat.zero_le _, rfl, fun _ _ h => absurd h (Nat.not_lt_zero _), Below.refl _ _⟩
    case round =>
      obtain ⟨k, hk, rfl, hv, hB⟩ := hrel
      have c0 := (hB.cell (World.block_lt_of_cell? _ _ HP2.out)).trans HP2.out
      have HV := Lib.hid hv
      have HB := Lib.hid hB
      clear hv hB
      by_cases hlt : k < p.length
      · have HH := Lib.hid (rheights_any p Ap cp k wr (HRF.out.below (below_trans B2.out HB.out)))
        rw [heightsOf_yes HPK.out hlt] at HH
        obtain ⟨r, hr⟩ : ∃ r, heightsF p p[k] = r := ⟨_, rfl⟩
        rw [hr] at HH
        have HR := Lib.hid hr
        clear hr
        by_cases he : r.2.2 = 0
        · have de : (r.2.2 != 0) = false := by simpa using he
          have HE := Lib.hid he
          clear he
          go_wp2_with fail
          refine HH.out.mono ?_
          rintro e w3 ⟨v, rfl, _, hB3⟩
          have B3 := Lib.hid (below_trans HB.out hB3)
          clear hB3
          go_wp2_with fail
          go_roundw
          case rel => exact ⟨k + 1, by omega, by go_num, upto_next (q := fun f => (heightsF p f).2.2 = 0) HV.out hlt (by rw [HR.out]; exact HE.out), B3.out⟩
          case measure => simp only [intOf]; omega
        · have de : (r.2.2 != 0) = true := by simpa using he
          have HE := Lib.hid he
          clear he
          go_wp2_with fail
          refine HH.out.mono ?_
          rintro e w3 ⟨v, rfl, _, hB3⟩
          have B3 := Lib.hid (below_trans HB.out hB3)
          clear hB3
          go_wp2_with fail
          go_ret
          rw [verifyOf_err HPK.out hlt HV.out (by rw [HR.out]; exact HE.out), HR.out]
          exact ⟨rfl, below_trans B2.out B3.out⟩
      · go_wp2_with fail
        go_ret
        rw [verifyOf_ok HPK.out (fun j hj => HV.out j hj (by omega))]
        exact ⟨rfl, below_trans B2.out HB.out⟩

/-- Rows of ints, of the call's own. -/
def Book (w : World) (base : Nat) (v : Value) (hs : List (List Int)) : Prop :=
  ∃ vs : List Value, ORow w base 28 1 v hs.length vs ∧ ∀ i (h : i < hs.length) (h' : i < vs.length), ORow w base 3 1 vs[i] hs[i].length (intsV hs[i]) ∧ ∀ b, vs[i].ownBlock = some b → Apart v b
theorem info_ints : (Tryz.prog.info? 28).map (fun i => (i.zero, i.size, i.bytes)) = some (some (.slice none 0 0), 1, 24) := by kernel_rfl
def bookOf (p : List Fn) : List (List Int) := p.map fun f => (heightsF p f).1
/-- What 'All' answers. -/
def AllE (p : List Fn) (w : World) (e : Ending) (w' : World) : Prop := ∃ v, e = .returned (.tuple #[v, .int .i64 (verifyOf p)]) ∧ Below w.heap.size w w' ∧ (verifyOf p = 0 → Book w' w.heap.size v (bookOf p)) ∧ (verifyOf p ≠ 0 → v = .slice none 0 0)
theorem Book.below {w w1 : World} {base : Nat} {v : Value} {hs : List (List Int)} (h : Book w base v hs) (hb : Below w.heap.size w w1) : Book w1 base v hs := by
  obtain ⟨vs, h1, h2⟩ := h
  exact ⟨vs, h1.below hb, fun i hi hi' => ⟨(h2 i hi hi').1.below hb, (h2 i hi hi').2⟩⟩
theorem Book.mono {w : World} {base base' : Nat} {v : Value} {hs : List (List Int)} (h : Book w base v hs) (hb : base' ≤ base) : Book w base' v hs := by
  obtain ⟨vs, h1, h2⟩ := h
  exact ⟨vs, h1.mono hb, fun i hi hi' => ⟨(h2 i hi hi').1.mono hb, (h2 i hi hi').2⟩⟩
theorem Book.nil (w : World) (base : Nat) : Book w base (.slice none 0 0) [] := ⟨[], ORow.nil _ _ _ _, fun _ h => absurd h (Nat.not_lt_zero _)⟩
theorem cellsV_one {v : Value} {n : Nat} {ao : Option Addr} {c : Nat} (h : v = .slice ao n c) : v.oneCell' = true := by subst h; rfl
/-- A row more. -/
theorem Book.grow {w w' : World} {base : Nat} {v v' vn : Value} {hs : List (List Int)} {h : List Int} {vs : List Value} (h1 : ORow w base 28 1 v hs.length vs)
    (h2 : ∀ i (h : i < hs.length) (h' : i < vs.length), ORow w base 3 1 vs[i] hs[i].length (intsV hs[i]) ∧ ∀ b, vs[i].ownBlock = some b → Apart v b) (hn : ORow w base 3 1 vn h.length (intsV h)) (ha : ∀ b, vn.ownBlock = some b → Apart v b)
    (hG : Grown w base 28 1 v (hs.length + 1) (vs ++ [vn]) v' w') : Book w' base v' (hs ++ [h]) := by
  have hl := h1.len
  rw [Nat.mul_one] at hl
  refine ⟨vs ++ [vn], by rw [List.length_append]; exact hG.row, fun i hi hi' => ?_⟩
  have key : ∀ (x : Value) (l : List Int), ORow w base 3 1 x l.length (intsV l) → (∀ b, x.ownBlock = some b → Apart v b) → ORow w' base 3 1 x l.length (intsV l) ∧ ∀ b, x.ownBlock = some b → Apart v' b := fun x l hx hxa =>
    ⟨hx.grown hG.kept (by
      rcases he : x.ownBlock with _ | b
      · exact .inl rfl
      · exact .inr fun e => hxa b he e.symm), fun b hb => hG.apart (hx.in_ b hb).2 (hxa b hb)⟩
  rcases Nat.lt_or_ge i hs.length with hlt | hge
  · have hlt' : i < vs.length := by omega
    rw [List.getElem_append_left hlt, List.getElem_append_left hlt']
    exact key _ _ (h2 i hlt hlt').1 (h2 i hlt hlt').2
  · obtain rfl : i = hs.length := by rw [List.length_append] at hi; simp at hi; omega
    have e1 : (hs ++ [h])[hs.length] = h := by simp
    have e2 : (vs ++ [vn])[hs.length]'hi' = vn := by
      rw [List.getElem_append_right (by omega)]; simp [hl]
    rw [e1, e2]
    exact key _ _ hn ha
theorem heights_len {p : List Fn} {f : Fn} (h : (heightsF p f).2.2 = 0) : (heightsF p f).1.length = f.code.length ∧ hwalkOf p f.code = .inr (heightsF p f).1 ∧ plainOf p f = none := by
  unfold heightsF at h ⊢
  cases hp : plainOf p f with
  | some e =>
    rw [hp] at h
    simp only at h
    exfalso
    unfold plainOf at hp
    split at hp
    · injection hp with e1; subst e1; simp at h
    · split at hp
      · injection hp with e1; subst e1; simp at h
      · cases hp
  | none =>
    rw [hp] at h
    simp only at h ⊢
    cases hw : hwalkOf p f.code with
    | inl pc => rw [hw] at h; simp at h
    | inr out => exact ⟨hwalkOf_len hw, by first | rfl | trivial, by first | rfl | trivial⟩
theorem bookOf_take {p : List Fn} {k : Nat} (hk : k < p.length) : (bookOf p).take (k + 1) = (bookOf p).take k ++ [(heightsF p p[k]).1] := by
  rw [List.take_succ_eq_append_getElem (by simpa [bookOf] using hk)]
  simp [bookOf]
set_option maxRecDepth 100000 in
set_option maxHeartbeats 4000000 in
theorem all_any (P : Addr) (p : List Fn) (Ap : Option Addr) (cp : Nat) (w : World) (hl : Laid w) (hP : w.cell? P = some (.slice Ap p.length cp)) (hr : ReadsF w Ap p) :
    Calls Tryz.prog 117 #[.pointer (some P)] w (AllE p w) := by
  have HM := Lib.hid (packMay_any P Ap cp p w hP hr)
  have hn : p.length ≤ 9223372036854775807 := hr.1
  have HRF := Lib.hid hr
  have HP := Lib.hid hP
  have HL := Lib.hid hl
  clear hr hP hl
  cases hp : packs p with
  | false =>
    rw [hp] at HM
    have HE := Lib.hid (verifyOf_no hp)
    clear hp
    go_enter Tryz.func117, Tryz.ntmps117
    go_wp2_with fail
    refine HM.out.mono ?_
    rintro e w2 ⟨rfl, hB⟩
    have B2 := Lib.hid hB
    clear hB
    go_wp2_with fail
    go_ret2
    exact ⟨_, by rw [HE.out]; rfl, B2.out, (fun h => by rw [HE.out] at h; cases h), fun _ => rfl⟩
  | true =>
    rw [hp] at HM
    have HPK := Lib.hid hp
    have hp8 := (packs_len hp).2
    clear hp
    go_enter Tryz.func117, Tryz.ntmps117
    go_wp2_with fail
    refine HM.out.mono ?_
    rintro e w2 ⟨rfl, hB⟩
    have B2 := Lib.hid hB
    have c0 := (hB.cell (World.block_lt_of_cell? _ _ HP.out)).trans HP.out
    clear hB
    go_wp2_with fail
    clear c0
    go_loopw [4, 17] (fun v i wr => ∃ k : Nat, k ≤ p.length ∧ i = .int .i64 k ∧ (∀ j (hj : j < p.length), j < k → (heightsF p p[j]).2.2 = 0) ∧ Below w.heap.size w wr ∧ Book wr w.heap.size v ((bookOf p).take k)) (fun _ i _ => p.length - (intOf i).toNat)
    case atStart => exact ⟨0, Nat.zero_le _, rfl, fun _ _ h => absurd h (Nat.not_lt_zero _), B2.out, by simpa using Book.nil _ _⟩
    case round =>
      obtain ⟨k, hk, rfl, hv, hB, hbk⟩ := hrel
      have c0 := (hB.cell (World.block_lt_of_cell? _ _ HP.out)).trans HP.out
      have HV := Lib.hid hv
      have HB := Lib.hid hB
      have HBK := Lib.hid hbk
      clear hv hB hbk
      by_cases hlt : k < p.length
      · have HH := Lib.hid (heightsV_any p Ap cp k wr (HL.out.below HB.out) (HRF.out.below HB.out))
        rw [heightsOf_yes HPK.out hlt] at HH
        obtain ⟨r, hr⟩ : ∃ r, heightsF p p[k] = r := ⟨_, rfl⟩
        rw [hr] at HH
        have HR := Lib.hid hr
        clear hr
        by_cases he : r.2.2 = 0
        · have de : (r.2.2 != 0) = false := by simpa using he
          have HE := Lib.hid he
          clear he
          go_wp2_with fail
          refine HH.out.mono ?_
          rintro e w3 ⟨vn, rfl, hrow, hB3⟩
          obtain ⟨an, cn, hvn, _, _⟩ := hrow.shape
          subst hvn
          have B3 := Lib.hid (below_trans HB.out hB3)
          have HROW := Lib.hid hrow
          have HBK3 := Lib.hid (HBK.out.below hB3)
          have bk := below_alloc (Below.refl w3.heap.size w3) (.cells #[Value.slice an r.1.length cn] 28)
          have HBK4 := Lib.hid (HBK3.out.below bk)
          have B4 := Lib.hid (below_alloc B3.out (.cells #[Value.slice an r.1.length cn] 28))
          have HROW4 := Lib.hid ((hrow.below bk).mono HB.out.size)
          have HAP := Lib.hid (show ∀ b, (Value.slice an r.1.length cn).ownBlock = some b → wr.heap.size ≤ b from hrow.lo)
          have hsrc : Src Tryz.prog 1 51 (.slice (some ⟨w3.heap.size, 0, none⟩) 1 1) 1 [Value.slice an r.1.length cn] (w3.alloc (.cells #[Value.slice an r.1.length cn] 28)) :=
            Src.ofSlice _ Tryz.underlying51 _ 1 1 [Value.slice an r.1.length cn] rfl (fun j u hu => by
              obtain ⟨hj, rfl⟩ := List.getElem?_eq_some_iff.1 hu
              obtain rfl : j = 0 := by simpa using hj
              rw [add_plain]; exact (blk_cell (blk_new w3 _) 0).trans rfl) (fun u hu => by
              simp at hu; subst hu; rfl)
          have HSRC := Lib.hid hsrc
          obtain ⟨vs, hO⟩ := HBK4.out
          have HO := Lib.hid hO
          have hlen : ((bookOf p).take k).length = k := by simp [bookOf]; omega
          have hO1 := hO.1
          rw [hlen] at hO1
          have HO1 := Lib.hid hO1
          have HLEN := Lib.hid hlen
          clear hB3 hrow bk hsrc hO hO1 hlen
          obtain ⟨i0, hi0, hz0, hs0, hb0⟩ := info_parts info_ints
          have HI0 := Lib.hid hi0
          have HZ0 := Lib.hid hz0
          have HS0 := Lib.hid hs0
          have HBY := Lib.hid hb0
          clear hi0 hz0 hs0 hb0
          go_upto_region 10 with fail
          go_wp2_with (first | (at_builtin; refine wpList_append_row _ rfl _ _ 51 51 28 rfl i0 (.slice none 0 0) 1 24 Tryz.underlying51 HI0.out HZ0.out HS0.out HBY.out rfl w.heap.size _ k vs rfl HO1.out ?c1 _ 1 [Value.slice an r.1.length cn] rfl HSRC.out ?c2 ?c3 ?_; rotate_left 3; intro v' w5 hG) | fail)
          case c1 => have := B3.out.size; simp; omega
          case c2 => omega
          case c3 => unfold maxLen; omega
          have hb5 := B4.out.grown hG.kept (by have := B3.out.size; simp; omega) (fun x hx => HO1.out.lo x hx)
          have hbook : Book w5 w.heap.size v' ((bookOf p).take k ++ [r.1]) := by
            refine Book.grow HO.out.1 HO.out.2 HROW4.out (fun b hb e => ?_) ?_
            · have h1 := HAP.out b hb
              have h2 := (HBK.out) |> fun ⟨_, h, _⟩ => (h.in_ b e).2
              omega
            · rw [HLEN.out]; exact hG
          have HBOOK := Lib.hid hbook
          have HB5 := Lib.hid hb5
          clear hG hb5 hbook
          go_wp2_with fail
          go_roundw
          case rel => exact ⟨k + 1, by omega, by go_num, upto_next (q := fun f => (heightsF p f).2.2 = 0) HV.out hlt (by rw [HR.out]; exact HE.out), HB5.out, by rw [bookOf_take hlt, HR.out]; exact HBOOK.out⟩
          case measure => simp only [intOf]; omega
        · have de : (r.2.2 != 0) = true := by simpa using he
          have HE := Lib.hid he
          clear he
          go_wp2_with fail
          refine HH.out.mono ?_
          rintro e w3 ⟨v, rfl, _, hB3⟩
          have B3 := Lib.hid (below_trans HB.out hB3)
          clear hB3
          go_wp2_with fail
          go_ret2
          have hver := verifyOf_err HPK.out hlt HV.out (by rw [HR.out]; exact HE.out)
          rw [HR.out] at hver
          exact ⟨_, by rw [hver]; rfl, B3.out, (fun h => absurd (hver.symm.trans h) HE.out), fun _ => rfl⟩
      · have hver := verifyOf_ok HPK.out (fun j hj => HV.out j hj (by omega))
        have HVER := Lib.hid hver
        clear hver
        go_wp2_with fail
        go_ret2
        exact ⟨_, by rw [HVER.out]; rfl, HB.out, (fun _ => by have := HBK.out; rwa [List.take_of_length_le (by simp [bookOf]; omega)] at this), fun h => absurd HVER.out h⟩
set_option maxHeartbeats 1000000 in
theorem program_any (p : List Fn) (Ap : Option Addr) (cp : Nat) (w : World) (hl : Laid w) (hr : ReadsF w Ap p) :
    Calls Tryz.prog 64 #[.agg #[.slice Ap p.length cp]] w (Ret (.int .i64 (verifyOf p)) w) := by
  have b1 : Below w.heap.size w (w.alloc (.cells #[.slice Ap p.length cp] 24)) := below_alloc (Below.refl _ _) _
  have hP1 : (w.alloc (.cells #[.slice Ap p.length cp] 24)).cell? ⟨w.heap.size, 0, none⟩ = some (.slice Ap p.length cp) := (blk_cell (blk_new w _) 0).trans rfl
  have HA := Lib.hid (all_any ⟨w.heap.size, 0, none⟩ p Ap cp _ (hl.below b1) hP1 (hr.below b1))
  have HB := Lib.hid b1
  clear b1 hP1 hl hr
  go_enter Tryz.func64, Tryz.ntmps64
  go_wp2_with fail
  refine HA.out.mono ?_
  rintro e w2 ⟨v, rfl, hB, -⟩
  have B2 := Lib.hid (below_trans HB.out hB)
  clear hB
  go_wp2_with fail
  go_ret
  exact ⟨rfl, B2.out⟩
end Go.Proofs.YtjghibdlmmjobaaGreatDoor

namespace Go.Proofs.YtjghibdlmmjobaaGreatDoor
open Go.RowKit

instance : DecidableEq Ins := fun x y => if h : x.kind = y.kind ∧ x.a = y.a then isTrue (by cases x; cases y; obtain ⟨h1, h2⟩ := h; simp only at h1 h2; rw [h1, h2]) else isFalse (fun e => h (by rw [e]; exact ⟨rfl, rfl⟩))
instance : DecidableEq Fn := fun x y => if h : x.args = y.args ∧ x.locals = y.locals ∧ x.code = y.code then isTrue (by cases x; cases y; obtain ⟨h1, h2, h3⟩ := h; simp only at h1 h2 h3; rw [h1, h2, h3]) else isFalse (fun e => h (by rw [e]; exact ⟨rfl, rfl, rfl⟩))
/-- A call that only reads: its answer; the draws alone have moved on. -/
def RetD (v : Value) (w : World) (e : Ending) (w' : World) : Prop := e = .returned v ∧ ∃ n, w' = w.drewN n
theorem RetD.ret {v : Value} {w w' : World} {e : Ending} (h : RetD v w e w') : Ret v w e w' := by
  obtain ⟨rfl, n, rfl⟩ := h
  exact ⟨rfl, below_drew (Below.refl _ _) _⟩
theorem ne_len {α : Type} [DecidableEq α] {xs ys : List α} (h : xs.length ≠ ys.length) : decide (xs = ys) = false := decide_eq_false (fun e => h (by rw [e]))
theorem ne_at {α : Type} [DecidableEq α] {xs ys : List α} {k : Nat} (hx : k < xs.length) (hy : k < ys.length) (h : xs[k] ≠ ys[k]) : decide (xs = ys) = false := decide_eq_false (fun e => h (by subst e; rfl))
theorem eq_all {α : Type} [DecidableEq α] {xs ys : List α} (hl : xs.length = ys.length) (h : ∀ j (hx : j < xs.length) (hy : j < ys.length), xs[j] = ys[j]) : decide (xs = ys) = true := decide_eq_true (List.ext_getElem hl h)
set_option maxHeartbeats 1000000 in
theorem sameInts_any (A B : Option Addr) (ca cb : Nat) (xs ys : List Int) (w : World) (hx : ReadsI w A xs) (hy : ReadsI w B ys) :
    Calls Tryz.prog 32 #[.slice A xs.length ca, .slice B ys.length cb] w (RetD (.bool (decide (xs = ys))) w) := by
  have HX := Lib.hid hx
  have HY := Lib.hid hy
  have n1 : xs.length ≤ 9223372036854775807 := hx.1
  have n2 : ys.length ≤ 9223372036854775807 := hy.1
  clear hx hy
  by_cases hl : xs.length = ys.length
  · have dl : (xs.length != ys.length) = false := by simpa using hl
    have dm : ((xs.length : Int) != ys.length) = false := by simp; omega
    have HL := Lib.hid hl
    clear hl
    go_enter Tryz.func32, Tryz.ntmps32
    go_wp2_with fail
    go_loopw [5] (fun i wr => ∃ k : Nat, k ≤ xs.length ∧ i = .int .i64 k ∧ (∀ j (hx : j < xs.length) (hy : j < ys.length), j < k → xs[j] = ys[j]) ∧ ∃ n, wr = w.drewN n) (fun i _ => xs.length - (intOf i).toNat)
    case atStart => exact ⟨0, Nat.zero_le _, rfl, fun _ _ _ h => absurd h (Nat.not_lt_zero _), 0, rfl⟩
    case round =>
      obtain ⟨k, hk, rfl, hv, n, rfl⟩ := hrel
      have HV := Lib.hid hv
      clear hv
      by_cases hlt : k < xs.length
      · have hly : k < ys.length := by have := HL.out; omega
        obtain ⟨a1, e1, c1⟩ := HX.out.at_ hlt
        obtain ⟨a2, e2, c2⟩ := HY.out.at_ hly
        subst e1 e2
        go_upto_region 6 with fail
        by_cases he : xs[k] = ys[k]
        · have de : (xs[k] != ys[k]) = false := by simpa using he
          have HE := Lib.hid he
          clear he
          go_quiet (fail)
          go_wp2_with fail
          go_roundw
          case rel => exact ⟨k + 1, by omega, by go_num, fun j hx hy h => by
            rcases Nat.lt_or_ge j k with h2 | h2
            · exact HV.out j hx hy h2
            · obtain rfl : j = k := by omega
              exact HE.out, by first | exact ⟨_, rfl⟩ | exact ⟨_, drewN_two _ _ _⟩⟩
          case measure => simp only [intOf]; omega
        · have de : (xs[k] != ys[k]) = true := by simpa using he
          have HE := Lib.hid he
          clear he
          go_quiet (fail)
          go_wp2_with fail
          go_ret
          exact ⟨ret_bool (ne_at hlt hly HE.out).symm, by first | exact ⟨_, rfl⟩ | exact ⟨_, drewN_two _ _ _⟩⟩
      · go_wp2_with fail
        go_ret
        exact ⟨ret_bool (eq_all HL.out fun j hx hy => HV.out j hx hy (by omega)).symm, _, rfl⟩
  · have dl : (xs.length != ys.length) = true := by simpa using hl
    have dm : ((xs.length : Int) != ys.length) = true := by simp; omega
    have HL := Lib.hid hl
    clear hl
    go_enter Tryz.func32, Tryz.ntmps32
    go_wp2_with fail
    go_ret
    exact ⟨ret_bool (ne_len HL.out).symm, 0, rfl⟩
def eqIns (x y : Ins) : Bool := x.kind == y.kind && (x.a == y.a)
theorem eqIns_iff (x y : Ins) : eqIns x y = true ↔ x = y := by
  unfold eqIns
  cases x; cases y
  simp
theorem eqrIns (d : Nat) (w : World) (x y : Ins) : (Op.equalIn (d + 2) 48 (.agg #[.int .i64 x.kind, .int .i64 x.a]) (.agg #[.int .i64 y.kind, .int .i64 y.a])).run Tryz.prog w = .ok (eqIns x y) w := by
  refine eq_struct Tryz.underlying48 (by kernel_rfl) ?_
  unfold eqIns
  rw [← Bool.and_true (x.a == y.a)]
  refine eq_next (by rfl) (by go_simp; rfl) (by go_simp; rfl) (by go_simp) ?_
  exact eq_next (by rfl) (by go_simp; rfl) (by go_simp; rfl) (by go_simp) eq_done
theorem fn_ext {x y : Fn} (h1 : x.args = y.args) (h2 : x.locals = y.locals) (h3 : x.code = y.code) : x = y := by cases x; cases y; simp only at h1 h2 h3; rw [h1, h2, h3]
end Go.Proofs.YtjghibdlmmjobaaGreatDoor

namespace Go.Proofs.YtjghibdlmmjobaaGreatDoor
open Go.RowKit

/-- Lists of one length, one behind the other. -/
theorem flat_len {s : Nat} : ∀ {L : List (List Value)}, (∀ l ∈ L, l.length = s) → L.flatten.length = L.length * s
  | [], _ => by simp
  | l :: L, h => by
    rw [List.flatten_cons, List.length_append, h l (by simp), flat_len (fun x hx => h x (by simp [hx])), List.length_cons, Nat.add_mul]
    omega
theorem flat_get {s : Nat} : ∀ {L : List (List Value)}, (∀ l ∈ L, l.length = s) → ∀ {i j : Nat} (hi : i < L.length) (hj : j < (L[i]).length) (h : i * s + j < L.flatten.length), L.flatten[i * s + j] = L[i][j]
  | [], _, i, j, hi, _, _ => absurd hi (by simp)
  | l :: L, h, 0, j, hi, hj, hh => by
    simp only [Nat.zero_mul, Nat.zero_add, List.getElem_cons_zero] at hj ⊢
    simp only [List.flatten_cons]
    rw [List.getElem_append_left hj]
  | l :: L, h, i + 1, j, hi, hj, hh => by
    have hl := h l (by simp)
    have e : (i + 1) * s + j = l.length + (i * s + j) := by rw [Nat.add_mul, hl]; omega
    simp only [e, List.getElem_cons_succ, List.flatten_cons]
    rw [List.getElem_append_right (by omega)]
    simp only [Nat.add_sub_cancel_left]
    exact flat_get (fun x hx => h x (by simp [hx])) _ _ _
/-- A row's element, cell by cell. -/
theorem ORow.elt {w : World} {base t s n cap : Nat} {ao : Option Addr} {L : List (List Value)} (h : ORow w base t s (.slice ao n cap) n L.flatten) (hL : ∀ l ∈ L, l.length = s) (hs : 0 < s) {i : Nat} (hi : i < L.length) :
    ∃ g off, ao = some ⟨g, off, none⟩ ∧ base ≤ g ∧ g < w.heap.size ∧ ∀ i (hi : i < L.length) j (hj : j < (L[i]).length), w.cell? ⟨g, off + (i * s + j), none⟩ = some (L[i][j]) ∧ w.frozen? ⟨g, off + (i * s + j), none⟩ = false := by
  have hfl := flat_len hL
  have hms : ∀ i, i < L.length → i * s + s ≤ L.length * s := fun i hi => by rw [← Nat.succ_mul]; exact Nat.mul_le_mul_right _ hi
  obtain ⟨g, off, e, h1, h2, h3⟩ := h.cell (k := i * s) (by have := hms i hi; omega)
  refine ⟨g, off, e, h1, h2, fun i hi j hj => ?_⟩
  have hlj := hL _ (List.getElem_mem hi)
  have hh : i * s + j < L.flatten.length := by have := hms i hi; omega
  have := h3 _ hh
  rwa [flat_get hL hi hj hh] at this
def insC (x : Ins) : List Value := [.int .i64 x.kind, .int .i64 x.a]
def insV (xs : List Ins) : List Value := (xs.map insC).flatten
theorem insC_len (xs : List Ins) : ∀ l ∈ xs.map insC, l.length = 2 := fun l hl => by
  obtain ⟨x, _, rfl⟩ := List.mem_map.1 hl; rfl
theorem insV_len (xs : List Ins) : (insV xs).length = xs.length * 2 := by unfold insV; rw [flat_len (insC_len xs), List.length_map]
theorem insV_one (xs : List Ins) : ∀ u ∈ insV xs, u.oneCell' = true := fun u hu => by
  obtain ⟨l, hl, hu⟩ := List.mem_flatten.1 hu
  obtain ⟨x, _, rfl⟩ := List.mem_map.1 hl
  simp [insC] at hu
  rcases hu with rfl | rfl <;> rfl
theorem insV_get (xs : List Ins) {i : Nat} (hi : i < xs.length) : (insV xs)[i * 2]'(by rw [insV_len]; omega) = .int .i64 xs[i].kind ∧ (insV xs)[i * 2 + 1]'(by rw [insV_len]; omega) = .int .i64 xs[i].a := by
  have h := insC_len xs
  have hi' : i < (xs.map insC).length := by simpa using hi
  have e0 := flat_get h (i := i) (j := 0) hi' (by simp [insC]) (by have := insV_len xs; unfold insV at this; omega)
  have e1 := flat_get h (i := i) (j := 1) hi' (by simp [insC]) (by have := insV_len xs; unfold insV at this; omega)
  simp only [List.getElem_map] at e0 e1
  exact ⟨e0, e1⟩
theorem add_none (a : Addr) (j : Nat) : (a.add j).block = a.block := by unfold Addr.add; split <;> rfl
theorem add_succ (a : Addr) (j : Nat) : (⟨(a.add j).block, (a.add j).off + 1, none⟩ : Addr) = a.add (j + 1) := by
  unfold Addr.add
  by_cases h : j = 0
  · subst h; simp
  · rw [if_neg h, if_neg (by omega)]; rfl
theorem add_succ2 (a : Addr) (j : Nat) : (⟨(a.add j).block, (a.add j).off + 2, none⟩ : Addr) = a.add (j + 2) := by
  unfold Addr.add
  by_cases h : j = 0
  · subst h; simp
  · rw [if_neg h, if_neg (by omega)]; rfl
theorem code_cells {w : World} {a : Addr} {xs : List Ins} (h : ReadsC w (some a) xs) : ∀ j u, (insV xs)[j]? = some u → w.cell? (a.add j) = some u := fun j u hu => by
  obtain ⟨hj, rfl⟩ := List.getElem?_eq_some_iff.1 hu
  have hl := insV_len xs
  have hi : j / 2 < xs.length := by omega
  obtain ⟨ad, e, c0, c1⟩ := h.at_ (Below.refl _ _) hi
  cases e
  obtain ⟨e0, e1⟩ := insV_get xs hi
  rcases Nat.mod_two_eq_zero_or_one j with hm | hm
  · have ej : j = j / 2 * 2 := by omega
    rw [show (insV xs)[j] = (insV xs)[j / 2 * 2]'(by omega) by congr 1, e0, ← c0, ← ej]
  · have ej : j = j / 2 * 2 + 1 := by omega
    rw [show (insV xs)[j] = (insV xs)[j / 2 * 2 + 1]'(by omega) by congr 1, e1, ← c1, add_succ, ← ej]
theorem code_none {w : World} {xs : List Ins} {A : Option Addr} (h : ReadsC w A xs) : A = none → xs = [] := fun e => by
  rcases Nat.eq_zero_or_pos xs.length with h0 | h0
  · exact List.eq_nil_of_length_eq_zero h0
  · obtain ⟨ad, e', _⟩ := h.2 h0
    rw [e] at e'; cases e'
theorem code_src {P : Program} {tx e' : TypeId} (hk : P.underlying tx = some (.slice e')) {w : World} {A : Option Addr} {c : Nat} {xs : List Ins} (h : ReadsC w A xs) : Src P 2 tx (.slice A xs.length c) xs.length (insV xs) w := by
  cases A with
  | none => rw [code_none h rfl]; exact Src.ofNil w hk c
  | some a => exact Src.ofSlice w hk a _ c _ (insV_len xs) (code_cells h) (insV_one xs)
theorem ORow.code {w : World} {base t n cap : Nat} {ao : Option Addr} {xs : List Ins} (h : ORow w base t 2 (.slice ao n cap) n (insV xs)) : n = xs.length ∧ ReadsC w ao xs := by
  have hl := h.len
  rw [insV_len] at hl
  have hn : xs.length = n := by omega
  refine ⟨hn.symm, ?_, fun h0 => ?_⟩
  · obtain ⟨_, _, e, h1, h2⟩ := h.shape
    injection e with e1 e2 e3
    unfold maxLen at h2; omega
  · obtain ⟨g, off, rfl, _, _, hc⟩ := h.elt (insC_len xs) (by decide) (i := 0) (by simpa using h0)
    refine ⟨_, rfl, fun k hk => ?_⟩
    have hk' : k < (xs.map insC).length := by simpa using hk
    have c0 := (hc k hk' 0 (by simp [insC])).1
    have c1 := (hc k hk' 1 (by simp [insC])).1
    simp only [List.getElem_map, insC, List.getElem_cons_zero, List.getElem_cons_succ, Nat.add_zero] at c0 c1
    rw [Addr.add_lit]
    exact ⟨c0, by simpa [Nat.add_assoc] using c1⟩
theorem info_ins : (Tryz.prog.info? 48).map (fun i => (i.zero, i.size, i.bytes)) = some (some (.agg #[.int .i64 0, .int .i64 0]), 2, 16) := by kernel_rfl
theorem info_func : (Tryz.prog.info? 84).map (fun i => (i.zero, i.size, i.bytes)) = some (some (.agg #[.int .i64 0, .int .i64 0, .slice none 0 0]), 3, 40) := by kernel_rfl
def fnC (f : Fn) (v : Value) : List Value := [.int .i64 f.args, .int .i64 f.locals, v]
/-- Functions of the call's own, their code too. -/
def OwnF (w : World) (base : Nat) (v : Value) (p : List Fn) : Prop :=
  ∃ vs : List Value, vs.length = p.length ∧ ORow w base 84 3 v p.length (List.zipWith fnC p vs).flatten ∧
    ∀ i (h : i < p.length) (h' : i < vs.length), ORow w base 48 2 vs[i] p[i].code.length (insV p[i].code) ∧ ∀ b, vs[i].ownBlock = some b → Apart v b
theorem fnC_len (p : List Fn) (vs : List Value) : ∀ l ∈ List.zipWith fnC p vs, l.length = 3 := fun l hl => by
  obtain ⟨i, hi, rfl⟩ := List.mem_iff_getElem.1 hl
  simp [fnC]
theorem OwnF.nil (w : World) (base : Nat) : OwnF w base (.slice none 0 0) [] := ⟨[], rfl, ORow.nil _ _ _ _, fun _ h => absurd h (Nat.not_lt_zero _)⟩
theorem OwnF.below {w w1 : World} {base : Nat} {v : Value} {p : List Fn} (h : OwnF w base v p) (hb : Below w.heap.size w w1) : OwnF w1 base v p := by
  obtain ⟨vs, h0, h1, h2⟩ := h
  exact ⟨vs, h0, h1.below hb, fun i hi hi' => ⟨(h2 i hi hi').1.below hb, (h2 i hi hi').2⟩⟩
theorem OwnF.mono {w : World} {base base' : Nat} {v : Value} {p : List Fn} (h : OwnF w base v p) (hb : base' ≤ base) : OwnF w base' v p := by
  obtain ⟨vs, h0, h1, h2⟩ := h
  exact ⟨vs, h0, h1.mono hb, fun i hi hi' => ⟨(h2 i hi hi').1.mono hb, (h2 i hi hi').2⟩⟩
theorem OwnF.chg {S : Nat → Prop} {w w1 : World} {base : Nat} {v : Value} {p : List Fn} (h : OwnF w base v p) (hk : Chg S w w1) (hs : ∀ k, S k → k < base) : OwnF w1 base v p := by
  obtain ⟨vs, h0, h1, h2⟩ := h
  have no : ∀ (x : Value), (∀ k, x.ownBlock = some k → base ≤ k) → ∀ k, x.ownBlock = some k → ¬ S k := fun x hx k hk hS => by have := hx k hk; have := hs k hS; omega
  exact ⟨vs, h0, h1.chg hk (no _ h1.lo), fun i hi hi' => ⟨(h2 i hi hi').1.chg hk (no _ (h2 i hi hi').1.lo), (h2 i hi hi').2⟩⟩
theorem OwnF.shape {w : World} {base : Nat} {v : Value} {p : List Fn} (h : OwnF w base v p) : ∃ ao cap, v = .slice ao p.length cap := by
  obtain ⟨vs, h0, h1, h2⟩ := h
  obtain ⟨ao, cap, e, _⟩ := h1.shape
  exact ⟨ao, cap, e⟩
theorem OwnF.lt {w : World} {base : Nat} {v : Value} {p : List Fn} (h : OwnF w base v p) : ∀ b, v.ownBlock = some b → base ≤ b ∧ b < w.heap.size := by
  obtain ⟨vs, h0, h1, h2⟩ := h
  exact h1.in_
theorem OwnF.reads {w : World} {base cap : Nat} {ao : Option Addr} {p : List Fn} (h : OwnF w base (.slice ao p.length cap) p) : ReadsF w ao p := by
  obtain ⟨vs, h0, h1, h2⟩ := h
  have hzl : (List.zipWith fnC p vs).length = p.length := by simp [h0]
  refine ⟨?_, fun hp => ?_⟩
  · obtain ⟨_, _, e, g1, g2⟩ := h1.shape
    injection e with e1 e2 e3
    unfold maxLen at g2; omega
  · obtain ⟨g, off, rfl, _, _, hc⟩ := h1.elt (fnC_len p vs) (by decide) (i := 0) (by omega)
    refine ⟨_, rfl, fun k hk => ?_⟩
    have hk' : k < (List.zipWith fnC p vs).length := by omega
    have hkv : k < vs.length := by omega
    have c0 := (hc k hk' 0 (by simp [fnC])).1
    have c1 := (hc k hk' 1 (by simp [fnC])).1
    have c2 := (hc k hk' 2 (by simp [fnC])).1
    simp only [List.getElem_zipWith, fnC, List.getElem_cons_zero, List.getElem_cons_succ, Nat.add_zero] at c0 c1 c2
    obtain ⟨hr, _⟩ := h2 k hk hkv
    obtain ⟨ac, cc, ev, _, _⟩ := hr.shape
    rw [ev] at hr c2
    rw [Addr.add_lit]
    exact ⟨c0, by simpa [Nat.add_assoc] using c1, ac, cc, by simpa [Nat.add_assoc] using c2, hr.code.2⟩
/-- A function more. -/
theorem OwnF.grow {w w' : World} {base : Nat} {v v' vn : Value} {p : List Fn} {f : Fn} {vs : List Value} (h0 : vs.length = p.length)
    (h2 : ∀ i (h : i < p.length) (h' : i < vs.length), ORow w base 48 2 vs[i] p[i].code.length (insV p[i].code) ∧ ∀ b, vs[i].ownBlock = some b → Apart v b)
    (hn : ORow w base 48 2 vn f.code.length (insV f.code)) (ha : ∀ b, vn.ownBlock = some b → Apart v b)
    (hG : Grown w base 84 3 v (p.length + 1) ((List.zipWith fnC p vs).flatten ++ fnC f vn) v' w') : OwnF w' base v' (p ++ [f]) := by
  refine ⟨vs ++ [vn], by simp [h0], ?_, fun i hi hi' => ?_⟩
  · have := hG.row
    rw [List.length_append, List.zipWith_append h0.symm, List.flatten_append]
    simpa using this
  have key : ∀ (x : Value) (l : List Ins), ORow w base 48 2 x l.length (insV l) → (∀ b, x.ownBlock = some b → Apart v b) → ORow w' base 48 2 x l.length (insV l) ∧ ∀ b, x.ownBlock = some b → Apart v' b := fun x l hx hxa =>
    ⟨hx.grown hG.kept (by
      rcases he : x.ownBlock with _ | b
      · exact .inl rfl
      · exact .inr fun e => hxa b he e.symm), fun b hb => hG.apart (hx.in_ b hb).2 (hxa b hb)⟩
  rcases Nat.lt_or_ge i p.length with hlt | hge
  · have hlt' : i < vs.length := by omega
    rw [List.getElem_append_left hlt, List.getElem_append_left hlt']
    exact key _ _ (h2 i hlt hlt').1 (h2 i hlt hlt').2
  · obtain rfl : i = p.length := by rw [List.length_append] at hi; simp at hi; omega
    have e1 : (p ++ [f])[p.length] = f := by simp
    have e2 : (vs ++ [vn])[p.length]'hi' = vn := by
      rw [List.getElem_append_right (by omega)]; simp [h0]
    rw [e1, e2]
    exact key _ _ hn ha
/-- No list of a program is longer than the reach. -/
def Fits (p : List Fn) : Prop := p.length * 40 ≤ 140737488351232 ∧ ∀ f ∈ p, f.code.length * 16 ≤ 140737488351232
theorem t0_ne {v : Value} {a b : Nat} (h : ∀ x, v.ownBlock = some x → a ≤ x) (hb : b < a) : v.ownBlock ≠ some b := fun e => by have := h b e; omega
/-- A call that answers a program of its own. -/
def ProgE (p : List Fn) (w : World) (e : Ending) (w' : World) : Prop := ∃ ao cap, e = .returned (.agg #[.slice ao p.length cap]) ∧ OwnF w' w.heap.size (.slice ao p.length cap) p ∧ Below w.heap.size w w'
theorem row_cell {t b : Nat} {v : Value} {w : World} (h : RowAt t b [v] w) : w.cell? ⟨b, 0, none⟩ = some v := h.cell (k := 0) (by simp)
end Go.Proofs.YtjghibdlmmjobaaGreatDoor

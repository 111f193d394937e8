/- 'verify.All', 'verify.Program' and the document's 'Verify' answer the same error; All gives the heights of all functions. Conditions: the program lies in memory as it is said; errors.errorType is laid. -/
import Derived.Test.YtpfgklkdldkajaaDoorRefVerify
namespace Go.Proofs.YtpfgklkdldkajaaDoor
open Go.RowKit

theorem verifyOf_no {p : List Fn} (h : packs p = false) : verifyOf p = 500 := by unfold verifyOf; rw [h]; rfl
theorem verifyOf_err {p : List Fn} (h : packs p = true) {k : Nat} (hk : k < p.length) (hv : ∀ j (hj : j < p.length), j < k → (heightsF p p[j]).2.2 = 0) (he : (heightsF p p[k]).2.2 ≠ 0) : verifyOf p = (heightsF p p[k]).2.2 := by
  unfold verifyOf
  rw [if_pos h]
  have : p.find? (fun f => (heightsF p f).2.2 != 0) = some p[k] := by
    rw [List.find?_eq_some_iff_getElem]
    exact ⟨by simpa using he, k, hk, rfl, fun j hj => by simp [hv j (by omega) hj]⟩
  rw [this]
theorem verifyOf_ok {p : List Fn} (h : packs p = true) (hv : ∀ j (hj : j < p.length), (heightsF p p[j]).2.2 = 0) : verifyOf p = 0 := by
  unfold verifyOf
  rw [if_pos h]
  have : p.find? (fun f => (heightsF p f).2.2 != 0) = none := by
    rw [List.find?_eq_none]
    intro x hx
    obtain ⟨j, hj, rfl⟩ := List.mem_iff_getElem.1 hx
    simp [hv j hj]
  rw [this]
theorem verifyOf_packs {p : List Fn} (h : verifyOf p = 0) : packs p = true := by
  cases hp : packs p with
  | true => rfl
  | false => rw [verifyOf_no hp] at h; cases h
theorem verifyOf_fn {p : List Fn} (h : verifyOf p = 0) {k : Nat} (hk : k < p.length) : (heightsF p p[k]).2.2 = 0 := by
  have hp := verifyOf_packs h
  unfold verifyOf at h
  rw [if_pos hp] at h
  split at h
  · rename_i f hf
    have := List.find?_some hf
    simp only [bne_iff_ne, ne_eq] at this
    exact absurd h this
  · rename_i hf
    rw [List.find?_eq_none] at hf
    have := hf p[k] (List.getElem_mem hk)
    simpa using this
theorem upto_next {α : Type} {xs : List α} {q : α → Prop} {k : Nat} (h : ∀ j (hj : j < xs.length), j < k → q xs[j]) (hk : k < xs.length) (he : q xs[k]) : ∀ j (hj : j < xs.length), j < k + 1 → q xs[j] := fun j hj h1 => by
  rcases Nat.lt_or_ge j k with h2 | h2
  · exact h j hj h2
  · obtain rfl : j = k := by omega
    exact he
/-- Rows of ints, of the call's own. -/
def Book (w : World) (base : Nat) (v : Value) (hs : List (List Int)) : Prop :=
  ∃ vs : List Value, ORow w base 32 1 v hs.length vs ∧ ∀ i (h : i < hs.length) (h' : i < vs.length), ORow w base 3 1 vs[i] hs[i].length (intsV hs[i]) ∧ ∀ b, vs[i].ownBlock = some b → Apart v b
theorem info_ints : (Tryd.prog.info? 32).map (fun i => (i.zero, i.size, i.bytes)) = some (some (.slice none 0 0), 1, 24) := by kernel_rfl
def bookOf (p : List Fn) : List (List Int) := p.map fun f => (heightsF p f).1
/-- What 'All' answers. -/
def AllE (p : List Fn) (w : World) (e : Ending) (w' : World) : Prop := ∃ v, e = .returned (.tuple #[v, .int .i64 (verifyOf p)]) ∧ Below w.heap.size w w' ∧ (verifyOf p = 0 → Book w' w.heap.size v (bookOf p)) ∧ (verifyOf p ≠ 0 → v = .slice none 0 0)
theorem Book.below {w w1 : World} {base : Nat} {v : Value} {hs : List (List Int)} (h : Book w base v hs) (hb : Below w.heap.size w w1) : Book w1 base v hs := by
  obtain ⟨vs, h1, h2⟩ := h
  exact ⟨vs, h1.below hb, fun i hi hi' => ⟨(h2 i hi hi').1.below hb, (h2 i hi hi').2⟩⟩
theorem Book.mono {w : World} {base base' : Nat} {v : Value} {hs : List (List Int)} (h : Book w base v hs) (hb : base' ≤ base) : Book w base' v hs := by
  obtain ⟨vs, h1, h2⟩ := h
  exact ⟨vs, h1.mono hb, fun i hi hi' => ⟨(h2 i hi hi').1.mono hb, (h2 i hi hi').2⟩⟩
theorem Book.nil (w : World) (base : Nat) : Book w base (.slice none 0 0) [] := ⟨[], ORow.nil _ _ _ _, fun _ h => absurd h (Nat.not_lt_zero _)⟩
theorem cellsV_one {v : Value} {n : Nat} {ao : Option Addr} {c : Nat} (h : v = .slice ao n c) : v.oneCell' = true := by subst h; rfl
/-- A row more. -/
theorem Book.grow {w w' : World} {base : Nat} {v v' vn : Value} {hs : List (List Int)} {h : List Int} {vs : List Value} (h1 : ORow w base 32 1 v hs.length vs)
    (h2 : ∀ i (h : i < hs.length) (h' : i < vs.length), ORow w base 3 1 vs[i] hs[i].length (intsV hs[i]) ∧ ∀ b, vs[i].ownBlock = some b → Apart v b) (hn : ORow w base 3 1 vn h.length (intsV h)) (ha : ∀ b, vn.ownBlock = some b → Apart v b)
    (hG : Grown w base 32 1 v (hs.length + 1) (vs ++ [vn]) v' w') : Book w' base v' (hs ++ [h]) := by
  have hl := h1.len
  rw [Nat.mul_one] at hl
  refine ⟨vs ++ [vn], by rw [List.length_append]; exact hG.row, fun i hi hi' => ?_⟩
  have key : ∀ (x : Value) (l : List Int), ORow w base 3 1 x l.length (intsV l) → (∀ b, x.ownBlock = some b → Apart v b) → ORow w' base 3 1 x l.length (intsV l) ∧ ∀ b, x.ownBlock = some b → Apart v' b := fun x l hx hxa =>
    ⟨hx.grown hG.kept (by
      rcases he : x.ownBlock with _ | b
      · exact .inl rfl
      · exact .inr fun e => hxa b he e.symm), fun b hb => hG.apart (hx.in_ b hb).2 (hxa b hb)⟩
  rcases Nat.lt_or_ge i hs.length with hlt | hge
  · have hlt' : i < vs.length := by omega
    rw [List.getElem_append_left hlt, List.getElem_append_left hlt']
    exact key _ _ (h2 i hlt hlt').1 (h2 i hlt hlt').2
  · obtain rfl : i = hs.length := by rw [List.length_append] at hi; simp at hi; omega
    have e1 : (hs ++ [h])[hs.length] = h := by simp
    have e2 : (vs ++ [vn])[hs.length]'hi' = vn := by
      rw [List.getElem_append_right (by omega)]; simp [hl]
    rw [e1, e2]
    exact key _ _ hn ha
theorem heights_len {p : List Fn} {f : Fn} (h : (heightsF p f).2.2 = 0) : (heightsF p f).1.length = f.code.length ∧ hwalkOf p f.code = .inr (heightsF p f).1 ∧ plainOf p f = none := by
  unfold heightsF at h ⊢
  cases hp : plainOf p f with
  | some e =>
    rw [hp] at h
    simp only at h
    exfalso
    unfold plainOf at hp
    split at hp
    · injection hp with e1; subst e1; simp at h
    · split at hp
      · injection hp with e1; subst e1; simp at h
      · cases hp
  | none =>
    rw [hp] at h
    simp only at h ⊢
    cases hw : hwalkOf p f.code with
    | inl pc => rw [hw] at h; simp at h
    | inr out => exact ⟨hwalkOf_len hw, by first | rfl | trivial, by first | rfl | trivial⟩
theorem bookOf_take {p : List Fn} {k : Nat} (hk : k < p.length) : (bookOf p).take (k + 1) = (bookOf p).take k ++ [(heightsF p p[k]).1] := by
  rw [List.take_succ_eq_append_getElem (by simpa [bookOf] using hk)]
  simp [bookOf]
set_option maxRecDepth 100000 in
set_option maxHeartbeats 4000000 in
theorem all_any (P : Addr) (p : List Fn) (Ap : Option Addr) (cp : Nat) (w : World) (hl : Laid w) (hP : w.cell? P = some (.slice Ap p.length cp)) (hr : ReadsF w Ap p) :
    Calls Tryd.prog 61 #[.pointer (some P)] w (AllE p w) := by
  have HM := Lib.hid (packMay_any P Ap cp p w hP hr)
  have hn : p.length ≤ 9223372036854775807 := hr.1
  have HRF := Lib.hid hr
  have HP := Lib.hid hP
  have HL := Lib.hid hl
  clear hr hP hl
  cases hp : packs p with
  | false =>
    rw [hp] at HM
    have HE := Lib.hid (verifyOf_no hp)
    clear hp
    go_enter Tryd.func61, Tryd.ntmps61
    go_wp2_with fail
    refine HM.out.mono ?_
    rintro e w2 ⟨rfl, hB⟩
    have B2 := Lib.hid hB
    clear hB
    go_wp2_with fail
    go_ret2
    exact ⟨_, by rw [HE.out]; rfl, B2.out, (fun h => by rw [HE.out] at h; cases h), fun _ => rfl⟩
  | true =>
    rw [hp] at HM
    have HPK := Lib.hid hp
    have hp8 := (packs_len hp).2
    clear hp
    go_enter Tryd.func61, Tryd.ntmps61
    go_wp2_with fail
    refine HM.out.mono ?_
    rintro e w2 ⟨rfl, hB⟩
    have B2 := Lib.hid hB
    have c0 := (hB.cell (World.block_lt_of_cell? _ _ HP.out)).trans HP.out
    clear hB
    go_wp2_with fail
    clear c0
    go_loopw [4, 17] (fun v i wr => ∃ k : Nat, k ≤ p.length ∧ i = .int .i64 k ∧ (∀ j (hj : j < p.length), j < k → (heightsF p p[j]).2.2 = 0) ∧ Below w.heap.size w wr ∧ Book wr w.heap.size v ((bookOf p).take k)) (fun _ i _ => p.length - (intOf i).toNat)
    case atStart => exact ⟨0, Nat.zero_le _, rfl, fun _ _ h => absurd h (Nat.not_lt_zero _), B2.out, by simpa using Book.nil _ _⟩
    case round =>
      obtain ⟨k, hk, rfl, hv, hB, hbk⟩ := hrel
      have c0 := (hB.cell (World.block_lt_of_cell? _ _ HP.out)).trans HP.out
      have HV := Lib.hid hv
      have HB := Lib.hid hB
      have HBK := Lib.hid hbk
      clear hv hB hbk
      by_cases hlt : k < p.length
      · have HH := Lib.hid (heightsV_any p Ap cp k wr (HL.out.below HB.out) (HRF.out.below HB.out))
        rw [heightsOf_yes HPK.out hlt] at HH
        obtain ⟨r, hr⟩ : ∃ r, heightsF p p[k] = r := ⟨_, rfl⟩
        rw [hr] at HH
        have HR := Lib.hid hr
        clear hr
        by_cases he : r.2.2 = 0
        · have de : (r.2.2 != 0) = false := by simpa using he
          have HE := Lib.hid he
          clear he
          go_wp2_with fail
          refine HH.out.mono ?_
          rintro e w3 ⟨vn, rfl, hrow, hB3⟩
          obtain ⟨an, cn, hvn, _, _⟩ := hrow.shape
          subst hvn
          have B3 := Lib.hid (below_trans HB.out hB3)
          have HROW := Lib.hid hrow
          have HBK3 := Lib.hid (HBK.out.below hB3)
          have bk := below_alloc (Below.refl w3.heap.size w3) (.cells #[Value.slice an r.1.length cn] 32)
          have HBK4 := Lib.hid (HBK3.out.below bk)
          have B4 := Lib.hid (below_alloc B3.out (.cells #[Value.slice an r.1.length cn] 32))
          have HROW4 := Lib.hid ((hrow.below bk).mono HB.out.size)
          have HAP := Lib.hid (show ∀ b, (Value.slice an r.1.length cn).ownBlock = some b → wr.heap.size ≤ b from hrow.lo)
          have hsrc : Src Tryd.prog 1 116 (.slice (some ⟨w3.heap.size, 0, none⟩) 1 1) 1 [Value.slice an r.1.length cn] (w3.alloc (.cells #[Value.slice an r.1.length cn] 32)) :=
            Src.ofSlice _ Tryd.underlying116 _ 1 1 [Value.slice an r.1.length cn] rfl (fun j u hu => by
              obtain ⟨hj, rfl⟩ := List.getElem?_eq_some_iff.1 hu
              obtain rfl : j = 0 := by simpa using hj
              rw [add_plain]; exact (blk_cell (blk_new w3 _) 0).trans rfl) (fun u hu => by
              simp at hu; subst hu; rfl)
          have HSRC := Lib.hid hsrc
          obtain ⟨vs, hO⟩ := HBK4.out
          have HO := Lib.hid hO
          have hlen : ((bookOf p).take k).length = k := by simp [bookOf]; omega
          have hO1 := hO.1
          rw [hlen] at hO1
          have HO1 := Lib.hid hO1
          have HLEN := Lib.hid hlen
          clear hB3 hrow bk hsrc hO hO1 hlen
          obtain ⟨i0, hi0, hz0, hs0, hb0⟩ := info_parts info_ints
          have HI0 := Lib.hid hi0
          have HZ0 := Lib.hid hz0
          have HS0 := Lib.hid hs0
          have HBY := Lib.hid hb0
          clear hi0 hz0 hs0 hb0
          go_upto_region 10 with fail
          go_wp2_with (first | (at_builtin; refine wpList_append_row _ rfl _ _ 116 116 32 rfl i0 (.slice none 0 0) 1 24 Tryd.underlying116 HI0.out HZ0.out HS0.out HBY.out rfl w.heap.size _ k vs rfl HO1.out ?c1 _ 1 [Value.slice an r.1.length cn] rfl HSRC.out ?c2 ?c3 ?_; rotate_left 3; intro v' w5 hG) | fail)
          case c1 => have := B3.out.size; simp; omega
          case c2 => omega
          case c3 => unfold maxLen; omega
          have hb5 := B4.out.grown hG.kept (by have := B3.out.size; simp; omega) (fun x hx => HO1.out.lo x hx)
          have hbook : Book w5 w.heap.size v' ((bookOf p).take k ++ [r.1]) := by
            refine Book.grow HO.out.1 HO.out.2 HROW4.out (fun b hb e => ?_) ?_
            · have h1 := HAP.out b hb
              have h2 := (HBK.out) |> fun ⟨_, h, _⟩ => (h.in_ b e).2
              omega
            · rw [HLEN.out]; exact hG
          have HBOOK := Lib.hid hbook
          have HB5 := Lib.hid hb5
          clear hG hb5 hbook
          go_wp2_with fail
          go_roundw
          case rel => exact ⟨k + 1, by omega, by go_num, upto_next (q := fun f => (heightsF p f).2.2 = 0) HV.out hlt (by rw [HR.out]; exact HE.out), HB5.out, by rw [bookOf_take hlt, HR.out]; exact HBOOK.out⟩
          case measure => simp only [intOf]; omega
        · have de : (r.2.2 != 0) = true := by simpa using he
          have HE := Lib.hid he
          clear he
          go_wp2_with fail
          refine HH.out.mono ?_
          rintro e w3 ⟨v, rfl, _, hB3⟩
          have B3 := Lib.hid (below_trans HB.out hB3)
          clear hB3
          go_wp2_with fail
          go_ret2
          have hver := verifyOf_err HPK.out hlt HV.out (by rw [HR.out]; exact HE.out)
          rw [HR.out] at hver
          exact ⟨_, by rw [hver]; rfl, B3.out, (fun h => absurd (hver.symm.trans h) HE.out), fun _ => rfl⟩
      · have hver := verifyOf_ok HPK.out (fun j hj => HV.out j hj (by omega))
        have HVER := Lib.hid hver
        clear hver
        go_wp2_with fail
        go_ret2
        exact ⟨_, by rw [HVER.out]; rfl, HB.out, (fun _ => by have := HBK.out; rwa [List.take_of_length_le (by simp [bookOf]; omega)] at this), fun h => absurd HVER.out h⟩
set_option maxHeartbeats 1000000 in
theorem program_any (p : List Fn) (Ap : Option Addr) (cp : Nat) (w : World) (hl : Laid w) (hr : ReadsF w Ap p) :
    Calls Tryd.prog 35 #[.agg #[.slice Ap p.length cp]] w (Ret (.int .i64 (verifyOf p)) w) := by
  have b1 : Below w.heap.size w (w.alloc (.cells #[.slice Ap p.length cp] 24)) := below_alloc (Below.refl _ _) _
  have hP1 : (w.alloc (.cells #[.slice Ap p.length cp] 24)).cell? ⟨w.heap.size, 0, none⟩ = some (.slice Ap p.length cp) := (blk_cell (blk_new w _) 0).trans rfl
  have HA := Lib.hid (all_any ⟨w.heap.size, 0, none⟩ p Ap cp _ (hl.below b1) hP1 (hr.below b1))
  have HB := Lib.hid b1
  clear b1 hP1 hl hr
  go_enter Tryd.func35, Tryd.ntmps35
  go_wp2_with fail
  refine HA.out.mono ?_
  rintro e w2 ⟨v, rfl, hB, -⟩
  have B2 := Lib.hid (below_trans HB.out hB)
  clear hB
  go_wp2_with fail
  go_ret
  exact ⟨rfl, B2.out⟩
end Go.Proofs.YtpfgklkdldkajaaDoor

/- Queues: rows of ints of the call's own that are cut at their head and appended to. Plain definitions, one law on 'append', one on 's[1:]'. -/
import Derived.Test.YtpfgklkdldkajaaDoorOwn
namespace Go.Proofs.YtpfgklkdldkajaaDoor
open Go.RowKit

/-- A row of ints of the call's own, wherever it begins in its block. -/
def QRow (w : World) (base : Nat) (v : Value) (xs : List Int) : Prop :=
  ∃ ao cap, v = .slice ao xs.length cap ∧ xs.length ≤ cap ∧ cap ≤ maxLen ∧ (ao = none → cap = 0) ∧ (∀ a, ao = some a → base ≤ a.block) ∧
    (0 < cap → ∃ g off cur, ao = some ⟨g, off, none⟩ ∧ base ≤ g ∧ w.heap[g]? = some (.cells cur 3 (0, 0)) ∧ off + cap ≤ cur.size ∧ ∀ k (h : k < xs.length), cur[off + k]? = some (.int .i64 xs[k]))
/-- The row lies apart from a block. -/
def Apart (v : Value) (b : Nat) : Prop := v.ownBlock ≠ some b
theorem QRow.nil (w : World) (base : Nat) : QRow w base (.slice none 0 0) [] := ⟨none, 0, rfl, Nat.le_refl _, by decide, fun _ => rfl, (fun a h => by cases h), fun h => absurd h (by decide)⟩
theorem QRow.of_row {w : World} {base b : Nat} {xs : List Int} (h : RowAt 3 b (intsV xs) w) (hb : base ≤ b) (hl : xs.length ≤ 1000000) : QRow w base (.slice (some ⟨b, 0, none⟩) xs.length xs.length) xs :=
  ⟨_, _, rfl, Nat.le_refl _, (by unfold maxLen; omega), (fun e => by cases e), (fun a e => by cases e; exact hb), fun _ => ⟨b, 0, _, rfl, hb, h, by simp [intsV], fun k hk => by simp [intsV, hk]⟩⟩
theorem QRow.keeps {w w1 : World} {base g : Nat} {v : Value} {xs : List Int} (h : QRow w base v xs) (hk : Keeps g w w1) (ha : Apart v g) : QRow w1 base v xs := by
  obtain ⟨ao, cap, rfl, h1, h2, h3, hlo, h4⟩ := h
  refine ⟨ao, cap, rfl, h1, h2, h3, hlo, fun hc => ?_⟩
  obtain ⟨b, off, cur, rfl, h5, h6, h7, h8⟩ := h4 hc
  have hne : b ≠ g := fun e => ha (by rw [e]; rfl)
  exact ⟨b, off, cur, rfl, h5, (hk.block b (blk_lt h6) (by simpa using hne)).trans h6, h7, h8⟩
theorem QRow.below {w w1 : World} {base : Nat} {v : Value} {xs : List Int} (h : QRow w base v xs) (hb : Below w.heap.size w w1) : QRow w1 base v xs := by
  obtain ⟨ao, cap, rfl, h1, h2, h3, hlo, h4⟩ := h
  refine ⟨ao, cap, rfl, h1, h2, h3, hlo, fun hc => ?_⟩
  obtain ⟨b, off, cur, rfl, h5, h6, h7, h8⟩ := h4 hc
  exact ⟨b, off, cur, rfl, h5, (hb.block b (blk_lt h6)).trans h6, h7, h8⟩
theorem QRow.reads {w : World} {base : Nat} {v : Value} {xs : List Int} (h : QRow w base v xs) : ∃ ao cap, v = .slice ao xs.length cap ∧ ReadsI w ao xs := by
  obtain ⟨ao, cap, rfl, h1, h2, h3, hlo, h4⟩ := h
  refine ⟨ao, cap, rfl, by unfold maxLen at h2; omega, fun h0 => ?_⟩
  obtain ⟨b, off, cur, rfl, h5, h6, h7, h8⟩ := h4 (by omega)
  exact ⟨_, rfl, fun j hj => by rw [Addr.add_lit, blk_cell h6]; exact h8 j hj⟩
theorem QRow.tail {w : World} {base : Nat} {ao : Option Addr} {n cap : Nat} {x : Int} {xs : List Int} (h : QRow w base (.slice ao n cap) (x :: xs)) : ∃ g off, ao = some ⟨g, off, none⟩ ∧ n = xs.length + 1 ∧ 1 ≤ cap ∧ w.cell? ⟨g, off, none⟩ = some (.int .i64 x) ∧
    (cap = 1 → QRow w base (.slice (some ⟨g, off, none⟩) xs.length 0) xs) ∧ (1 < cap → QRow w base (.slice (some ⟨g, off + 1, none⟩) xs.length (cap - 1)) xs) := by
  obtain ⟨ao', cap', e, h1, h2, h3, hlo, h4⟩ := h
  injection e with e1 e2 e3
  subst e1 e2 e3
  rw [List.length_cons] at h1
  obtain ⟨g, off, cur, rfl, g1, g2, g3, g4⟩ := h4 (by omega)
  refine ⟨g, off, rfl, rfl, by omega, ?_, fun hc => ?_, fun hc => ?_⟩
  · rw [blk_cell g2]; have := g4 0 (by simp); simpa using this
  · obtain rfl : xs = [] := List.eq_nil_of_length_eq_zero (by omega)
    exact ⟨some ⟨g, off, none⟩, 0, rfl, Nat.le_refl _, by decide, (fun e => by cases e), hlo, fun h => absurd h (by decide)⟩
  · refine ⟨some ⟨g, off + 1, none⟩, cap - 1, rfl, by omega, by omega, (fun e => by cases e), (fun a e => by cases e; exact g1), fun _ => ⟨g, off + 1, cur, rfl, g1, g2, by omega, fun k hk => ?_⟩⟩
    have := g4 (k + 1) (by simpa using hk)
    rw [show off + 1 + k = off + (k + 1) by omega, this]; simp
theorem keeps_setCells (b : Nat) : ∀ (vs : List Value) (o : Nat) (w : World), Keeps b w (w.setCells b o vs)
  | [], _, w => Keeps.refl b w
  | v :: r, o, w => (Keeps.put (Keeps.refl b w) o v).trans (keeps_setCells b r (o + 1) _)
theorem setCells_block (b : Nat) (t : Nat) : ∀ (vs : List Value) (o : Nat) (w : World) (cur : Array Value), w.heap[b]? = some (.cells cur t (0, 0)) →
    ∃ cur', (w.setCells b o vs).heap[b]? = some (.cells cur' t (0, 0)) ∧ cur'.size = cur.size ∧ (∀ k, k < o → cur'[k]? = cur[k]?) ∧ (∀ j (h : j < vs.length), o + j < cur.size → cur'[o + j]? = some vs[j])
  | [], o, w, cur, h => ⟨cur, h, rfl, fun _ _ => rfl, fun j hj => absurd hj (by simp)⟩
  | v :: r, o, w, cur, h => by
    have h1 : (w.setCell ⟨b, o, none⟩ v).heap[b]? = some (.cells (cur.setIfInBounds o v) t (0, 0)) := by
      simp [World.setCell, Array.getElem?_modify, h]
    obtain ⟨cur', h2, h3, h4, h5⟩ := setCells_block b t r (o + 1) _ _ h1
    refine ⟨cur', h2, by rw [h3]; simp, fun k hk => ?_, fun j hj hjs => ?_⟩
    · rw [h4 k (by omega), Array.getElem?_setIfInBounds_ne (by omega)]
    · cases j with
      | zero =>
        rw [Nat.add_zero, h4 o (by omega)]
        simp only [Nat.add_zero] at hjs
        simp [hjs]
      | succ j =>
        have := h5 j (by simpa using hj) (by simp; omega)
        rw [show o + (j + 1) = o + 1 + j by omega, this]; simp
theorem QRow.lo {w : World} {base : Nat} {v : Value} {xs : List Int} (h : QRow w base v xs) : ∀ k, v.ownBlock = some k → base ≤ k := by
  obtain ⟨ao, cap, rfl, h1, h2, h3, hlo, h4⟩ := h
  intro k hk
  cases ao with
  | none => cases hk
  | some a => cases hk; exact hlo a rfl
theorem ReadsI.keeps {w w1 : World} {A : Option Addr} {xs : List Int} {g : Nat} (h : ReadsI w A xs) (hk : Keeps g w w1) (hne : ∀ a, A = some a → a.block ≠ g) : ReadsI w1 A xs :=
  ⟨h.1, fun h0 => by
    obtain ⟨ad, e, hc⟩ := h.2 h0
    refine ⟨ad, e, fun j hj => ?_⟩
    have c := hc j hj
    have hb : (ad.add j).block = ad.block := by unfold Addr.add; split <;> rfl
    exact (hk.cell (a := ad.add j) c (by rw [hb]; simpa using hne ad e))⟩
theorem ReadsI.grown {w w1 : World} {A : Option Addr} {xs : List Int} {row : Option Nat} (h : ReadsI w A xs) (hk : w.grownBy w1 row) (hne : ∀ a, A = some a → row ≠ some a.block) : ReadsI w1 A xs :=
  ⟨h.1, fun h0 => by
    obtain ⟨ad, e, hc⟩ := h.2 h0
    refine ⟨ad, e, fun j hj => ?_⟩
    have c := hc j hj
    have hb : (ad.add j).block = ad.block := by unfold Addr.add; split <;> rfl
    exact (hk.cell (a := ad.add j) c (by rw [hb]; exact fun e' => hne ad e e'.symm))⟩
theorem ReadsI.lt_block {w : World} {A : Option Addr} {xs : List Int} (h : ReadsI w A xs) (h0 : 0 < xs.length) (a : Addr) (e : A = some a) : a.block < w.heap.size := by
  obtain ⟨ad, e', hc⟩ := h.2 h0
  cases e.symm.trans e'
  have := World.block_lt_of_cell? w _ (hc 0 h0)
  have hb : (a.add 0).block = a.block := by unfold Addr.add; split <;> rfl
  rwa [hb] at this
theorem RowAt.grown {t b : Nat} {vs : List Value} {w w1 : World} {row : Option Nat} (h : RowAt t b vs w) (hk : w.grownBy w1 row) (hn : row ≠ some b) : RowAt t b vs w1 := (hk.block b (blk_lt h) (fun e => hn e.symm)).trans h
/-- Behind 'append': what the row is, what stays. -/
structure Grew (w : World) (base : Nat) (v : Value) (xs : List Int) (v' : Value) (w' : World) : Prop where
  row : QRow w' base v' xs
  kept : w.grownBy w' v.ownBlock
  at_ : v'.ownBlock = v.ownBlock ∨ ∃ g, v'.ownBlock = some g ∧ w.heap.size ≤ g
theorem Grew.apart {w w' : World} {base : Nat} {v v' : Value} {xs : List Int} (h : Grew w base v xs v' w') {b : Nat} (hb : b < w.heap.size) (ha : Apart v b) : Apart v' b := by
  rcases h.at_ with e | ⟨g, e, hg⟩
  · unfold Apart; rw [e]; exact ha
  · unfold Apart; rw [e]; intro h; cases h; omega

theorem wpList_append_q {ops : Array Oper} {rest : List Oper} {o : Oper} {a : Act} {Q : Exit → Act → World → Prop} (w : World) (hg : o.guard = none) (s x : Operand)
    (hop : o.op = Op.call { callee := Callee.builtin Builtin.append, args := #[s, x], argTypes := #[32, 32] }) (base : Nat) (v : Value) (xs : List Int) (hs : a.eval s = v) (hq : QRow w base v xs) (hbase : base ≤ w.heap.size)
    (ad : Addr) (m c : Nat) (news : List Int) (hx : a.eval x = .slice (some ad) m c) (hm : news.length = m) (hpos : 0 < m) (hc : ∀ j (h : j < news.length), w.cell? (ad.add j) = some (.int .i64 news[j])) (hlen : xs.length + m ≤ 1000000)
    (h : ∀ v' w', Grew w base v (xs ++ news) v' w' → wpList Tryd.prog ops Q rest (a.put o.dst v') w') : wpList Tryd.prog ops Q (o :: rest) a w := by
  obtain ⟨i, hi, hz, hsz, hby⟩ := info_parts info_int
  obtain ⟨ao, cap, rfl, q1, q2, q3, qlo, q4⟩ := hq
  subst hm
  have hnews : ∀ j u, (intsV news)[j]? = some u → w.cell? (ad.add j) = some u := fun j u hu => by
    obtain ⟨hj, e⟩ := List.getElem?_eq_some_iff.1 hu
    rw [hc j (by simpa [intsV] using hj), ← e]; simp [intsV]
  have h1c : ∀ u ∈ intsV news, u.oneCell' = true := fun u hu => by
    obtain ⟨n, _, rfl⟩ := List.mem_map.1 hu; rfl
  have grown : ∀ v' w', w'.ownsRow w.heap.size 3 1 v' (xs.length + news.length) (intsV xs ++ intsV news) → w.grownBy w' none → 0 < xs.length + news.length → Grew w base (.slice ao xs.length cap) (xs ++ news) v' w' := by
    intro v' w' hown hgr h0
    rcases hown.2 with ⟨_, hn⟩ | ⟨g, cap', cur, rfl, g1, g2, g3, g4, g5, g6⟩
    · omega
    · refine ⟨⟨some ⟨g, 0, none⟩, cap', by simp, by simpa using g3, g4, (fun e => by cases e), (fun a e => by cases e; exact Nat.le_trans hbase g1), fun _ => ⟨g, 0, cur, rfl, by omega, g2, by omega, fun k hk => ?_⟩⟩, ⟨hgr.os, hgr.tape, hgr.output, hgr.size, fun k hk _ => hgr.block k hk (by simp)⟩, .inr ⟨g, rfl, g1⟩⟩
      have e : (cur.toList.take ((xs.length + news.length) * 1))[k]? = (intsV (xs ++ news))[k]? := by rw [g6]; simp [intsV]
      rw [List.getElem?_take_of_lt (by simp at hk; omega)] at e
      rw [Nat.zero_add, ← Array.getElem?_toList, e]
      have hk' : k < (intsV (xs ++ news)).length := by simpa [intsV] using hk
      rw [List.getElem?_eq_getElem hk']; simp only [intsV, List.getElem_map]
  by_cases hc0 : cap = 0
  · subst hc0
    obtain rfl : xs = [] := List.eq_nil_of_length_eq_zero (by omega)
    · refine wpList_append_grows w hg s x 32 hop 3 i _ 1 8 Tryd.underlying32 hi hz hsz hby rfl (by decide) ao 0 0 [] (by simpa using hs) (fun _ => ⟨rfl, rfl⟩) rfl (fun _ _ j u hu => by simp at hu) ad news.length c (intsV news) hx (by simp [intsV]) hnews h1c (by omega) (by unfold maxLen; simp at hlen; omega) (by simp at hlen; omega) ?_
      intro v' w' hown hgr
      exact h v' w' (grown v' w' (by simpa [intsV] using hown) hgr (by simp; omega))
  · obtain ⟨g, off, cur, rfl, g1, g2, g3, g4⟩ := q4 (by omega)
    refine wpList_append_arg w hg s x 32 hop 3 i _ 1 8 Tryd.underlying32 hi hz hsz hby rfl (by decide) g off xs.length cap (intsV xs) hs (by simp [intsV]) (fun j u hu => ?_) ad news.length c (intsV news) hx (by simp [intsV]) hnews h1c (fun hr j hj => ?_) (by unfold maxLen; omega) (by omega) (fun hr => ?_) (fun hr v' w' hown hgr => ?_)
    · obtain ⟨hj, e⟩ := List.getElem?_eq_some_iff.1 hu
      rw [blk_cell g2, g4 j (by simpa [intsV] using hj), ← e]; simp [intsV]
    · have hj' : j < news.length := by simpa [intsV] using hj
      refine ⟨?_, blk_free g2 _⟩
      rw [blk_cell g2, Array.getElem?_eq_getElem (by omega)]; rfl
    · obtain ⟨cur', e1, e2, e3, e4⟩ := setCells_block g 3 (intsV news) (off + xs.length * 1) w cur g2
      refine h _ _ ⟨⟨some ⟨g, off, none⟩, cap, by simp, by simpa using hr, q2, (fun e => by cases e), (fun a e => by cases e; exact g1), fun _ => ⟨g, off, cur', rfl, g1, e1, by omega, fun k hk => ?_⟩⟩, keeps_setCells g _ _ _, .inl rfl⟩
      simp at hk
      rcases Nat.lt_or_ge k xs.length with hlt | hge
      · rw [e3 _ (by omega), g4 k hlt, List.getElem_append_left hlt]
      · have := e4 (k - xs.length) (by simp [intsV]; omega) (by omega)
        rw [show off + k = off + xs.length * 1 + (k - xs.length) by omega, this, List.getElem_append_right hge]; simp [intsV]
    · exact h v' w' (grown v' w' hown hgr (by omega))
end Go.Proofs.YtpfgklkdldkajaaDoor

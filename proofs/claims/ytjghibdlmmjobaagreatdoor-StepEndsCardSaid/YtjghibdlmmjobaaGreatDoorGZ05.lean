/- Queues: rows of ints of the call's own that are cut at their head and appended to. Plain definitions, one law on 'append', one on 's[1:]'. Rows of the call's own, of whatever element: read, written, cut, appended to; what a call may turn. Plain definitions and lemmas. 'flow.Next' and the document's 'Next', at a pc that there is, of code that may be. Conditions: the function's code lies in memory as it is said. -/
import Derived.Test.YtjghibdlmmjobaaGreatDoorGZ02
import Derived.Deep.Upon
import Derived.Deep.Cut
import Derived.Test.YtjghibdlmmjobaaGreatDoorGZ03
namespace Go.Proofs.YtjghibdlmmjobaaGreatDoor
open Go.RowKit

/-- A row of ints of the call's own, wherever it begins in its block. -/
def QRow (w : World) (base : Nat) (v : Value) (xs : List Int) : Prop :=
  ∃ ao cap, v = .slice ao xs.length cap ∧ xs.length ≤ cap ∧ cap ≤ maxLen ∧ (ao = none → cap = 0) ∧ (∀ a, ao = some a → base ≤ a.block) ∧
    (0 < cap → ∃ g off cur, ao = some ⟨g, off, none⟩ ∧ base ≤ g ∧ w.heap[g]? = some (.cells cur 3 (0, 0)) ∧ off + cap ≤ cur.size ∧ ∀ k (h : k < xs.length), cur[off + k]? = some (.int .i64 xs[k]))
/-- The row lies apart from a block. -/
def Apart (v : Value) (b : Nat) : Prop := v.ownBlock ≠ some b
theorem QRow.nil (w : World) (base : Nat) : QRow w base (.slice none 0 0) [] := ⟨none, 0, rfl, Nat.le_refl _, by decide, fun _ => rfl, (fun a h => by cases h), fun h => absurd h (by decide)⟩
theorem QRow.of_row {w : World} {base b : Nat} {xs : List Int} (h : RowAt 3 b (intsV xs) w) (hb : base ≤ b) (hl : xs.length ≤ 1000000) : QRow w base (.slice (some ⟨b, 0, none⟩) xs.length xs.length) xs :=
  ⟨_, _, rfl, Nat.le_refl _, (by unfold maxLen; omega), (fun e => by cases e), (fun a e => by cases e; exact hb), fun _ => ⟨b, 0, _, rfl, hb, h, by simp [intsV], fun k hk => by simp [intsV, hk]⟩⟩
theorem QRow.keeps {w w1 : World} {base g : Nat} {v : Value} {xs : List Int} (h : QRow w base v xs) (hk : Keeps g w w1) (ha : Apart v g) : QRow w1 base v xs := by
  obtain ⟨ao, cap, rfl, h1, h2, h3, hlo, h4⟩ := h
  refine ⟨ao, cap, rfl, h1, h2, h3, hlo, fun hc => ?_⟩
  obtain ⟨b, off, cur, rfl, h5, h6, h7, h8⟩ := h4 hc
  have hne : b ≠ g := fun e => ha (by rw [e]; rfl)
  exact ⟨b, off, cur, rfl, h5, (hk.block b (blk_lt h6) (by simpa using hne)).trans h6, h7, h8⟩
theorem QRow.below {w w1 : World} {base : Nat} {v : Value} {xs : List Int} (h : QRow w base v xs) (hb : Below w.heap.size w w1) : QRow w1 base v xs := by
  obtain ⟨ao, cap, rfl, h1, h2, h3, hlo, h4⟩ := h
  refine ⟨ao, cap, rfl, h1, h2, h3, hlo, fun hc => ?_⟩
  obtain ⟨b, off, cur, rfl, h5, h6, h7, h8⟩ := h4 hc
  exact ⟨b, off, cur, rfl, h5, (hb.block b (blk_lt h6)).trans h6, h7, h8⟩
theorem QRow.reads {w : World} {base : Nat} {v : Value} {xs : List Int} (h : QRow w base v xs) : ∃ ao cap, v = .slice ao xs.length cap ∧ ReadsI w ao xs := by
  obtain ⟨ao, cap, rfl, h1, h2, h3, hlo, h4⟩ := h
  refine ⟨ao, cap, rfl, by unfold maxLen at h2; omega, fun h0 => ?_⟩
  obtain ⟨b, off, cur, rfl, h5, h6, h7, h8⟩ := h4 (by omega)
  exact ⟨_, rfl, fun j hj => by rw [Addr.add_lit, blk_cell h6]; exact h8 j hj⟩
theorem QRow.tail {w : World} {base : Nat} {ao : Option Addr} {n cap : Nat} {x : Int} {xs : List Int} (h : QRow w base (.slice ao n cap) (x :: xs)) : ∃ g off, ao = some ⟨g, off, none⟩ ∧ n = xs.length + 1 ∧ 1 ≤ cap ∧ w.cell? ⟨g, off, none⟩ = some (.int .i64 x) ∧
    (cap = 1 → QRow w base (.slice (some ⟨g, off, none⟩) xs.length 0) xs) ∧ (1 < cap → QRow w base (.slice (some ⟨g, off + 1, none⟩) xs.length (cap - 1)) xs) := by
  obtain ⟨ao', cap', e, h1, h2, h3, hlo, h4⟩ := h
  injection e with e1 e2 e3
  subst e1 e2 e3
  rw [List.length_cons] at h1
  obtain ⟨g, off, cur, rfl, g1, g2, g3, g4⟩ := h4 (by omega)
  refine ⟨g, off, rfl, rfl, by omega, ?_, fun hc => ?_, fun hc => ?_⟩
  · rw [blk_cell g2]; have := g4 0 (by simp); simpa using this
  · obtain rfl : xs = [] := List.eq_nil_of_length_eq_zero (by omega)
    exact ⟨some ⟨g, off, none⟩, 0, rfl, Nat.le_refl _, by decide, (fun e => by cases e), hlo, fun h => absurd h (by decide)⟩
  · refine ⟨some ⟨g, off + 1, none⟩, cap - 1, rfl, by omega, by omega, (fun e => by cases e), (fun a e => by cases e; exact g1), fun _ => ⟨g, off + 1, cur, rfl, g1, g2, by omega, fun k hk => ?_⟩⟩
    have := g4 (k + 1) (by simpa using hk)
    rw [show off + 1 + k = off + (k + 1) by omega, this]; simp
theorem keeps_setCells (b : Nat) : ∀ (vs : List Value) (o : Nat) (w : World), Keeps b w (w.setCells b o vs)
  | [], _, w => Keeps.refl b w
  | v :: r, o, w => (Keeps.put (Keeps.refl b w) o v).trans (keeps_setCells b r (o + 1) _)
theorem setCells_block (b : Nat) (t : Nat) : ∀ (vs : List Value) (o : Nat) (w : World) (cur : Array Value), w.heap[b]? = some (.cells cur t (0, 0)) →
    ∃ cur', (w.setCells b o vs).heap[b]? = some (.cells cur' t (0, 0)) ∧ cur'.size = cur.size ∧ (∀ k, k < o → cur'[k]? = cur[k]?) ∧ (∀ j (h : j < vs.length), o + j < cur.size → cur'[o + j]? = some vs[j])
  | [], o, w, cur, h => ⟨cur, h, rfl, fun _ _ => rfl, fun j hj => absurd hj (by simp)⟩
  | v :: r, o, w, cur, h => by
    have h1 : (w.setCell ⟨b, o, none⟩ v).heap[b]? = some (.cells (cur.setIfInBounds o v) t (0, 0)) := by
      simp [World.setCell, Array.getElem?_modify, h]
    obtain ⟨cur', h2, h3, h4, h5⟩ := setCells_block b t r (o + 1) _ _ h1
    refine ⟨cur', h2, by rw [h3]; simp, fun k hk => ?_, fun j hj hjs => ?_⟩
    · rw [h4 k (by omega), Array.getElem?_setIfInBounds_ne (by omega)]
    · cases j with
      | zero =>
        rw [Nat.add_zero, h4 o (by omega)]
        simp only [Nat.add_zero] at hjs
        simp [hjs]
      | succ j =>
        have := h5 j (by simpa using hj) (by simp; omega)
        rw [show o + (j + 1) = o + 1 + j by omega, this]; simp
theorem QRow.lo {w : World} {base : Nat} {v : Value} {xs : List Int} (h : QRow w base v xs) : ∀ k, v.ownBlock = some k → base ≤ k := by
  obtain ⟨ao, cap, rfl, h1, h2, h3, hlo, h4⟩ := h
  intro k hk
  cases ao with
  | none => cases hk
  | some a => cases hk; exact hlo a rfl
theorem ReadsI.keeps {w w1 : World} {A : Option Addr} {xs : List Int} {g : Nat} (h : ReadsI w A xs) (hk : Keeps g w w1) (hne : ∀ a, A = some a → a.block ≠ g) : ReadsI w1 A xs :=
  ⟨h.1, fun h0 => by
    obtain ⟨ad, e, hc⟩ := h.2 h0
    refine ⟨ad, e, fun j hj => ?_⟩
    have c := hc j hj
    have hb : (ad.add j).block = ad.block := by unfold Addr.add; split <;> rfl
    exact (hk.cell (a := ad.add j) c (by rw [hb]; simpa using hne ad e))⟩
theorem ReadsI.grown {w w1 : World} {A : Option Addr} {xs : List Int} {row : Option Nat} (h : ReadsI w A xs) (hk : w.grownBy w1 row) (hne : ∀ a, A = some a → row ≠ some a.block) : ReadsI w1 A xs :=
  ⟨h.1, fun h0 => by
    obtain ⟨ad, e, hc⟩ := h.2 h0
    refine ⟨ad, e, fun j hj => ?_⟩
    have c := hc j hj
    have hb : (ad.add j).block = ad.block := by unfold Addr.add; split <;> rfl
    exact (hk.cell (a := ad.add j) c (by rw [hb]; exact fun e' => hne ad e e'.symm))⟩
theorem ReadsI.lt_block {w : World} {A : Option Addr} {xs : List Int} (h : ReadsI w A xs) (h0 : 0 < xs.length) (a : Addr) (e : A = some a) : a.block < w.heap.size := by
  obtain ⟨ad, e', hc⟩ := h.2 h0
  cases e.symm.trans e'
  have := World.block_lt_of_cell? w _ (hc 0 h0)
  have hb : (a.add 0).block = a.block := by unfold Addr.add; split <;> rfl
  rwa [hb] at this
theorem RowAt.grown {t b : Nat} {vs : List Value} {w w1 : World} {row : Option Nat} (h : RowAt t b vs w) (hk : w.grownBy w1 row) (hn : row ≠ some b) : RowAt t b vs w1 := (hk.block b (blk_lt h) (fun e => hn e.symm)).trans h
/-- Behind 'append': what the row is, what stays. -/
structure Grew (w : World) (base : Nat) (v : Value) (xs : List Int) (v' : Value) (w' : World) : Prop where
  row : QRow w' base v' xs
  kept : w.grownBy w' v.ownBlock
  at_ : v'.ownBlock = v.ownBlock ∨ ∃ g, v'.ownBlock = some g ∧ w.heap.size ≤ g
theorem Grew.apart {w w' : World} {base : Nat} {v v' : Value} {xs : List Int} (h : Grew w base v xs v' w') {b : Nat} (hb : b < w.heap.size) (ha : Apart v b) : Apart v' b := by
  rcases h.at_ with e | ⟨g, e, hg⟩
  · unfold Apart; rw [e]; exact ha
  · unfold Apart; rw [e]; intro h; cases h; omega

theorem wpList_append_q {ops : Array Oper} {rest : List Oper} {o : Oper} {a : Act} {Q : Exit → Act → World → Prop} (w : World) (hg : o.guard = none) (s x : Operand)
    (hop : o.op = Op.call { callee := Callee.builtin Builtin.append, args := #[s, x], argTypes := #[28, 28] }) (base : Nat) (v : Value) (xs : List Int) (hs : a.eval s = v) (hq : QRow w base v xs) (hbase : base ≤ w.heap.size)
    (ad : Addr) (m c : Nat) (news : List Int) (hx : a.eval x = .slice (some ad) m c) (hm : news.length = m) (hpos : 0 < m) (hc : ∀ j (h : j < news.length), w.cell? (ad.add j) = some (.int .i64 news[j])) (hlen : xs.length + m ≤ 1000000)
    (h : ∀ v' w', Grew w base v (xs ++ news) v' w' → wpList Tryz.prog ops Q rest (a.put o.dst v') w') : wpList Tryz.prog ops Q (o :: rest) a w := by
  obtain ⟨i, hi, hz, hsz, hby⟩ := info_parts info_int
  obtain ⟨ao, cap, rfl, q1, q2, q3, qlo, q4⟩ := hq
  subst hm
  have hnews : ∀ j u, (intsV news)[j]? = some u → w.cell? (ad.add j) = some u := fun j u hu => by
    obtain ⟨hj, e⟩ := List.getElem?_eq_some_iff.1 hu
    rw [hc j (by simpa [intsV] using hj), ← e]; simp [intsV]
  have h1c : ∀ u ∈ intsV news, u.oneCell' = true := fun u hu => by
    obtain ⟨n, _, rfl⟩ := List.mem_map.1 hu; rfl
  have grown : ∀ v' w', w'.ownsRow w.heap.size 3 1 v' (xs.length + news.length) (intsV xs ++ intsV news) → w.grownBy w' none → 0 < xs.length + news.length → Grew w base (.slice ao xs.length cap) (xs ++ news) v' w' := by
    intro v' w' hown hgr h0
    rcases hown.2 with ⟨_, hn⟩ | ⟨g, cap', cur, rfl, g1, g2, g3, g4, g5, g6⟩
    · omega
    · refine ⟨⟨some ⟨g, 0, none⟩, cap', by simp, by simpa using g3, g4, (fun e => by cases e), (fun a e => by cases e; exact Nat.le_trans hbase g1), fun _ => ⟨g, 0, cur, rfl, by omega, g2, by omega, fun k hk => ?_⟩⟩, ⟨hgr.os, hgr.tape, hgr.output, hgr.size, fun k hk _ => hgr.block k hk (by simp)⟩, .inr ⟨g, rfl, g1⟩⟩
      have e : (cur.toList.take ((xs.length + news.length) * 1))[k]? = (intsV (xs ++ news))[k]? := by rw [g6]; simp [intsV]
      rw [List.getElem?_take_of_lt (by simp at hk; omega)] at e
      rw [Nat.zero_add, ← Array.getElem?_toList, e]
      have hk' : k < (intsV (xs ++ news)).length := by simpa [intsV] using hk
      rw [List.getElem?_eq_getElem hk']; simp only [intsV, List.getElem_map]
  by_cases hc0 : cap = 0
  · subst hc0
    obtain rfl : xs = [] := List.eq_nil_of_length_eq_zero (by omega)
    · refine wpList_append_grows w hg s x 28 hop 3 i _ 1 8 Tryz.underlying28 hi hz hsz hby rfl (by decide) ao 0 0 [] (by simpa using hs) (fun _ => ⟨rfl, rfl⟩) rfl (fun _ _ j u hu => by simp at hu) ad news.length c (intsV news) hx (by simp [intsV]) hnews h1c (by omega) (by unfold maxLen; simp at hlen; omega) (by simp at hlen; omega) ?_
      intro v' w' hown hgr
      exact h v' w' (grown v' w' (by simpa [intsV] using hown) hgr (by simp; omega))
  · obtain ⟨g, off, cur, rfl, g1, g2, g3, g4⟩ := q4 (by omega)
    refine wpList_append_arg w hg s x 28 hop 3 i _ 1 8 Tryz.underlying28 hi hz hsz hby rfl (by decide) g off xs.length cap (intsV xs) hs (by simp [intsV]) (fun j u hu => ?_) ad news.length c (intsV news) hx (by simp [intsV]) hnews h1c (fun hr j hj => ?_) (by unfold maxLen; omega) (by omega) (fun hr => ?_) (fun hr v' w' hown hgr => ?_)
    · obtain ⟨hj, e⟩ := List.getElem?_eq_some_iff.1 hu
      rw [blk_cell g2, g4 j (by simpa [intsV] using hj), ← e]; simp [intsV]
    · have hj' : j < news.length := by simpa [intsV] using hj
      refine ⟨?_, blk_free g2 _⟩
      rw [blk_cell g2, Array.getElem?_eq_getElem (by omega)]; rfl
    · obtain ⟨cur', e1, e2, e3, e4⟩ := setCells_block g 3 (intsV news) (off + xs.length * 1) w cur g2
      refine h _ _ ⟨⟨some ⟨g, off, none⟩, cap, by simp, by simpa using hr, q2, (fun e => by cases e), (fun a e => by cases e; exact g1), fun _ => ⟨g, off, cur', rfl, g1, e1, by omega, fun k hk => ?_⟩⟩, keeps_setCells g _ _ _, .inl rfl⟩
      simp at hk
      rcases Nat.lt_or_ge k xs.length with hlt | hge
      · rw [e3 _ (by omega), g4 k hlt, List.getElem_append_left hlt]
      · have := e4 (k - xs.length) (by simp [intsV]; omega) (by omega)
        rw [show off + k = off + xs.length * 1 + (k - xs.length) by omega, this, List.getElem_append_right hge]; simp [intsV]
    · exact h v' w' (grown v' w' hown hgr (by omega))
end Go.Proofs.YtjghibdlmmjobaaGreatDoor

namespace Go.Proofs.YtjghibdlmmjobaaGreatDoor
open Go.RowKit

/-- What a call may turn: the blocks of S alone, and new ones. -/
structure Chg (S : Nat → Prop) (w w' : World) : Prop where
  os : w'.os = w.os
  tape : w'.tape = w.tape
  output : w'.output = w.output
  size : w.heap.size ≤ w'.heap.size
  block : ∀ k, k < w.heap.size → ¬ S k → w'.heap[k]? = w.heap[k]?
theorem Chg.refl (S : Nat → Prop) (w : World) : Chg S w w := ⟨rfl, rfl, rfl, Nat.le_refl _, fun _ _ _ => rfl⟩
theorem Chg.of_below {S : Nat → Prop} {w w' : World} (h : Below w.heap.size w w') : Chg S w w' := ⟨h.os, h.tape, h.output, h.size, fun k hk _ => h.block k hk⟩
theorem Chg.of_grown {S : Nat → Prop} {w w' : World} {row : Option Nat} (h : w.grownBy w' row) (hs : ∀ k, row = some k → S k) : Chg S w w' :=
  ⟨h.os, h.tape, h.output, h.size, fun k hk hn => h.block k hk (fun e => hn (hs k e.symm))⟩
theorem Chg.trans {S S' : Nat → Prop} {w w1 w2 : World} (h : Chg S w w1) (k : Chg S' w1 w2) (hs : ∀ i, i < w.heap.size → S' i → S i) : Chg S w w2 :=
  ⟨k.os.trans h.os, k.tape.trans h.tape, k.output.trans h.output, Nat.le_trans h.size k.size, fun i hi hn => (k.block i (Nat.lt_of_lt_of_le hi h.size) (fun e => hn (hs i hi e))).trans (h.block i hi hn)⟩
theorem Chg.mono {S S' : Nat → Prop} {w w' : World} (h : Chg S w w') (hs : ∀ i, S i → S' i) : Chg S' w w' := ⟨h.os, h.tape, h.output, h.size, fun k hk hn => h.block k hk (fun e => hn (hs k e))⟩
theorem Chg.put {S : Nat → Prop} {w w1 : World} (h : Chg S w w1) {a : Addr} (ha : S a.block) (u : Value) : Chg S w (w1.setCell a u) :=
  h.trans ⟨rfl, rfl, rfl, by simp [World.setCell], fun i _ hn => Below.heap_setCell _ _ _ _ (fun e => hn (e ▸ ha))⟩ (fun _ _ h => h)
theorem Chg.alloc {S : Nat → Prop} {w w1 : World} (h : Chg S w w1) (o : Obj) : Chg S w (w1.alloc o) := h.trans (Chg.of_below (S := S) (below_alloc (Below.refl _ _) o)) (fun _ _ h => h)
theorem Chg.drewN {S : Nat → Prop} {w w1 : World} (h : Chg S w w1) (n : Nat) : Chg S w (w1.drewN n) := h.trans (Chg.of_below (S := S) (below_drew (Below.refl _ _) n)) (fun _ _ h => h)
theorem Chg.after {S : Nat → Prop} {w w1 w2 : World} (h : Chg S w w1) (k : Below w1.heap.size w1 w2) : Chg S w w2 := h.trans (Chg.of_below (S := S) k) (fun _ _ h => h)
/-- What turns new blocks alone turns nothing old. -/
theorem Chg.below {S : Nat → Prop} {w0 w w1 : World} (hb : Below w0.heap.size w0 w) (h : Chg S w w1) (hs : ∀ k, S k → w0.heap.size ≤ k) : Below w0.heap.size w0 w1 :=
  ⟨h.os.trans hb.os, h.tape.trans hb.tape, h.output.trans hb.output, Nat.le_trans hb.size h.size, fun i hi => (h.block i (Nat.lt_of_lt_of_le hi hb.size) (fun e => by have := hs i e; omega)).trans (hb.block i hi)⟩
theorem Chg.cell {S : Nat → Prop} {w w1 : World} (h : Chg S w w1) {a : Addr} {v : Value} (hc : w.cell? a = some v) (hn : ¬ S a.block) : w1.cell? a = some v :=
  (World.cell?_of_block (h.block a.block (World.block_lt_of_cell? w a hc) hn)).trans hc

/-- A row of the call's own: n elements of sz cells each, wherever it begins in its block. -/
def ORow (w : World) (base : Nat) (t sz : Nat) (v : Value) (n : Nat) (cs : List Value) : Prop :=
  ∃ ao cap, v = .slice ao n cap ∧ n ≤ cap ∧ cap ≤ maxLen ∧ cs.length = n * sz ∧ (ao = none → cap = 0) ∧ (∀ a, ao = some a → base ≤ a.block ∧ a.block < w.heap.size) ∧
    (0 < cap → ∃ g off cur, ao = some ⟨g, off, none⟩ ∧ w.heap[g]? = some (.cells cur t (0, 0)) ∧ off + cap * sz ≤ cur.size ∧ ∀ k (h : k < cs.length), cur[off + k]? = some cs[k])
theorem ORow.nil (w : World) (base t sz : Nat) : ORow w base t sz (.slice none 0 0) 0 [] := ⟨none, 0, rfl, Nat.le_refl _, by decide, by simp, fun _ => rfl, (fun a h => by cases h), fun h => absurd h (by decide)⟩
theorem ORow.of_row {w : World} {base b t sz n : Nat} {cs : List Value} (h : RowAt t b cs w) (hb : base ≤ b) (hl : cs.length = n * sz) (hm : n ≤ maxLen) : ORow w base t sz (.slice (some ⟨b, 0, none⟩) n n) n cs :=
  ⟨_, _, rfl, Nat.le_refl _, hm, hl, (fun e => by cases e), (fun a e => by cases e; exact ⟨hb, blk_lt h⟩), fun _ => ⟨b, 0, _, rfl, h, by simp [hl], fun k hk => by simp [hk]⟩⟩
theorem ORow.len {w : World} {base t sz n : Nat} {v : Value} {cs : List Value} (h : ORow w base t sz v n cs) : cs.length = n * sz := by
  obtain ⟨_, _, _, _, _, h, _⟩ := h; exact h
theorem ORow.shape {w : World} {base t sz n : Nat} {v : Value} {cs : List Value} (h : ORow w base t sz v n cs) : ∃ ao cap, v = .slice ao n cap ∧ n ≤ cap ∧ cap ≤ maxLen := by
  obtain ⟨ao, cap, e, h1, h2, _⟩ := h; exact ⟨ao, cap, e, h1, h2⟩
theorem ORow.lo {w : World} {base t sz n : Nat} {v : Value} {cs : List Value} (h : ORow w base t sz v n cs) : ∀ k, v.ownBlock = some k → base ≤ k := by
  obtain ⟨ao, cap, rfl, _, _, _, _, hlo, _⟩ := h
  intro k hk
  cases ao with
  | none => cases hk
  | some a => cases hk; exact (hlo a rfl).1
theorem ORow.in_ {w : World} {base t sz n : Nat} {v : Value} {cs : List Value} (h : ORow w base t sz v n cs) : ∀ k, v.ownBlock = some k → base ≤ k ∧ k < w.heap.size := by
  obtain ⟨ao, cap, rfl, _, _, _, _, hlo, _⟩ := h
  intro k hk
  cases ao with
  | none => cases hk
  | some a => cases hk; exact hlo a rfl
theorem ORow.mono {w : World} {base base' t sz n : Nat} {v : Value} {cs : List Value} (h : ORow w base t sz v n cs) (hb : base' ≤ base) : ORow w base' t sz v n cs := by
  obtain ⟨ao, cap, e, h1, h2, h3, h4, hlo, h5⟩ := h
  exact ⟨ao, cap, e, h1, h2, h3, h4, fun a e => ⟨Nat.le_trans hb (hlo a e).1, (hlo a e).2⟩, h5⟩
theorem ORow.chg {S : Nat → Prop} {w w1 : World} {base t sz n : Nat} {v : Value} {cs : List Value} (h : ORow w base t sz v n cs) (hk : Chg S w w1) (ha : ∀ k, v.ownBlock = some k → ¬ S k) : ORow w1 base t sz v n cs := by
  obtain ⟨ao, cap, rfl, h1, h2, h3, h4, hlo, h5⟩ := h
  refine ⟨ao, cap, rfl, h1, h2, h3, h4, (fun a e => ⟨(hlo a e).1, Nat.lt_of_lt_of_le (hlo a e).2 hk.size⟩), fun hc => ?_⟩
  obtain ⟨b, off, cur, rfl, h6, h7, h8⟩ := h5 hc
  exact ⟨b, off, cur, rfl, (hk.block b (blk_lt h6) (ha b rfl)).trans h6, h7, h8⟩
theorem ORow.below {w w1 : World} {base t sz n : Nat} {v : Value} {cs : List Value} (h : ORow w base t sz v n cs) (hb : Below w.heap.size w w1) : ORow w1 base t sz v n cs :=
  h.chg (S := fun _ => False) (Chg.of_below hb) (fun _ _ h => h)
theorem ORow.grown {w w1 : World} {row : Option Nat} {base t sz n : Nat} {v : Value} {cs : List Value} (h : ORow w base t sz v n cs) (hk : w.grownBy w1 row) (hn : v.ownBlock = none ∨ v.ownBlock ≠ row) : ORow w1 base t sz v n cs :=
  h.chg (S := fun k => row = some k) (Chg.of_grown hk (fun _ e => e)) (fun k hk e => by
    rcases hn with h | h
    · rw [h] at hk; cases hk
    · exact h (hk.trans e.symm))
theorem ORow.cell {w : World} {base t sz n cap : Nat} {ao : Option Addr} {cs : List Value} (h : ORow w base t sz (.slice ao n cap) n cs) {k : Nat} (hk : k < cs.length) :
    ∃ g off, ao = some ⟨g, off, none⟩ ∧ base ≤ g ∧ g < w.heap.size ∧ ∀ k (hk : k < cs.length), w.cell? ⟨g, off + k, none⟩ = some cs[k] ∧ w.frozen? ⟨g, off + k, none⟩ = false := by
  obtain ⟨ao', cap', e, h1, h2, h3, h4, hlo, h5⟩ := h
  injection e with e1 e2 e3
  subst e1 e3
  have hn : 0 < n := by
    rcases Nat.eq_zero_or_pos n with h0 | h0
    · subst h0; rw [h3] at hk; simp at hk
    · exact h0
  obtain ⟨g, off, cur, rfl, g2, g3, g4⟩ := h5 (by omega)
  exact ⟨g, off, rfl, (hlo _ rfl).1, blk_lt g2, fun k hk => ⟨by rw [blk_cell g2]; exact g4 k hk, blk_free g2 _⟩⟩
theorem ORow.lt {w : World} {base t sz n cap g off : Nat} {cs : List Value} (h : ORow w base t sz (.slice (some ⟨g, off, none⟩) n cap) n cs) : base ≤ g ∧ g < w.heap.size := by
  obtain ⟨ao', cap', e, h1, h2, h3, h4, hlo, h5⟩ := h
  injection e with e1 e2 e3
  subst e1 e3
  exact hlo _ rfl
/-- Cells that are written alone: the row reads as its cells do. -/
theorem ORow.put {w : World} {base t sz n cap g off : Nat} {cs : List Value} (h : ORow w base t sz (.slice (some ⟨g, off, none⟩) n cap) n cs) (k : Nat) (u : Value) (hk : k < cs.length) : ORow (w.setCell ⟨g, off + k, none⟩ u) base t sz (.slice (some ⟨g, off, none⟩) n cap) n (cs.set k u) := by
  obtain ⟨ao', cap', e, h1, h2, h3, h4, hlo, h5⟩ := h
  injection e with e1 e2 e3
  subst e1 e3
  refine ⟨_, _, rfl, h1, h2, by simpa using h3, h4, (fun a e => ⟨(hlo a e).1, by have := (hlo a e).2; simpa [World.setCell] using this⟩), fun hc => ?_⟩
  obtain ⟨g', off', cur, e, g2, g3, g4⟩ := h5 hc
  cases e
  have hn : n * sz ≤ cap * sz := Nat.mul_le_mul_right _ h1
  refine ⟨g, off, cur.setIfInBounds (off + k) u, rfl, by simp [World.setCell, Array.getElem?_modify, g2], by simpa using g3, fun j hj => ?_⟩
  rw [List.length_set] at hj
  rw [List.getElem_set]
  split
  · rename_i e; subst e; rw [Array.getElem?_setIfInBounds_self_of_lt (by omega)]
  · rename_i e; rw [Array.getElem?_setIfInBounds_ne (by omega)]; exact g4 j hj
/-- 's[:m]'. -/
theorem ORow.take {w : World} {base t sz n cap : Nat} {ao : Option Addr} {cs : List Value} (h : ORow w base t sz (.slice ao n cap) n cs) (m : Nat) (hm : m ≤ n) : ORow w base t sz (.slice ao m cap) m (cs.take (m * sz)) := by
  obtain ⟨ao', cap', e, h1, h2, h3, h4, hlo, h5⟩ := h
  injection e with e1 e2 e3
  subst e1 e3
  have hmn : m * sz ≤ n * sz := Nat.mul_le_mul_right _ hm
  refine ⟨_, _, rfl, by omega, h2, by rw [List.length_take]; omega, h4, hlo, fun hc => ?_⟩
  obtain ⟨g, off, cur, rfl, g2, g3, g4⟩ := h5 hc
  exact ⟨g, off, cur, rfl, g2, g3, fun j hj => by rw [List.getElem_take]; exact g4 j (by rw [List.length_take] at hj; omega)⟩

/-- Behind 'append': what the row is, what stays. -/
structure Grown (w : World) (base t sz : Nat) (v : Value) (n : Nat) (cs : List Value) (v' : Value) (w' : World) : Prop where
  row : ORow w' base t sz v' n cs
  kept : w.grownBy w' v.ownBlock
  at_ : v'.ownBlock = v.ownBlock ∨ ∃ g, v'.ownBlock = some g ∧ w.heap.size ≤ g
theorem Grown.apart {w w' : World} {base t sz n : Nat} {v v' : Value} {cs : List Value} (h : Grown w base t sz v n cs v' w') {b : Nat} (hb : b < w.heap.size) (ha : Apart v b) : Apart v' b := by
  rcases h.at_ with e | ⟨g, e, hg⟩
  · unfold Apart; rw [e]; exact ha
  · unfold Apart; rw [e]; intro h; cases h; omega
theorem Grown.chg {S : Nat → Prop} {w w' : World} {base t sz n : Nat} {v v' : Value} {cs : List Value} (h : Grown w base t sz v n cs v' w') (hs : ∀ k, v.ownBlock = some k → S k) : Chg S w w' := Chg.of_grown h.kept hs
theorem oldCells {P : Program} {w : World} {base t sz n cap : Nat} {ao : Option Addr} {cs : List Value} (h : ORow w base t sz (.slice ao n cap) n cs) : (Builtin.firstCells sz n (.slice ao n cap)).run P w = .ok cs.toArray w := by
  obtain ⟨ao', cap', e, h1, h2, h3, h4, hlo, h5⟩ := h
  injection e with e1 e2 e3
  subst e1 e3
  cases ao with
  | none =>
    have := h4 rfl
    subst this
    obtain rfl : n = 0 := by omega
    obtain rfl : cs = [] := List.eq_nil_of_length_eq_zero (by simpa using h3)
    exact run_firstCells_none w sz 0 0 0
  | some a =>
    by_cases hc : 0 < cap
    · obtain ⟨g, off, cur, e, g2, g3, g4⟩ := h5 hc
      cases e
      exact run_firstCells_some w sz n _ n cap cs h3 (fun j u hu => by
        obtain ⟨hj, rfl⟩ := List.getElem?_eq_some_iff.1 hu
        rw [Addr.add_lit, blk_cell g2]; exact g4 j hj)
    · obtain rfl : n = 0 := by omega
      obtain rfl : cs = [] := List.eq_nil_of_length_eq_zero (by simpa using h3)
      exact run_firstCells_some w sz 0 _ 0 cap [] (by simp) (fun j u hu => by simp at hu)
theorem ORow.drewN {w : World} {base t sz n : Nat} {v : Value} {cs : List Value} (h : ORow w base t sz v n cs) (k : Nat) : ORow (w.drewN k) base t sz v n cs := h.below (below_drew (Below.refl _ _) k)
theorem ORow.drew {w : World} {base t sz n : Nat} {v : Value} {cs : List Value} (h : ORow w base t sz v n cs) : ORow w.drew base t sz v n cs := h.below ⟨rfl, rfl, rfl, Nat.le_refl _, fun _ _ => rfl⟩
theorem run_append_row {P : Program} (w : World) (ts t tx ty : TypeId) (i : TypeInfo) (z : Value) (sz bytes : Nat) (hts : P.underlying ts = some (.slice t)) (hi : P.info? t = some i) (hz : i.zero = some z) (hsz : i.size = sz) (hby : i.bytes = bytes) (hzs : z.cells.size = sz)
    (base : Nat) (ao : Option Addr) (n cap : Nat) (cs : List Value) (hq : ORow w base t sz (.slice ao n cap) n cs) (hbase : base ≤ w.heap.size) (x : Value) (m : Nat) (news : List Value) (hs : Src P sz tx x m news w) (hlen : (n + m) * bytes ≤ 140737488355328) (hmax : n + m ≤ maxLen) :
    ∃ v' w', (Builtin.append_ #[ts, tx] ty #[.slice ao n cap, x]).run P w = .ok v' w' ∧ Grown w base t sz (.slice ao n cap) (n + m) (cs ++ news) v' w' := by
  subst hsz hby
  by_cases hr : n + m ≤ cap
  · by_cases hm : m = 0
    · subst hm
      obtain rfl : news = [] := List.eq_nil_of_length_eq_zero (by simpa using hs.newsLen)
      have := run_append_nothing (P := P) w ts tx ty t i hts hi ao n cap (by omega) x hs
      exact ⟨_, _, this, by simpa using hq, ⟨rfl, rfl, rfl, Nat.le_refl _, fun _ _ _ => rfl⟩, .inl rfl⟩
    · obtain ⟨ao', cap', e, h1, h2, h3, h4, hlo, h5⟩ := hq
      injection e with e1 e2 e3
      subst e1 e3
      obtain ⟨g, off, cur, rfl, g2, g3, g4⟩ := h5 (by omega)
      have hnl := hs.newsLen
      have hcap : (n + m) * i.size ≤ cap * i.size := Nat.mul_le_mul_right _ hr
      rw [Nat.add_mul] at hcap
      have hrun := run_append_room_src (P := P) w ts tx ty t i hts hi g off n cap x m news hs hr (fun j hj => by
        rw [blk_cell g2, Array.getElem?_eq_getElem (by omega)]; rfl) (fun j hj => blk_free g2 _)
      obtain ⟨cur', e1, e2, e3, e4⟩ := setCells_block g t news (off + n * i.size) w cur g2
      refine ⟨_, _, hrun, ⟨some ⟨g, off, none⟩, cap, rfl, hr, h2, by rw [List.length_append, h3, hnl, Nat.add_mul], (fun e => by cases e), (fun a e => by cases e; exact ⟨(hlo _ rfl).1, blk_lt e1⟩), fun _ => ⟨g, off, cur', rfl, e1, by omega, fun k hk => ?_⟩⟩, keeps_setCells g _ _ _, .inl rfl⟩
      rw [List.length_append] at hk
      rcases Nat.lt_or_ge k cs.length with hlt | hge
      · rw [e3 _ (by omega), g4 k hlt, List.getElem_append_left hlt]
      · have := e4 (k - cs.length) (by omega) (by omega)
        rw [show off + k = off + n * i.size + (k - cs.length) by omega, this, List.getElem_append_right hge]
  · have hrun := run_append_grow_src (P := P) w ts tx ty t i z hts hi hz ao n cap cs (oldCells hq.drew) x m news hs (by omega) (by unfold maxLen at hmax; omega) (growslice_fits (by omega) hlen)
    have hge := grownCap_ge w (n + m) cap t
    have hcm := grownCap_le_maxLen w (n + m) cap t hmax
    have hl : (cs ++ news).length = (n + m) * i.size := by rw [List.length_append, hq.len, hs.newsLen, Nat.add_mul]
    have hle : (n + m) * i.size ≤ grownCap w (n + m) cap t * i.size := Nat.mul_le_mul_right _ hge
    refine ⟨_, _, hrun, ⟨some ⟨w.heap.size, 0, none⟩, _, rfl, hge, hcm, hl, (fun e => by cases e), (fun a e => by cases e; exact ⟨hbase, by simp⟩), fun _ => ⟨w.heap.size, 0, _, rfl, heap_alloc_new w.drew _, ?_, fun k hk => ?_⟩⟩, ⟨rfl, rfl, rfl, by simp, fun k hk _ => heap_alloc_old w.drew _ hk⟩, .inr ⟨_, rfl, Nat.le_refl _⟩⟩
    · simp only [Array.size_append, List.size_toArray, size_zeroCells, hzs, hl, ← Nat.add_mul]
      rw [Nat.zero_add, show n + m + (grownCap w (n + m) cap t - (n + m)) = grownCap w (n + m) cap t by omega]
      exact Nat.le_refl _
    · rw [Nat.zero_add, Array.getElem?_append_left (by simpa using hk)]
      simp
theorem wpList_append_row {P : Program} {ops : Array Oper} {rest : List Oper} {o : Oper} {a : Act} {Q : Exit → Act → World → Prop} (w : World) (hg : o.guard = none) (s x : Operand) (ts tx t : TypeId)
    (hop : o.op = Op.call { callee := Callee.builtin Builtin.append, args := #[s, x], argTypes := #[ts, tx] }) (i : TypeInfo) (z : Value) (sz bytes : Nat) (hts : P.underlying ts = some (.slice t)) (hi : P.info? t = some i) (hz : i.zero = some z) (hsz : i.size = sz) (hby : i.bytes = bytes) (hzs : z.cells.size = sz)
    (base : Nat) (v : Value) (n : Nat) (cs : List Value) (hs : a.eval s = v) (hq : ORow w base t sz v n cs) (hbase : base ≤ w.heap.size)
    (xv : Value) (m : Nat) (news : List Value) (hx : a.eval x = xv) (hsrc : Src P sz tx xv m news w) (hlen : (n + m) * bytes ≤ 140737488355328) (hmax : n + m ≤ maxLen)
    (h : ∀ v' w', Grown w base t sz v (n + m) (cs ++ news) v' w' → wpList P ops Q rest (a.put o.dst v') w') : wpList P ops Q (o :: rest) a w := by
  refine wpList_plain hg fun K hK' => ?_
  obtain ⟨ao, cap, rfl, _, _⟩ := hq.shape
  obtain ⟨v', w', hrun, r⟩ := run_append_row (P := P) w ts t tx o.type i z sz bytes hts hi hz hsz hby hzs base ao n cap cs hq hbase xv m news hsrc hlen hmax
  unfold Oper.wp
  simp [execOp, hop, resolve, invoke, builtin, hs, hx, hrun, Result.andThen]
  exact hK' _ _ (h v' w' r)
/-- A row of ints. -/
theorem ints_src {P : Program} {tx e' : TypeId} (hk : P.underlying tx = some (.slice e')) {w : World} {A : Option Addr} {c : Nat} {xs : List Int} (h : ReadsI w A xs) (hA : A = none → xs = []) : Src P 1 tx (.slice A xs.length c) xs.length (intsV xs) w := by
  cases A with
  | none => rw [hA rfl]; exact Src.ofNil w hk c
  | some a =>
    refine Src.ofSlice w hk a _ c _ (by simp [intsV]) (fun j u hu => ?_) (fun u hu => ?_)
    · obtain ⟨hj, rfl⟩ := List.getElem?_eq_some_iff.1 hu
      have hj' : j < xs.length := by simpa [intsV] using hj
      obtain ⟨ad, e, hc⟩ := h.at_ hj'
      cases e
      rw [hc]; simp [intsV]
    · obtain ⟨n, _, rfl⟩ := List.mem_map.1 hu; rfl
theorem reads_none {w : World} {xs : List Int} {A : Option Addr} (h : ReadsI w A xs) : A = none → xs = [] := fun e => by
  rcases Nat.eq_zero_or_pos xs.length with h0 | h0
  · exact List.eq_nil_of_length_eq_zero h0
  · obtain ⟨ad, e', _⟩ := h.2 h0
    rw [e] at e'; cases e'
theorem ORow.ints {w : World} {base t n cap : Nat} {ao : Option Addr} {xs : List Int} (h : ORow w base t 1 (.slice ao n cap) n (intsV xs)) : n = xs.length ∧ ReadsI w ao xs := by
  have hl := h.len
  rw [intsV_len, Nat.mul_one] at hl
  refine ⟨hl.symm, ?_, fun h0 => ?_⟩
  · obtain ⟨_, _, e, h1, h2⟩ := h.shape
    injection e with e1 e2 e3
    unfold maxLen at h2; omega
  · obtain ⟨g, off, rfl, _, _, hc⟩ := h.cell (k := 0) (by rw [intsV_len]; exact h0)
    exact ⟨_, rfl, fun j hj => by rw [Addr.add_lit, (hc j (by rw [intsV_len]; exact hj)).1]; simp [intsV]⟩
theorem ReadsI.chg {S : Nat → Prop} {w w1 : World} {A : Option Addr} {xs : List Int} (h : ReadsI w A xs) (hk : Chg S w w1) (hne : ∀ a, A = some a → ¬ S a.block) : ReadsI w1 A xs :=
  ⟨h.1, fun h0 => by
    obtain ⟨ad, e, hc⟩ := h.2 h0
    refine ⟨ad, e, fun j hj => ?_⟩
    have hb : (ad.add j).block = ad.block := by unfold Addr.add; split <;> rfl
    exact hk.cell (hc j hj) (by rw [hb]; exact hne ad e)⟩
theorem RowAt.chg {S : Nat → Prop} {t b : Nat} {vs : List Value} {w w1 : World} (h : RowAt t b vs w) (hk : Chg S w w1) (hn : ¬ S b) : RowAt t b vs w1 := (hk.block b (blk_lt h) hn).trans h
/-- 's[1:]'. -/
theorem ORow.tail {P : Program} {w : World} {base t n cap : Nat} {ao : Option Addr} {x : Value} {cs : List Value} (h : ORow w base t 1 (.slice ao n cap) n (x :: cs)) (ts : TypeId) (hts : P.underlying ts = some (.slice t)) (i : TypeInfo) (hi : P.info? t = some i) (hsz : i.size = 1) :
    ∃ v', (∀ w', (Instr.slice ts (.slice ao n cap) (some (.int .i64 1)) none none).run P w' = .ok v' w') ∧ ORow w base t 1 v' cs.length cs ∧ v'.ownBlock = (Value.slice ao n cap).ownBlock ∧ n = cs.length + 1 := by
  have hl := h.len
  rw [List.length_cons, Nat.mul_one] at hl
  obtain ⟨ao', cap', e, h1, h2, h3, h4, hlo, h5⟩ := h
  injection e with e1 e2 e3
  subst e1 e3
  obtain ⟨g, off, cur, rfl, g2, g3, g4⟩ := h5 (by omega)
  have he : P.elem ts = t := by simp [Program.elem, hts]
  have hso : ∀ w', (sizeOf t).run P w' = .ok 1 w' := fun w' => by simp [sizeOf, typeInfo, hi, hsz]
  refine ⟨.slice (some (if cap = 1 then ⟨g, off, none⟩ else ⟨g, off + 1, none⟩)) (n - 1) (cap - 1), fun w' => ?_, ?_, ?_, hl.symm⟩
  · rw [run_slice_l (P := P) w' ts (some ⟨g, off, none⟩) n cap (by rw [he]; exact hts) .i64 1 (by omega) (by omega), he, hso]
    simp only [Result.andThen, sliced]
    by_cases hc : cap = 1
    · subst hc; simp
    · simp [hc, Addr.add_lit]
  · subst hl
    by_cases hc : cap = 1
    · subst hc
      obtain rfl : cs = [] := List.eq_nil_of_length_eq_zero (by simp at h3; omega)
      rw [if_pos rfl]
      exact ⟨_, 0, rfl, Nat.le_refl _, by decide, by simp, (fun e => by cases e), (fun a e => by cases e; exact ⟨(hlo _ rfl).1, blk_lt g2⟩), fun h => absurd h (by decide)⟩
    · rw [if_neg hc]
      refine ⟨_, cap - 1, rfl, by omega, by omega, by omega, (fun e => by cases e), (fun a e => by cases e; exact ⟨(hlo _ rfl).1, blk_lt g2⟩), fun _ => ⟨g, off + 1, cur, rfl, g2, by omega, fun k hk => ?_⟩⟩
      have := g4 (k + 1) (by simpa using hk)
      rw [show off + 1 + k = off + (k + 1) by omega, this]; simp
  · by_cases hc : cap = 1 <;> simp [hc, Value.ownBlock]
/-- 'append' to a row of ints of the call's own. -/
theorem wpList_app_int {ops : Array Oper} {rest : List Oper} {o : Oper} {a : Act} {Q : Exit → Act → World → Prop} (w : World) (hg : o.guard = none) (s x : Operand)
    (hop : o.op = Op.call { callee := Callee.builtin Builtin.append, args := #[s, x], argTypes := #[28, 28] }) (base : Nat) (v : Value) (n : Nat) (xs : List Int) (hs : a.eval s = v) (hq : ORow w base 3 1 v n (intsV xs)) (hbase : base ≤ w.heap.size)
    (A : Option Addr) (m c : Nat) (news : List Int) (hx : a.eval x = .slice A m c) (hm : news.length = m) (hr : ReadsI w A news) (hlen : (n + m) * 8 ≤ 140737488355328)
    (h : ∀ v' w', Grown w base 3 1 v (n + m) (intsV (xs ++ news)) v' w' → wpList Tryz.prog ops Q rest (a.put o.dst v') w') : wpList Tryz.prog ops Q (o :: rest) a w := by
  obtain ⟨i, hi, hz, hsz, hby⟩ := info_parts info_int
  subst hm
  refine wpList_append_row w hg s x _ _ _ hop i _ 1 8 Tryz.underlying28 hi hz hsz hby rfl base v n (intsV xs) hs hq hbase _ news.length (intsV news) hx (ints_src Tryz.underlying28 hr (reads_none hr)) hlen (by unfold maxLen; omega) (fun v' w' hG => h v' w' ?_)
  rwa [show intsV (xs ++ news) = intsV xs ++ intsV news by simp [intsV]]
theorem ORow.tail_int {w : World} {base n cap : Nat} {ao : Option Addr} {x : Int} {xs : List Int} (h : ORow w base 3 1 (.slice ao n cap) n (intsV (x :: xs))) :
    ∃ v', (∀ w', (Instr.slice 28 (.slice ao n cap) (some (.int .i64 1)) none none).run Tryz.prog w' = .ok v' w') ∧ ORow w base 3 1 v' xs.length (intsV xs) ∧ v'.ownBlock = (Value.slice ao n cap).ownBlock ∧ n = xs.length + 1 := by
  obtain ⟨i, hi, hz, hsz, hby⟩ := info_parts info_int
  have := ORow.tail (P := Tryz.prog) (cs := intsV xs) h 28 Tryz.underlying28 i hi hsz
  rwa [intsV_len] at this
end Go.Proofs.YtjghibdlmmjobaaGreatDoor

namespace Go.Proofs.YtjghibdlmmjobaaGreatDoor
open Go.RowKit

/-- A call that answers a list of ints and a number; nothing old turns. -/
def ListsE (l : List Int) (n : Int) (w : World) (e : Ending) (w' : World) : Prop := ∃ A c, e = .returned (.tuple #[.slice A l.length c, .int .i64 n]) ∧ ReadsI w' A l ∧ Below w.heap.size w w' ∧ ∀ a, A = some a → w.heap.size ≤ a.block
theorem fnAt_new (f : Fn) (A : Option Addr) (c : Nat) (w : World) (hr : ReadsC w A f.code) : FnAt (w.alloc (.cells #[.int .i64 f.args, .int .i64 f.locals, .slice A f.code.length c] 84)) ⟨w.heap.size, 0, none⟩ f A c :=
  ⟨(blk_cell (blk_new w _) 0).trans rfl, (blk_cell (blk_new w _) 1).trans rfl, (blk_cell (blk_new w _) 2).trans rfl, hr.below (below_alloc (Below.refl _ _) _)⟩
set_option maxRecDepth 100000 in
theorem nextF_any (f : Fn) (A : Option Addr) (c : Nat) (pc : Nat) (w : World) (hr : ReadsC w A f.code) (hm : codeMay f.code = true) (hpc : pc < f.code.length) :
    Calls Tryz.prog 219 #[fnV f A c, .int .i64 pc] w (ListsE (nextOf f.code.length pc f.code[pc]) 0 w) := by
  have b1 : Below w.heap.size w (w.alloc (.cells #[.int .i64 f.args, .int .i64 f.locals, .slice A f.code.length c] 84)) := below_alloc (Below.refl _ _) _
  have hF := fnAt_new f A c w hr
  have HM := Lib.hid (flowMay_any _ f A c _ hF)
  rw [hm] at HM
  have hn : f.code.length ≤ 9223372036854775807 := hr.1
  have HF := Lib.hid hF
  have d1 : decide ((pc : Int) < 0) = false := by simp
  have d2 : decide (f.code.length ≤ pc) = false := by simpa using hpc
  clear hr hF hm
  unfold fnV
  go_enter Tryz.func219, Tryz.ntmps219
  go_wp2_with fail
  refine HM.out.mono ?_
  rintro e w2 ⟨rfl, hB⟩
  have hF2 := HF.out.below hB
  have c2 := hF2.c2
  have HN := Lib.hid (next_any _ f A c pc w2 hF2 hpc)
  have B2 := Lib.hid (below_trans b1 hB)
  clear hF2 hB b1 HF HM
  go_wp2_with fail
  refine HN.out.mono ?_
  rintro e w3 ⟨B, d, rfl, hl, hB3, hlo⟩
  have HL := Lib.hid hl
  have B3 := Lib.hid (below_trans B2.out hB3)
  clear hl hB3
  go_wp2
  go_ret2
  exact ⟨_, _, rfl, HL.out, B3.out, fun a e => Nat.le_trans B2.out.size (hlo a e)⟩
end Go.Proofs.YtjghibdlmmjobaaGreatDoor

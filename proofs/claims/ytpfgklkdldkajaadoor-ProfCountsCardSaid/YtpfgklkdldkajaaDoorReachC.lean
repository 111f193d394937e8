/- Which pcs are come to, computed. Plain law; no program in sight. -/
import Derived.Test.YtpfgklkdldkajaaDoorReach
namespace Go.Proofs.YtpfgklkdldkajaaDoor

def bstep : List Nat → List Bool → List Nat → List Bool × List Nat
  | [], out, row => (out, row)
  | t :: ts, out, row => if out[t]? = some false then bstep ts (out.set t true) (row ++ [t]) else bstep ts out row
def bfsR (code : List Ins) : Nat → List Bool → List Nat → List Bool
  | 0, out, _ => out
  | _ + 1, out, [] => out
  | n + 1, out, pc :: row => bfsR code n (bstep (nx code pc) out row).1 (bstep (nx code pc) out row).2
def reachL (code : List Ins) : List Bool := bfsR code (code.length + 1) ((List.replicate code.length false).set 0 true) [0]
theorem bstep_inv {code : List Ins} {pc : Nat} (hm : codeMay code = true) : ∀ (ts : List Nat) (out : List Bool) (row : List Nat), (∀ t ∈ ts, t ∈ nx code pc) → FInv code out (pc :: row) →
    FInv code (bstep ts out row).1 (pc :: (bstep ts out row).2) ∧ (∀ q, Has out q → Has (bstep ts out row).1 q) ∧ (∀ t ∈ ts, Has (bstep ts out row).1 t) ∧ unset (bstep ts out row).1 + (bstep ts out row).2.length = unset out + row.length
  | [], out, row, _, h => ⟨h, fun _ h => h, fun _ h => by simp at h, rfl⟩
  | t :: ts, out, row, ht, h => by
    have hx : t < out.length := by rw [h.len]; exact nx_lt hm (ht t (by simp))
    by_cases ho : out[t]? = some false
    · have hof : out[t] = false := by rw [List.getElem?_eq_getElem hx] at ho; exact Option.some.inj ho
      have h2 : FInv code (out.set t true) (pc :: (row ++ [t])) := by
        have := h.mark (h.inrow pc (by simp)) (ht t (by simp)) hx
        rwa [List.cons_append] at this
      obtain ⟨i1, i2, i3, i4⟩ := bstep_inv hm ts (out.set t true) (row ++ [t]) (fun q hq => ht q (by simp [hq])) h2
      have e : bstep (t :: ts) out row = bstep ts (out.set t true) (row ++ [t]) := by rw [bstep, if_pos ho]
      rw [e]
      refine ⟨i1, fun q hq => i2 q (has_set hq), fun q hq => ?_, ?_⟩
      · rcases List.mem_cons.1 hq with rfl | hq
        · exact i2 _ (has_set_self hx)
        · exact i3 q hq
      · have := unset_set hx hof
        rw [i4]; simp; omega
    · obtain ⟨i1, i2, i3, i4⟩ := bstep_inv hm ts out row (fun q hq => ht q (by simp [hq])) h
      have e : bstep (t :: ts) out row = bstep ts out row := by rw [bstep, if_neg ho]
      rw [e]
      refine ⟨i1, i2, fun q hq => ?_, i4⟩
      rcases List.mem_cons.1 hq with rfl | hq
      · refine i2 _ ?_
        unfold Has
        rw [List.getElem?_eq_getElem hx] at ho ⊢
        cases hb : out[q] with
        | true => rfl
        | false => rw [hb] at ho; exact absurd rfl ho
      · exact i3 q hq
theorem bfsR_eq {code : List Ins} (hm : codeMay code = true) : ∀ (n : Nat) (out : List Bool) (row : List Nat), FInv code out row → unset out + row.length ≤ n → bfsR code n out row = reachB code
  | 0, out, row, h, hn => by
    obtain rfl : row = [] := List.eq_nil_of_length_eq_zero (by omega)
    exact h.done
  | n + 1, out, [], h, _ => h.done
  | n + 1, out, pc :: row, h, hn => by
    obtain ⟨i1, i2, i3, i4⟩ := bstep_inv (pc := pc) hm (nx code pc) out row (fun _ h => h) h
    rw [bfsR]
    exact bfsR_eq hm n _ _ (i1.pop i3) (by rw [i4]; simp at hn; omega)
theorem reachL_eq {code : List Ins} (hm : codeMay code = true) : reachL code = reachB code :=
  bfsR_eq hm _ _ _ (FInv.start hm) (by
    have h0 := Reach.lt hm .zero
    have hs := unset_set (out := List.replicate code.length false) (t := 0) (by simpa using h0) (by simp)
    have hu : unset (List.replicate code.length false) = code.length := by simp [unset, List.countP_replicate]
    rw [hu] at hs
    simp; omega)
theorem reachL_len {code : List Ins} (hm : codeMay code = true) : (reachL code).length = code.length := by rw [reachL_eq hm]; simp [reachB]
theorem reachL_iff {code : List Ins} (hm : codeMay code = true) {t : Nat} : Has (reachL code) t ↔ Reach code t := by
  rw [reachL_eq hm]
  unfold Has reachB
  rw [List.getElem?_map]
  by_cases ht : t < code.length
  · rw [List.getElem?_range ht]; simp
  · rw [List.getElem?_eq_none (by simpa using ht)]
    simp
    exact fun h => ht (h.lt hm)
end Go.Proofs.YtpfgklkdldkajaaDoor

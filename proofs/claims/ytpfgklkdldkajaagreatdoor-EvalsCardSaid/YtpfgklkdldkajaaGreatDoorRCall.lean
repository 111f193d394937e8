/- The document's 'call', 'Instr' on a frame at a place: an instruction, and what it came to. Conditions: the frame is the call's own and may be; the program lies in older memory. -/
import Derived.Test.YtpfgklkdldkajaaGreatDoorRPop
import Derived.Test.YtpfgklkdldkajaaGreatDoorGZ20
import Derived.Test.YtpfgklkdldkajaaGreatDoorGZ29
namespace Go.Proofs.YtpfgklkdldkajaaGreatDoor
open Go.RowKit

/-- What an instruction came to, as the document tells it. -/
structure Did where
  call : Bool
  fn : Int
  args : List Int
  ret : Bool
  value : Int
  print : Bool
  done : Int
def didC (d : Did) (va : Value) : List Value := [.bool d.call, .int .i64 d.fn, va, .bool d.ret, .int .i64 d.value, .bool d.print, .int .i64 d.done]
def didOf : Res → Did
  | .next => ⟨false, 0, [], false, 0, false, 0⟩
  | .print v => ⟨false, 0, [], false, v, true, 0⟩
  | .call fn args => ⟨true, fn, args, false, 0, false, 0⟩
  | .ret v => ⟨false, 0, [], true, v, false, 0⟩
  | .over d => ⟨false, 0, [], false, 0, false, d⟩
/-- Seven cells, as they are read. -/
theorem row7 {t b : Nat} {c0 c1 c2 c3 c4 c5 c6 : Value} {w : World} (h : RowAt t b [c0, c1, c2, c3, c4, c5, c6] w) :
    w.cell? ⟨b, 0, none⟩ = some c0 ∧ w.cell? ⟨b, 1, none⟩ = some c1 ∧ w.cell? ⟨b, 2, none⟩ = some c2 ∧ w.cell? ⟨b, 3, none⟩ = some c3 ∧ w.cell? ⟨b, 4, none⟩ = some c4 ∧ w.cell? ⟨b, 5, none⟩ = some c5 ∧ w.cell? ⟨b, 6, none⟩ = some c6 :=
  ⟨h.cell (k := 0) (by simp), h.cell (k := 1) (by simp), h.cell (k := 2) (by simp), h.cell (k := 3) (by simp), h.cell (k := 4) (by simp), h.cell (k := 5) (by simp), h.cell (k := 6) (by simp)⟩
/-- Seven cells, written one behind the other. -/
theorem put7 {t b : Nat} {cs : List Value} {w : World} (h : RowAt t b cs w) (hl : cs.length = 7) (c0 c1 c2 c3 c4 c5 c6 : Value) :
    ((w.setCell ⟨b, 0, none⟩ c0).cell? ⟨b, 0, none⟩ = some c0 ∧ ((w.setCell ⟨b, 0, none⟩ c0).setCell ⟨b, 1, none⟩ c1).cell? ⟨b, 1, none⟩ = some c1 ∧ (((w.setCell ⟨b, 0, none⟩ c0).setCell ⟨b, 1, none⟩ c1).setCell ⟨b, 2, none⟩ c2).cell? ⟨b, 2, none⟩ = some c2 ∧ ((((w.setCell ⟨b, 0, none⟩ c0).setCell ⟨b, 1, none⟩ c1).setCell ⟨b, 2, none⟩ c2).setCell ⟨b, 3, none⟩ c3).cell? ⟨b, 3, none⟩ = some c3 ∧ (((((w.setCell ⟨b, 0, none⟩ c0).setCell ⟨b, 1, none⟩ c1).setCell ⟨b, 2, none⟩ c2).setCell ⟨b, 3, none⟩ c3).setCell ⟨b, 4, none⟩ c4).cell? ⟨b, 4, none⟩ = some c4 ∧ ((((((w.setCell ⟨b, 0, none⟩ c0).setCell ⟨b, 1, none⟩ c1).setCell ⟨b, 2, none⟩ c2).setCell ⟨b, 3, none⟩ c3).setCell ⟨b, 4, none⟩ c4).setCell ⟨b, 5, none⟩ c5).cell? ⟨b, 5, none⟩ = some c5 ∧ (((((((w.setCell ⟨b, 0, none⟩ c0).setCell ⟨b, 1, none⟩ c1).setCell ⟨b, 2, none⟩ c2).setCell ⟨b, 3, none⟩ c3).setCell ⟨b, 4, none⟩ c4).setCell ⟨b, 5, none⟩ c5).setCell ⟨b, 6, none⟩ c6).cell? ⟨b, 6, none⟩ = some c6) ∧ Chg (fun x => x = b) w (((((((w.setCell ⟨b, 0, none⟩ c0).setCell ⟨b, 1, none⟩ c1).setCell ⟨b, 2, none⟩ c2).setCell ⟨b, 3, none⟩ c3).setCell ⟨b, 4, none⟩ c4).setCell ⟨b, 5, none⟩ c5).setCell ⟨b, 6, none⟩ c6) := by
  match cs, hl with
  | [d0, d1, d2, d3, d4, d5, d6], _ =>
    have s1 := h.put 0 c0
    have s2 := s1.put 1 c1
    have s3 := s2.put 2 c2
    have s4 := s3.put 3 c3
    have s5 := s4.put 4 c4
    have s6 := s5.put 5 c5
    have s7 := s6.put 6 c6
    exact ⟨⟨s1.cell (k := 0) (by simp), s2.cell (k := 1) (by simp), s3.cell (k := 2) (by simp), s4.cell (k := 3) (by simp), s5.cell (k := 4) (by simp), s6.cell (k := 5) (by simp), s7.cell (k := 6) (by simp)⟩, (((((((Chg.refl (fun x => x = b) w).put (a := ⟨b, 0, none⟩) rfl _).put (a := ⟨b, 1, none⟩) rfl _).put (a := ⟨b, 2, none⟩) rfl _).put (a := ⟨b, 3, none⟩) rfl _).put (a := ⟨b, 4, none⟩) rfl _).put (a := ⟨b, 5, none⟩) rfl _).put (a := ⟨b, 6, none⟩) rfl _⟩
/-- 'Instr' tells: the frame behind it, what came of it. -/
def RInsE (f : Frm) (d : Did) (base g off : Nat) (v1 v2 : Value) (w : World) (e : Ending) (w' : World) : Prop :=
  ∃ u va, e = .returned (.agg (didC d va).toArray) ∧ FTurn w w' base g off f v1 v2 u ∧ InnAt w' w.heap.size va (innI d.args) ∧ ∀ b, ob va = some b → ob u ≠ some b
theorem rins_end {w w1 w2 : World} {base g off n0 : Nat} {f : Frm} {v1 v2 va u : Value} {d : Did} (hT : FTurn w w1 base g off f v1 v2 u) (hI : InnAt w1 w.heap.size va (innI d.args)) (hd : ∀ b, ob va = some b → ob u ≠ some b) (hk : Chg (fun b => b = n0) w1 w2) (h0 : w.heap.size ≤ n0) (hg : n0 ≠ g) (hv : ob v1 ≠ some n0) (hu : ob u ≠ some n0) (ha : ob va ≠ some n0) :
    RInsE f d base g off v1 v2 w (.returned (.agg (didC d va).toArray)) w2 := ⟨u, va, rfl, hT.past hk h0 hg hv hu, hI.chg1 hk ha, hd⟩
set_option maxRecDepth 100000 in
set_option maxHeartbeats 8000000 in
theorem rcallD_any {w : World} {base g off cp : Nat} {p : List Fn} {Ap : Option Addr} {f : Frm} {v1 v2 : Value} (h : FAt w base g off f v1 v2) (fn d : Int) (hd : 12 ≤ d) :
    Calls Tryz.prog 118 #[.agg #[.slice Ap p.length cp], .pointer (some ⟨g, off, none⟩), .int .i64 fn, .int .i64 d] w (RInsE f ⟨false, 0, [], false, 0, false, 3⟩ base g off v1 v2 w) := by
  obtain ⟨w1, hw1⟩ : ∃ w1, w.alloc (.cells #[.slice Ap p.length cp] 24) = w1 := ⟨_, rfl⟩
  have b1 : Below w.heap.size w w1 := hw1 ▸ below_alloc (Below.refl _ _) _
  have b2 : Below w1.heap.size w1 (w1.alloc (.cells #[.bool false, .int .i64 0, .slice none 0 0, .bool false, .int .i64 0, .bool false, .int .i64 0] 151)) := below_alloc (Below.refl _ _) _
  have b02 := below_trans b1 b2
  have y1 : w1.heap.size = w.heap.size + 1 := by rw [← hw1]; simp
  have r1 : RowAt 24 w.heap.size [.slice Ap p.length cp] (w1.alloc (.cells #[.bool false, .int .i64 0, .slice none 0 0, .bool false, .int .i64 0, .bool false, .int .i64 0] 151)) := (hw1 ▸ RowAt.new _ _ w : RowAt 24 w.heap.size [.slice Ap p.length cp] w1).below b2
  have r2 : RowAt 151 w1.heap.size [.bool false, .int .i64 0, .slice none 0 0, .bool false, .int .i64 0, .bool false, .int .i64 0] (w1.alloc (.cells #[.bool false, .int .i64 0, .slice none 0 0, .bool false, .int .i64 0, .bool false, .int .i64 0] 151)) := RowAt.new _ _ w1
  have d0 : decide (12 ≤ d) = true := by simpa using hd
  have AP := Lib.hid (fun (x : Nat) (hx : w.heap.size ≤ x) => h.apart hx)
  have Y := Lib.hid y1
  have T := Lib.hid (FTurn.of_below h b02)
  have R2 := Lib.hid r2
  have NU := Lib.hid (show ob v2 ≠ some w1.heap.size from (AP.out _ (by omega)).2.2)
  clear hd h b1 b2 b02 y1 r1 r2
  go_enter Tryz.func118, Tryz.ntmps118
  go_upto_region 2 with fail
  generalize hw2 : (w1.alloc (.cells #[.bool false, .int .i64 0, .slice none 0 0, .bool false, .int .i64 0, .bool false, .int .i64 0] 151)) = w2 at *
  clear hw1 hw2
  obtain ⟨q0, q1, q2, q3, q4, q5, q6⟩ := row7 R2.out
  have z_ := fun k => (R2.out).free k
  have z0 := z_ 0
  have z1 := z_ 1
  have z2 := z_ 2
  have z3 := z_ 3
  have z4 := z_ 4
  have z5 := z_ 5
  have z6 := z_ 6
  have pz := put7 R2.out rfl (.bool false) (.int .i64 (0)) (.slice none 0 0) (.bool false) (.int .i64 (0)) (.bool false) (.int .i64 (3))
  have EE := Lib.hid pz.1
  have HR := Lib.hid (rins_end (d := ⟨false, 0, [], false, 0, false, 3⟩) (va := .slice none 0 0) T.out (innI_nil _ _) (fun _ e => by cases e) pz.2 (show w.heap.size ≤ w1.heap.size by have := Y.out; omega) (AP.out _ (show w.heap.size ≤ w1.heap.size by have := Y.out; omega)).1 (AP.out _ (show w.heap.size ≤ w1.heap.size by have := Y.out; omega)).2.1 NU.out (fun e => by cases e))
  clear z_ pz
  go_wp2_with fail
  exact bodyPost_ret (v := .agg (didC (⟨false, 0, [], false, 0, false, 3⟩) (.slice none 0 0)).toArray) (by simp [results, Tryz.results118, go_sem, didC, EE.out.1, EE.out.2.1, EE.out.2.2.1, EE.out.2.2.2.1, EE.out.2.2.2.2.1, EE.out.2.2.2.2.2.1, EE.out.2.2.2.2.2.2]) rfl HR.out
set_option maxRecDepth 100000 in
set_option maxHeartbeats 8000000 in
theorem rcall_any {w W0 : World} {base g off cp : Nat} {p : List Fn} {Ap : Option Addr} {f : Frm} {v1 v2 : Value} (h : FAt w base g off f v1 v2) (hW : Below W0.heap.size W0 w) (hr : ReadsF W0 Ap p) {n M : Nat} (hn : n < p.length) (hM : p[n].args = M) (hle : M ≤ f.stack.length) (h8 : f.stack.length ≤ 1000) (d : Int) (hd : d < 12) :
    Calls Tryz.prog 118 #[.agg #[.slice Ap p.length cp], .pointer (some ⟨g, off, none⟩), .int .i64 n, .int .i64 d] w (RInsE ⟨f.fn, f.pc, f.locals, f.stack.take (f.stack.length - M)⟩ ⟨true, n, f.stack.drop (f.stack.length - M), false, 0, false, 0⟩ base g off v1 v2 w) := by
  obtain ⟨K, hK⟩ : ∃ K, f.stack.length - M = K := ⟨_, rfl⟩
  rw [hK]
  obtain ⟨w1, hw1⟩ : ∃ w1, w.alloc (.cells #[.slice Ap p.length cp] 24) = w1 := ⟨_, rfl⟩
  have b1 : Below w.heap.size w w1 := hw1 ▸ below_alloc (Below.refl _ _) _
  have b2 : Below w1.heap.size w1 (w1.alloc (.cells #[.bool false, .int .i64 0, .slice none 0 0, .bool false, .int .i64 0, .bool false, .int .i64 0] 151)) := below_alloc (Below.refl _ _) _
  have b02 := below_trans b1 b2
  have y1 : w1.heap.size = w.heap.size + 1 := by rw [← hw1]; simp
  have r1 : RowAt 24 w.heap.size [.slice Ap p.length cp] (w1.alloc (.cells #[.bool false, .int .i64 0, .slice none 0 0, .bool false, .int .i64 0, .bool false, .int .i64 0] 151)) := (hw1 ▸ RowAt.new _ _ w : RowAt 24 w.heap.size [.slice Ap p.length cp] w1).below b2
  have r2 : RowAt 151 w1.heap.size [.bool false, .int .i64 0, .slice none 0 0, .bool false, .int .i64 0, .bool false, .int .i64 0] (w1.alloc (.cells #[.bool false, .int .i64 0, .slice none 0 0, .bool false, .int .i64 0, .bool false, .int .i64 0] 151)) := RowAt.new _ _ w1
  have hF2 := h.below b02
  obtain ⟨A1, c1, A2, c2, rfl, rfl⟩ := h.shape
  have i2 : CRow (w1.alloc (.cells #[.bool false, .int .i64 0, .slice none 0 0, .bool false, .int .i64 0, .bool false, .int .i64 0] 151)) base 3 1 (.slice A2 f.stack.length c2) f.stack.length (intsV f.stack) := hF2.r2
  have hcap := CRow.cap i2
  obtain ⟨ad, rfl, Ac, cc, hF⟩ := fnAt_of hr (below_trans hW b02) hn
  have k0 := hF.c0
  rw [hM] at k0
  have kP := row_cell r1
  obtain ⟨i, hi, hz0, hsz, hbb⟩ := info_parts info_int
  have hcut := fun W => run_cut (P := Tryz.prog) 28 3 Tryz.underlying28 i hi A2 f.stack.length c2 K (by omega) W
  have hini := fun W => run_initA (P := Tryz.prog) 28 3 Tryz.underlying28 i hi A2 f.stack.length c2 K (by omega) W
  rw [hsz] at hcut
  obtain ⟨A3, hA3⟩ : ∃ A3, (if c2 = K then A2 else A2.map (·.add (K * 1))) = A3 := ⟨_, rfl⟩
  rw [hA3] at hcut
  have hrd := cut_reads (K := K) (cap := c2) (CRow.ints i2) hcap
  rw [hA3] at hrd
  have hdl : (f.stack.drop K).length = f.stack.length - K := List.length_drop
  obtain ⟨m0, m1, m2, m3, fz⟩ := hF2.cells
  have hw1' : IntKind.i64.wrap ((f.stack.length : Int) - (M : Int)) = K := by rw [IntKind.wrap_i64]; omega
  have hw2' : IntKind.i64.wrap ((f.stack.length : Int) + -(M : Int)) = K := by rw [IntKind.wrap_i64]; omega
  have d0 : decide (12 ≤ d) = false := by simpa using hd
  have hnn : (n : Int) < p.length := by omega
  have hpl := hr.1
  have AP := Lib.hid (fun (x : Nat) (hx : w.heap.size ≤ x) => h.apart hx)
  have Y := Lib.hid y1
  have HF := Lib.hid (And.intro h (And.intro b02 r2))
  have HKL := Lib.hid (show K ≤ f.stack.length by omega)
  have HRD := Lib.hid hrd
  have HDL := Lib.hid hdl
  have HSL := Lib.hid h8
  have m3b : (w1.alloc (.cells #[.bool false, .int .i64 0, .slice none 0 0, .bool false, .int .i64 0, .bool false, .int .i64 0] 151)).cell? ⟨g, off + 3, none⟩ = some (.slice A2 f.stack.length c2) := m3
  clear h hr hW hF hM hle h8 hd hK hA3 hrd i2 hi hz0 hsz hbb m0 m1 m2 fz hF2 b1 b2 b02 y1 r1 r2 hdl
  go_enter Tryz.func118, Tryz.ntmps118
  go_upto_region 3 with fail
  generalize hw2 : (w1.alloc (.cells #[.bool false, .int .i64 0, .slice none 0 0, .bool false, .int .i64 0, .bool false, .int .i64 0] 151)) = w2 at *
  clear hw1 hw2
  go_quiet (fail)
  have hq : Below w2.heap.size w2 (w2.drewN nq) := below_drew (Below.refl _ _) nq
  obtain ⟨w3, hw3⟩ : ∃ w3, w2.drewN nq = w3 := ⟨_, rfl⟩
  rw [hw3] at hq ⊢
  obtain ⟨hFa, hFb, hFc⟩ := HF.out
  have m33 := cell_below hq m3b
  obtain ⟨ao, cap, w4, hrun, hcr, hbr⟩ := append_copy (c := c2 - K) (HRD.out.below hq) (by have := HSL.out; have := HDL.out; omega)
  rw [HDL.out] at hrun hcr
  have m34 := cell_below (below_alloc (Below.refl w3.heap.size w3) (.cells #[] 3)) m33
  have m35 := cell_below hbr m33
  have B04 := below_trans (below_trans hFb hq) hbr
  have h4 := hFa.below B04
  obtain ⟨_, _, _, _, fz4⟩ := h4.cells
  have zg := fz4 (off + 3)
  have hT := take_put hFa HKL.out B04
  have T := Lib.hid hT
  have R2 := Lib.hid (((hFc.below hq).below hbr).chg (S := fun b => b = g) (w1 := w4.setCell ⟨g, off + 3, none⟩ (.slice A2 K c2)) (Chg.put (S := fun b => b = g) (Chg.refl _ w4) (a := ⟨g, off + 3, none⟩) rfl _) (AP.out _ (show w.heap.size ≤ w1.heap.size by have := Y.out; omega)).1)
  have hlo : ∀ b, ob (.slice ao (f.stack.length - K) cap) = some b → w3.heap.size ≤ b := fun b e => (hcr.in_ b e).1
  have hs3 : w1.heap.size < w3.heap.size := Nat.lt_of_lt_of_le (blk_lt hFc) hq.size
  have gl := hFa.lt
  have HI := Lib.hid (show InnAt (w4.setCell ⟨g, off + 3, none⟩ (.slice A2 K c2)) w.heap.size (.slice ao (f.stack.length - K) cap) (innI (f.stack.drop K)) from by
    show CRow _ w.heap.size 3 1 _ (f.stack.drop K).length _
    rw [HDL.out]
    exact (hcr.mono (by have := Y.out; omega)).chg (S := fun b => b = g) (Chg.put (S := fun b => b = g) (Chg.refl _ w4) (a := ⟨g, off + 3, none⟩) rfl _) (fun b e e2 => by have := hlo b e; have := Y.out; omega))
  have DIS := Lib.hid (show ∀ b, ob (.slice ao (f.stack.length - K) cap) = some b → ob (.slice A2 K c2) ≠ some b from fun b e e2 => by
    have h1 := hlo b e
    have h2 : ob (.slice A2 f.stack.length c2) = some b := by
      cases A2 with
      | none => cases c2 <;> cases e2
      | some a => cases c2 with
        | zero => cases e2
        | succ c => exact e2
    have := (hFa.lo2 b h2).2
    have := Y.out
    omega)
  have NA := Lib.hid (show ob (.slice ao (f.stack.length - K) cap) ≠ some w1.heap.size from fun e => by have := hlo _ e; omega)
  have NU := Lib.hid (show ob (.slice A2 K c2) ≠ some w1.heap.size from fun e2 => by
    have h2 : ob (.slice A2 f.stack.length c2) = some w1.heap.size := by
      cases A2 with
      | none => cases c2 <;> cases e2
      | some a => cases c2 with
        | zero => cases e2
        | succ c => exact e2
    exact (AP.out _ (show w.heap.size ≤ w1.heap.size by have := Y.out; omega)).2.2 h2)
  clear hq hFa hFb hFc hcr hbr B04 h4 fz4 hT hlo hs3 gl hw3
  go_upto_region 6 with (first | (at_builtin; refine wpList_append_run _ rfl _ _ _ _ rfl _ _ _ _ rfl rfl hrun ?_) | fail)
  clear hrun m33 m34 m35 zg
  obtain ⟨q0, q1, q2, q3, q4, q5, q6⟩ := row7 R2.out
  have z_ := fun k => (R2.out).free k
  have z0 := z_ 0
  have z1 := z_ 1
  have z2 := z_ 2
  have z3 := z_ 3
  have z4 := z_ 4
  have z5 := z_ 5
  have z6 := z_ 6
  have pz := put7 R2.out rfl (.bool true) (.int .i64 (n)) (.slice ao (f.stack.length - K) cap) (.bool false) (.int .i64 (0)) (.bool false) (.int .i64 (0))
  have EE := Lib.hid pz.1
  have HR := Lib.hid (rins_end (d := ⟨true, n, f.stack.drop K, false, 0, false, 0⟩) (va := .slice ao (f.stack.length - K) cap) T.out HI.out DIS.out pz.2 (show w.heap.size ≤ w1.heap.size by have := Y.out; omega) (AP.out _ (show w.heap.size ≤ w1.heap.size by have := Y.out; omega)).1 (AP.out _ (show w.heap.size ≤ w1.heap.size by have := Y.out; omega)).2.1 NU.out NA.out)
  clear z_ pz
  go_wp2_with fail
  exact bodyPost_ret (v := .agg (didC (⟨true, n, f.stack.drop K, false, 0, false, 0⟩) (.slice ao (f.stack.length - K) cap)).toArray) (by simp [results, Tryz.results118, go_sem, didC, EE.out.1, EE.out.2.1, EE.out.2.2.1, EE.out.2.2.2.1, EE.out.2.2.2.2.1, EE.out.2.2.2.2.2.1, EE.out.2.2.2.2.2.2]) rfl HR.out
end Go.Proofs.YtpfgklkdldkajaaGreatDoor

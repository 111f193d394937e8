/- 'step.call': a call takes its args off a frame at a place. Conditions: the frame is the call's own; the program lies in older memory; the stack holds the args. -/
import Derived.Test.YtpfgklkdldkajaaDoorGE17
namespace Go.Proofs.YtpfgklkdldkajaaDoor
open Go.RowKit

/-- What an instruction of code or of a program came to. -/
structure Exc where
  kind : Int
  pl : Int
  fuel : Int
  fn : Int
  args : List Int
  value : Int
  print : Bool
  mt : Int
  polled : Bool
def excC (x : Exc) (va : Value) : List Value := [.int .i64 x.kind, .int .i64 x.pl, .int .i64 x.fuel, .int .i64 x.fn, va, .int .i64 x.value, .bool x.print, .int .i64 x.mt, .bool x.polled]
theorem run_cut {P : Program} (ts t : TypeId) (hts : P.underlying ts = some (.slice t)) (i : TypeInfo) (hi : P.info? t = some i) (A : Option Addr) (n cap K : Nat) (hK : K ≤ n) (w : World) : (Instr.slice ts (.slice A n cap) (some (.int .i64 K)) none none).run P w = .ok (.slice (if cap = K then A else A.map (·.add (K * i.size))) (n - K) (cap - K)) w := by
  have he : P.elem ts = t := by simp [Program.elem, hts]
  have hso : ∀ w', (sizeOf t).run P w' = .ok i.size w' := fun w' => by simp [sizeOf, typeInfo, hi]
  rw [run_slice_l (P := P) w ts A n cap (by rw [he]; exact hts) .i64 K (by omega) (by omega), he, hso]
  simp [Result.andThen, sliced]
theorem run_initA {P : Program} (ts t : TypeId) (hts : P.underlying ts = some (.slice t)) (i : TypeInfo) (hi : P.info? t = some i) (A : Option Addr) (n cap m : Nat) (hm : m ≤ cap) (w : World) : (Instr.slice ts (.slice A n cap) none (some (.int .i64 m)) none).run P w = .ok (.slice A m cap) w := by
  have he : P.elem ts = t := by simp [Program.elem, hts]
  have hso : ∀ w', (sizeOf t).run P w' = .ok i.size w' := fun w' => by simp [sizeOf, typeInfo, hi]
  rw [run_slice_h (P := P) w ts A n cap (by rw [he]; exact hts) .i64 m (by omega) (by omega), he, hso]
  have e : A.map (fun x => x.add 0) = A := by cases A <;> simp [add_nil]
  simp [Result.andThen, sliced, e]
theorem cut_reads {w : World} {A : Option Addr} {xs : List Int} {cap K : Nat} (h : ReadsI w A xs) (hc : xs.length ≤ cap) : ReadsI w (if cap = K then A else A.map (·.add (K * 1))) (xs.drop K) := by
  refine ⟨by rw [List.length_drop]; have := h.1; omega, fun h0 => ?_⟩
  rw [List.length_drop] at h0
  obtain ⟨ad, rfl, hx⟩ := h.2 (by omega)
  rw [if_neg (by omega)]
  refine ⟨_, rfl, fun j hj => ?_⟩
  rw [List.length_drop] at hj
  have := hx (K + j) (by omega)
  have e : (ad.add (K * 1)).add j = ad.add (K + j) := by
    rw [Nat.mul_one]
    unfold Addr.add
    by_cases hK : K = 0
    · subst hK; simp
    · by_cases hj0 : j = 0
      · subst hj0; simp
      · rw [if_neg hj0, if_neg hK, if_neg (by omega)]; simp [Nat.add_assoc]
  show w.cell? ((ad.add (K * 1)).add j) = _
  rw [e, List.getElem_drop]; exact this
/-- A call that takes args off a frame at a place. -/
def CallL (f : Frm) (K : Nat) (n : Int) (base g off : Nat) (v1 v2 : Value) (xb : Nat) (cs : List Value) (w : World) (e : Ending) (w' : World) : Prop :=
  ∃ u va, e = .returned (.tuple #[]) ∧ FAt w' base g off ⟨f.fn, f.pc, f.locals, f.stack.take K⟩ v1 u ∧ Chg (fun b => (b = g ∨ ob v1 = some b ∨ ob v2 = some b) ∨ b = xb) w w' ∧ Blk4 w w' g off ∧ (∀ b, ob u = some b → ob v2 = some b ∨ w.heap.size ≤ b) ∧
    RowAt 158 xb (((cs.set 0 (.int .i64 1)).set 3 (.int .i64 n)).set 4 va) w' ∧ InnAt w' w.heap.size va (innI (f.stack.drop K)) ∧ ∀ b, ob va = some b → ob u ≠ some b
theorem take_put {w w1 : World} {base g off c2 K : Nat} {A2 : Option Addr} {f : Frm} {v1 : Value} (h : FAt w base g off f v1 (.slice A2 f.stack.length c2)) (hK : K ≤ f.stack.length) (hb : Below w.heap.size w w1) :
    FTurn w (w1.setCell ⟨g, off + 3, none⟩ (.slice A2 K c2)) base g off ⟨f.fn, f.pc, f.locals, f.stack.take K⟩ v1 (.slice A2 f.stack.length c2) (.slice A2 K c2) := by
  have h1 := h.below hb
  have hi := take_innI h1.r2 hK
  exact FTurn.before h hb (h1.put_stack (Chg.refl _ _) hi (fun b e => .inl (by
    cases A2 with
    | none => cases c2 <;> cases e
    | some a => cases c2 with
      | zero => cases e
      | succ c => exact e)))
set_option maxRecDepth 100000 in
set_option maxHeartbeats 8000000 in
theorem lcallD_any {w : World} {g off xb : Nat} {cs : List Value} {P : Addr} (fn d : Int) (hx : RowAt 158 xb cs w) (h0 : 0 < cs.length) (hd : 12 ≤ d) :
    Calls Tryd.prog 112 #[.pointer (some P), .pointer (some ⟨g, off, none⟩), .pointer (some ⟨xb, 0, none⟩), .int .i64 fn, .int .i64 d] w fun e w' => e = .returned (.tuple #[]) ∧ w' = w.setCell ⟨xb, 0, none⟩ (.int .i64 4) := by
  obtain ⟨c, c0⟩ : ∃ c, w.cell? ⟨xb, 0, none⟩ = some c := ⟨_, hx.cell (k := 0) h0⟩
  have z0 := hx.free 0
  have d0 : decide (12 ≤ d) = true := by simpa using hd
  clear hx hd h0
  go_enter Tryd.func112, Tryd.ntmps112
  go_wp2_with fail
  (try simp only [Exit.inBlock, Exit.then])
  refine bodyPost_ret (results_none rfl _ _ _) rfl ?_
  exact ⟨rfl, rfl⟩
set_option maxRecDepth 100000 in
set_option maxHeartbeats 8000000 in
theorem lcall_any {w W0 : World} {base g off xb cp : Nat} {P : Addr} {p : List Fn} {Ap : Option Addr} {f : Frm} {v1 v2 : Value} {cs : List Value} (h : FAt w base g off f v1 v2) (hW : Below W0.heap.size W0 w) (hP : W0.cell? P = some (.slice Ap p.length cp)) (hr : ReadsF W0 Ap p)
    (hx : RowAt 158 xb cs w) (hcs : cs.length = 9) (ng : xb ≠ g) (n1 : ob v1 ≠ some xb) (n2 : ob v2 ≠ some xb) {n M : Nat} (hn : n < p.length) (hM : p[n].args = M) (hle : M ≤ f.stack.length) (h8 : f.stack.length ≤ 1000) (d : Int) (hd : d < 12) :
    Calls Tryd.prog 112 #[.pointer (some P), .pointer (some ⟨g, off, none⟩), .pointer (some ⟨xb, 0, none⟩), .int .i64 n, .int .i64 d] w (CallL f (f.stack.length - M) n base g off v1 v2 xb cs w) := by
  obtain ⟨A1, c1, A2, c2, rfl, rfl⟩ := h.shape
  obtain ⟨K, hK⟩ : ∃ K, f.stack.length - M = K := ⟨_, rfl⟩
  have i2 : CRow w base 3 1 (.slice A2 f.stack.length c2) f.stack.length (intsV f.stack) := h.r2
  have hcap := CRow.cap i2
  obtain ⟨ad, rfl, Ac, cc, hF⟩ := fnAt_of hr hW hn
  have k0 := hF.c0
  rw [hM] at k0
  have kP := cell_below hW hP
  obtain ⟨i, hi, hz0, hsz, hbb⟩ := info_parts info_int
  have hcut := fun W => run_cut (P := Tryd.prog) 32 3 Tryd.underlying32 i hi A2 f.stack.length c2 K (by omega) W
  have hini := fun W => run_initA (P := Tryd.prog) 32 3 Tryd.underlying32 i hi A2 f.stack.length c2 K (by omega) W
  rw [hsz] at hcut
  obtain ⟨A3, hA3⟩ : ∃ A3, (if c2 = K then A2 else A2.map (·.add (K * 1))) = A3 := ⟨_, rfl⟩
  rw [hA3] at hcut
  have hrd := cut_reads (K := K) (cap := c2) (CRow.ints i2) hcap
  rw [hA3] at hrd
  have hdl : (f.stack.drop K).length = f.stack.length - K := List.length_drop
  have hcl := fun k => cloneI_any A3 (c2 - K) (f.stack.drop K) (w.drewN k) (hrd.below (below_drew (Below.refl _ _) k)) (by omega)
  rw [hdl] at hcl
  obtain ⟨m0, m1, m2, m3, fz⟩ := h.cells
  have hw1 : IntKind.i64.wrap ((f.stack.length : Int) - (M : Int)) = K := by rw [IntKind.wrap_i64]; omega
  have hw2 : IntKind.i64.wrap ((f.stack.length : Int) + -(M : Int)) = K := by rw [IntKind.wrap_i64]; omega
  have d0 : decide (12 ≤ d) = false := by simpa using hd
  have hnn : (n : Int) < p.length := by omega
  have hpl := hr.1
  have hsl : f.stack.length ≤ 9223372036854775807 := by omega
  have x0 := hx.cell (k := 0) (by omega)
  have x3 := hx.cell (k := 3) (by omega)
  have x4 := hx.cell (k := 4) (by omega)
  have HX := Lib.hid hx
  have HF := Lib.hid h
  have HKL := Lib.hid (show K ≤ f.stack.length by omega)
  have HN := Lib.hid (And.intro ng (And.intro n1 n2))
  have HCS := Lib.hid hcs
  have HCL := Lib.hid hcl
  rw [hK]
  clear h hx hr hP hW hF hM hle h8 hd hK hA3 hrd i2 hi hz0 hsz hbb hcl hdl ng n1 n2 m0 m1 m2 fz
  go_enter Tryd.func112, Tryd.ntmps112
  go_wp2_with fail
  go_quiet (fail)
  go_wp2_with fail
  (with_reducible refine (HCL.out _).mono ?_)
  rintro e w2 ⟨ao, cap, rfl, hcr, hB⟩
  have hB : Below w.heap.size w w2 := below_trans (below_drew (Below.refl _ _) nq) hB
  have hcr : CRow w2 w.heap.size 3 1 (.slice ao (f.stack.length - K) cap) (f.stack.length - K) (intsV (f.stack.drop K)) := hcr
  have hlx := blk_lt HX.out
  have r0 := HX.out.below hB
  have r1 := r0.put 0 (.int .i64 1)
  have r2 := r1.put 3 (.int .i64 n)
  have r3 := r2.put 4 (.slice ao (f.stack.length - K) cap)
  obtain ⟨y0, q0⟩ : ∃ c, w2.cell? ⟨xb, 0, none⟩ = some c := ⟨_, r0.cell (k := 0) (by omega)⟩
  obtain ⟨y3, q3⟩ : ∃ c, (w2.setCell ⟨xb, 0, none⟩ (.int .i64 1)).cell? ⟨xb, 3, none⟩ = some c := ⟨_, r1.cell (k := 3) (by simp; omega)⟩
  obtain ⟨y4, q4⟩ : ∃ c, ((w2.setCell ⟨xb, 0, none⟩ (.int .i64 1)).setCell ⟨xb, 3, none⟩ (.int .i64 n)).cell? ⟨xb, 4, none⟩ = some c := ⟨_, r2.cell (k := 4) (by simp; omega)⟩
  have z0 := r0.free 0
  have z3 := r1.free 3
  have z4 := r2.free 4
  obtain ⟨w3, hw3⟩ : ∃ w3, (((w2.setCell ⟨xb, 0, none⟩ (.int .i64 1)).setCell ⟨xb, 3, none⟩ (.int .i64 n)).setCell ⟨xb, 4, none⟩ (.slice ao (f.stack.length - K) cap)) = w3 := ⟨_, rfl⟩
  have kc : Chg (fun b => b = xb) w2 w3 := hw3 ▸ (((Chg.refl (fun b => b = xb) w2).put (a := ⟨xb, 0, none⟩) rfl _).put (a := ⟨xb, 3, none⟩) rfl _).put (a := ⟨xb, 4, none⟩) rfl _
  rw [hw3] at r3
  have hF3 := (HF.out.below hB).chg kc (fun e => HN.out.1 e.symm) (fun b e e2 => HN.out.2.1 (e2 ▸ e)) (fun b e e2 => HN.out.2.2 (e2 ▸ e))
  obtain ⟨_, _, _, m3', fz'⟩ := hF3.cells
  have zg := fz' (off + 3)
  have hT := take_put hF3 HKL.out (Below.refl _ _)
  have hr4 := hT.row r3 HN.out.1 HN.out.2.1 HN.out.2.2
  have hc3 := hcr.chg kc (fun b e e2 => by have := (hcr.in_ b e).1; omega)
  have old : ∀ b, (b = g ∨ ob (.slice A1 f.locals.length c1) = some b ∨ ob (.slice A2 f.stack.length c2) = some b) → b < w.heap.size := fun b hb => by
    rcases hb with e | e | e
    · exact e ▸ HF.out.lt
    · exact (HF.out.lo1 b e).2
    · exact (HF.out.lo2 b e).2
  have hc4 := hc3.chg hT.chg (fun b e e2 => by have := (hcr.in_ b e).1; have := old b e2; omega)
  have hs3 : w.heap.size ≤ w3.heap.size := Nat.le_trans hB.size kc.size
  have hnew : ∀ b, ob (.slice A2 K c2) = some b → ob (.slice A2 f.stack.length c2) = some b := fun b e => by
    cases A2 with
    | none => cases c2 <;> cases e
    | some a => cases c2 with
      | zero => cases e
      | succ c => exact e
  have HR := Lib.hid (show CallL f K n base g off (.slice A1 f.locals.length c1) (.slice A2 f.stack.length c2) xb cs w (.returned (.tuple #[])) (w3.setCell ⟨g, off + 3, none⟩ (.slice A2 K c2)) from
    ⟨_, _, rfl, hT.at_, ((Chg.of_below hB).trans kc (fun _ _ h => .inr h)).trans hT.chg (fun _ _ h => .inl h), (Blk4.of_chg (S := fun _ => False) (Chg.of_below hB) (fun h => h)).trans ((Blk4.of_chg kc (fun e => HN.out.1 e.symm)).trans hT.blk), (fun b e => .inl (hnew b e)), hr4,
      (by show CRow _ w.heap.size 3 1 _ (f.stack.drop K).length _; rw [List.length_drop]; exact hc4), fun b e e2 => by have := (hcr.in_ b e).1; have := old b (.inr (.inr (hnew b e2))); omega⟩)
  clear hcr hB hlx r0 r1 r2 r3 kc hF3 fz' hT hr4 hc3 old hc4 hs3 hnew x0 x3 x4
  go_wp2_with fail
  go_end0
  exact HR.out
end Go.Proofs.YtpfgklkdldkajaaDoor

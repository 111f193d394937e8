/- 'frame.Begin': a function's frame at its start. Conditions: the program lies in memory; the args are no more than its locals. -/
import Derived.Test.YtpfgklkdldkajaaDoorState
import Derived.Test.YtpfgklkdldkajaaDoorOwnG
import Derived.Test.YtpfgklkdldkajaaDoorRepeat
namespace Go.Proofs.YtpfgklkdldkajaaDoor
open Go.RowKit

/-- A frame's cells; its rows. -/
def KFr : Kind Frm where
  t := 149
  sz := 4
  m := 2
  cells := fun f vs => [.int .i64 f.fn, .int .i64 f.pc, vs.getD 0 undef, vs.getD 1 undef]
  rows := fun f => [innI f.locals, innI f.stack]
  len := fun _ _ => rfl
def OwnFr (w : World) (base : Nat) (v : Value) (fs : List Frm) (vss : List (List Value)) : Prop := OwnG KFr w base v fs vss
theorem two_of {l : List Value} (h : l.length = 2) : ∃ a b, l = [a, b] := by match l, h with | [a, b], _ => exact ⟨a, b, rfl⟩
/-- A frame's fields, out of its row. -/
theorem OwnFr.at_ {w : World} {base n cap : Nat} {ao : Option Addr} {fs : List Frm} {vss : List (List Value)} (h : OwnFr w base (.slice ao n cap) fs vss) {k : Nat} (hk : k < fs.length) :
    ∃ g off, ao = some ⟨g, off, none⟩ ∧ base ≤ g ∧ g < w.heap.size ∧ ob (.slice ao n cap) = some g ∧ ∃ hk' : k < vss.length, ∃ A1 c1 A2 c2, vss[k] = [.slice A1 fs[k].locals.length c1, .slice A2 fs[k].stack.length c2] ∧
      InnAt w base (.slice A1 fs[k].locals.length c1) (innI fs[k].locals) ∧ InnAt w base (.slice A2 fs[k].stack.length c2) (innI fs[k].stack) ∧
      w.cell? ⟨g, off + k * 4, none⟩ = some (.int .i64 fs[k].fn) ∧ w.cell? ⟨g, off + k * 4 + 1, none⟩ = some (.int .i64 fs[k].pc) ∧ w.cell? ⟨g, off + k * 4 + 2, none⟩ = some (.slice A1 fs[k].locals.length c1) ∧ w.cell? ⟨g, off + k * 4 + 3, none⟩ = some (.slice A2 fs[k].stack.length c2) ∧
      ∀ j, j < 4 → w.frozen? ⟨g, off + k * 4 + j, none⟩ = false := by
  have hl := h.len
  have hk' : k < vss.length := by omega
  obtain ⟨g, off, rfl, h1, h2, h3, hc⟩ := OwnG.cell h (by decide) hk
  obtain ⟨e, hi⟩ := h.inn k hk hk'
  obtain ⟨a, b, eab⟩ := two_of (show vss[k].length = 2 from e)
  have i0 := hi 0 (by rw [eab]; simp) (by simp [KFr])
  have i1 := hi 1 (by rw [eab]; simp) (by simp [KFr])
  have e0 : vss[k][0]'(by rw [eab]; simp) = a := by simp [eab]
  have e1 : vss[k][1]'(by rw [eab]; simp) = b := by simp [eab]
  rw [e0] at i0
  rw [e1] at i1
  have i0' : InnAt w base a (innI fs[k].locals) := i0
  have i1' : InnAt w base b (innI fs[k].stack) := i1
  obtain ⟨A1, c1, ea, _, _⟩ := CRow.shape i0'
  obtain ⟨A2, c2, eb, _, _⟩ := CRow.shape i1'
  subst ea eb
  have cc := fun j (hj : j < 4) => hc k hk hk' j hj
  have c0 := (cc 0 (by decide)).1
  have c1' := (cc 1 (by decide)).1
  have c2' := (cc 2 (by decide)).1
  have c3' := (cc 3 (by decide)).1
  simp only [KFr, eab, List.getElem_cons_zero, List.getElem_cons_succ, List.getD_cons_zero, List.getD_cons_succ, Nat.add_zero] at c0 c1' c2' c3'
  exact ⟨g, off, rfl, h1, h2, h3, hk', A1, c1, A2, c2, eab, i0', i1', c0, c1', c2', c3', fun j hj => (cc j hj).2⟩
theorem OwnFr.reads {w : World} {base n cap : Nat} {ao : Option Addr} {fs : List Frm} {vss : List (List Value)} (h : OwnFr w base (.slice ao n cap) fs vss) : n = fs.length ∧ ReadsFr w ao fs := by
  obtain ⟨_, _, e, hm1, hm2⟩ := h.row.shape
  injection e with e1 e2 e3
  refine ⟨e2, by unfold maxLen at hm2; omega, fun h0 => ?_⟩
  obtain ⟨g, off, rfl, _⟩ := h.at_ (k := 0) h0
  refine ⟨_, rfl, fun k hk => ?_⟩
  obtain ⟨g', off', e, _, _, _, _, A1, c1, A2, c2, _, i0, i1, c0, c1', c2', c3', _⟩ := h.at_ hk
  cases e
  rw [Addr.add_lit]
  exact ⟨c0, c1', ⟨A1, c1, c2', CRow.ints i0⟩, A2, c2, c3', CRow.ints i1⟩
/-- An own state. -/
structure OwnS (w : World) (base : Nat) (s : Stt) (fv ov : Value) (vss : List (List Value)) : Prop where
  fr : OwnFr w base fv s.frames vss
  out : CRow w base 3 1 ov s.out.length (intsV s.out)
  sep : ∀ u ∈ fv :: vss.flatten, ∀ b, ob u = some b → ob ov ≠ some b
theorem OwnS.below {w w1 : World} {base : Nat} {s : Stt} {fv ov : Value} {vss : List (List Value)} (h : OwnS w base s fv ov vss) (hb : Below w.heap.size w w1) : OwnS w1 base s fv ov vss := ⟨OwnG.below h.fr hb, h.out.below hb, h.sep⟩
theorem OwnS.mono {w : World} {base base' : Nat} {s : Stt} {fv ov : Value} {vss : List (List Value)} (h : OwnS w base s fv ov vss) (hb : base' ≤ base) : OwnS w base' s fv ov vss := ⟨OwnG.mono h.fr hb, h.out.mono hb, h.sep⟩

def beginL (args : List Int) (L : Nat) : List Int := args ++ List.replicate (L - args.length) 0
theorem beginL_len {args : List Int} {L : Nat} (h : args.length ≤ L) : (beginL args L).length = L := by simp [beginL]; omega
theorem copy_begin {w : World} {g L c : Nat} {A : Option Addr} {args : List Int} (h : RowAt 3 g (intsV (List.replicate L 0)) w) (hr : ReadsI w A args) (hle : args.length ≤ L) :
    ∃ w', (Builtin.copy_ #[32, 32] 3 #[.slice (some ⟨g, 0, none⟩) L L, .slice A args.length c]).run Tryd.prog w = .ok (.int .i64 args.length) w' ∧ RowAt 3 g (intsV (beginL args L)) w' ∧ (∀ w0, Below w0.heap.size w0 w → w0.heap.size ≤ g → Below w0.heap.size w0 w') := by
  by_cases h0 : args.length = 0
  · obtain rfl : args = [] := List.eq_nil_of_length_eq_zero h0
    refine ⟨w, run_copy_none w 32 32 3 3 _ _ _ _ _ _ Tryd.underlying32 size_int (by simp), by simpa [beginL] using h, fun w0 hb _ => hb⟩
  · obtain ⟨ad, rfl, hc⟩ := hr.2 (by omega)
    have hrun := run_copy_row (P := Tryd.prog) w 32 32 3 3 g 0 L L ad args.length c _ 3 (intsV args) Tryd.underlying32 size_int h (by rw [intsV_len]; exact (Nat.min_eq_left hle).symm) (fun j v hj => by
      obtain ⟨hj', rfl⟩ := List.getElem?_eq_some_iff.1 hj
      have hj2 : j < args.length := by simpa [intsV] using hj'
      rw [hc j hj2]; simp [intsV]) (by simp [intsV]; omega) (by intro v hv; simp [intsV] at hv; obtain ⟨_, _, rfl⟩ := hv; rfl)
    rw [show goInt (intsV args).length = .int .i64 args.length by rw [intsV_len]; rfl] at hrun
    refine ⟨_, hrun, ?_, fun w0 hb hg => below_setRow hb hg _⟩
    have e := setRow_heap w g (intsV (List.replicate L 0)).toArray (intsV (beginL args L)).toArray 3 (0, 0) h
    unfold RowAt
    rw [← e]
    have e2 : (List.take 0 (intsV (List.replicate L 0)).toArray.toList ++ intsV args ++ List.drop (0 + (intsV args).length) (intsV (List.replicate L 0)).toArray.toList) = intsV (beginL args L) := by
      unfold beginL intsV
      rw [List.map_append]
      simp only [List.take_zero, List.nil_append, Nat.zero_add, List.length_map, List.map_replicate, List.drop_replicate]
    rw [e2]
/-- What 'Begin' answers. -/
def BeginE (fn : Int) (args : List Int) (L : Nat) (w : World) (e : Ending) (w' : World) : Prop :=
  ∃ g, e = .returned (.agg #[.int .i64 fn, .int .i64 0, .slice (some ⟨g, 0, none⟩) L L, .slice none 0 0]) ∧ RowAt 3 g (intsV (beginL args L)) w' ∧ w.heap.size ≤ g ∧ Below w.heap.size w w'
set_option maxRecDepth 100000 in
set_option maxHeartbeats 1000000 in
theorem begin_any (P : Addr) (p : List Fn) (Ap A : Option Addr) (cp c n L : Nat) (args : List Int) (w : World) (hP : w.cell? P = some (.slice Ap p.length cp)) (hr : ReadsF w Ap p) (hn : n < p.length) (hL : p[n].locals = L) (h8 : L ≤ 100) (ha : ReadsI w A args) (hle : args.length ≤ L) :
    Calls Tryd.prog 84 #[.pointer (some P), .int .i64 n, .slice A args.length c] w (BeginE n args L w) := by
  obtain ⟨w1, hw1⟩ : ∃ w1, w.alloc (.cells #[.int .i64 0, .int .i64 0, .slice none 0 0, .slice none 0 0] 149) = w1 := ⟨_, rfl⟩
  have b1 : Below w.heap.size w w1 := hw1 ▸ below_alloc (Below.refl _ _) _
  have z1 : w1.heap.size = w.heap.size + 1 := by rw [← hw1]; simp
  have r1 : RowAt 149 w.heap.size [.int .i64 0, .int .i64 0, .slice none 0 0, .slice none 0 0] w1 := hw1 ▸ RowAt.new _ _ w
  have p1 := cell_below b1 hP
  obtain ⟨ad, rfl, Ac, cc, hF⟩ := fnAt_of hr b1 hn
  have k1 := hF.c1
  rw [hL] at k1
  have hmk := make_ints L h8 w1
  obtain ⟨w2, hw2⟩ : ∃ w2, w1.alloc (.cells (intsV (List.replicate L 0)).toArray 3) = w2 := ⟨_, rfl⟩
  have b2 : Below w1.heap.size w1 w2 := hw2 ▸ below_alloc (Below.refl _ _) _
  have r2 : RowAt 3 w1.heap.size (intsV (List.replicate L 0)) w2 := hw2 ▸ RowAt.new _ _ w1
  obtain ⟨w3, hrun, hr3, hb3⟩ := copy_begin (c := c) r2 ((ha.below b1).below b2) hle
  have b3 := hb3 w (below_trans b1 b2) (by omega)
  have b13 := hb3 w1 b2 (Nat.le_refl _)
  have q1 := r1.below b13
  have f0 := q1.free 0
  have f1 := q1.free 1
  have f2 := q1.free 2
  have f3 := q1.free 3
  have g0 := q1.cell (k := 0) (by simp)
  have g1 := q1.cell (k := 1) (by simp)
  have g2 := q1.cell (k := 2) (by simp)
  have g3 := q1.cell (k := 3) (by simp)
  simp only [List.getElem_cons_succ, List.getElem_cons_zero] at g0 g1 g2 g3
  have s1 := q1.put 0 (.int .i64 n)
  have s2 := s1.put 1 (.int .i64 0)
  have s3 := s2.put 2 (.slice (some ⟨w1.heap.size, 0, none⟩) L L)
  have s4 := s3.put 3 (.slice none 0 0)
  have e0 := s1.cell (k := 0) (by simp)
  have e1 := s2.cell (k := 1) (by simp)
  have e2 := s3.cell (k := 2) (by simp)
  have e3 := s4.cell (k := 3) (by simp)
  simp only [List.set_cons_zero, List.set_cons_succ, List.getElem_cons_succ, List.getElem_cons_zero] at e0 e1 e2 e3
  have kb : ∀ (W : World) (k : Nat) (u : Value), Below w.heap.size w W → Below w.heap.size w (W.setCell ⟨w.heap.size, k, none⟩ u) := fun W k u hb => hb.setCell (p := ⟨w.heap.size, k, none⟩) (Nat.le_refl _) u
  have b4 := kb _ 3 (.slice none 0 0) (kb _ 2 (.slice (some ⟨w1.heap.size, 0, none⟩) L L) (kb _ 1 (.int .i64 0) (kb _ 0 (.int .i64 n) b3)))
  have kr : ∀ (W : World) (k : Nat) (u : Value), RowAt 3 w1.heap.size (intsV (beginL args L)) W → RowAt 3 w1.heap.size (intsV (beginL args L)) (W.setCell ⟨w.heap.size, k, none⟩ u) := fun W k u h => h.keeps (g := w.heap.size) (Keeps.put (Keeps.refl _ _) k u) (by omega)
  have r4 := kr _ 3 (.slice none 0 0) (kr _ 2 (.slice (some ⟨w1.heap.size, 0, none⟩) L L) (kr _ 1 (.int .i64 0) (kr _ 0 (.int .i64 n) hr3)))
  have B4 := Lib.hid b4
  have R4 := Lib.hid r4
  have E0 := Lib.hid e0
  have E1 := Lib.hid e1
  have E2 := Lib.hid e2
  have E3 := Lib.hid e3
  clear s1 s2 s3 s4 e0 e1 e2 e3 kb b4 kr r4
  rw [hw2] at hmk
  have B3 := Lib.hid b3
  have R3 := Lib.hid hr3
  have Z1 := Lib.hid z1
  have hpn := hr.1
  clear b1 b2 r1 r2 hr3 hb3 b3 b13 q1 hw2 hP hr hF ha z1
  go_enter Tryd.func84, Tryd.ntmps84
  go_wp2_with fail
  exact bodyPost_ret (v := .agg #[.int .i64 n, .int .i64 0, .slice (some ⟨w1.heap.size, 0, none⟩) L L, .slice none 0 0]) (by simp [results, Tryd.results84, go_sem, E0.out, E1.out, E2.out, E3.out]) rfl ⟨w1.heap.size, rfl, R4.out, by have := Z1.out; omega, B4.out⟩
end Go.Proofs.YtpfgklkdldkajaaDoor

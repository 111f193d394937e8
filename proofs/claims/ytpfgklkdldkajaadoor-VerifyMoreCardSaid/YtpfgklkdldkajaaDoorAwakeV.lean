/- 'awake' of the statements on verify: what every program answers that is one. Condition: errors.errorType is laid. -/
import Derived.Test.YtpfgklkdldkajaaDoorCopy
namespace Go.Proofs.YtpfgklkdldkajaaDoor
open Go.RowKit

def ins (k a : Int) : Ins := ⟨k, a⟩
def aw1 : List Ins := [ins 0 1, ins 13 3, ins 12 0, ins 0 1, ins 16 0, ins 11 0]
def aw2 : List Ins := [ins 0 1, ins 2 1, ins 16 0]
def aw3 : List Ins := [ins 0 1, ins 11 0, ins 16 0]
def aw4 : List Ins := [ins 0 1]
def one1 (code : List Ins) : List Fn := [⟨0, 1, code⟩]
theorem awh1 : heightsOf (one1 aw1) 0 = ([0, 1, 0, 0, 1, -1], 0, 0) := by kernel_rfl
theorem awh2 : heightsOf (one1 aw2) 0 = ([], 1, 501) := by kernel_rfl
theorem awh3 : heightsOf (one1 aw3) 0 = ([], 2, 502) := by kernel_rfl
theorem awh4 : heightsOf (one1 aw4) 0 = ([], 0, 503) := by kernel_rfl
theorem awh5 : heightsOf (one1 aw1) 1 = ([], 0, 500) := by kernel_rfl
theorem awv : verifyOf (one1 aw1) = 0 := by kernel_rfl
theorem num_any (n : Int) (w : World) : Calls Tryd.prog 15 #[.int .i64 n] w fun e w' => e = .returned (.int .i64 n) ∧ w' = w := by
  go_enter Tryd.func15, Tryd.ntmps15
  go_wp2
  go_ret
  exact ⟨rfl, rfl⟩
/-- Code that the call itself has laid. -/
theorem code_new (xs : List Ins) (w : World) (h : xs.length ≤ 1000) : ReadsC (w.alloc (.cells (insV xs).toArray 28)) (some ⟨w.heap.size, 0, none⟩) xs :=
  (ORow.code (base := w.heap.size) (ORow.of_row (RowAt.new 28 (insV xs) w) (Nat.le_refl _) (insV_len xs) (by unfold maxLen; omega))).2
/-- A call that answers a program of one function. -/
def OneE (p : List Fn) (w : World) (e : Ending) (w' : World) : Prop := ∃ g, e = .returned (.agg #[.slice (some ⟨g, 0, none⟩) 1 1]) ∧ ReadsF w' (some ⟨g, 0, none⟩) p ∧ Below w.heap.size w w'
theorem one_reads {w : World} {g : Nat} {f : Fn} {A : Option Addr} {c : Nat} (h : RowAt 31 g [.int .i64 f.args, .int .i64 f.locals, .slice A f.code.length c] w) (hr : ReadsC w A f.code) : ReadsF w (some ⟨g, 0, none⟩) [f] :=
  ⟨by simp, fun _ => ⟨_, rfl, fun k hk => by
    obtain rfl : k = 0 := by simpa using hk
    have e0 := h.cell (k := 0) (by simp)
    have e1 := h.cell (k := 1) (by simp)
    have e2 := h.cell (k := 2) (by simp)
    simp only [List.getElem_cons_succ, List.getElem_cons_zero] at e0 e1 e2
    simp only [Nat.zero_mul, add_nil, List.getElem_cons_zero]
    exact ⟨e0, by simpa using e1, A, c, by simpa using e2, hr⟩⟩⟩
theorem smallV_any (a l : Int) (A : Option Addr) (c : Nat) (code : List Ins) (w : World) (hr : ReadsC w A code) :
    Calls Tryd.prog 34 #[.int .i64 a, .int .i64 l, .slice A code.length c] w (OneE [⟨a, l, code⟩] w) := by
  have b1 := below_alloc (Below.refl w.heap.size w) (.cells #[.slice (some ⟨w.heap.size + 1, 0, none⟩) 1 1] 24)
  have b2 := below_alloc b1 (.cells #[.int .i64 a, .int .i64 l, .slice A code.length c] 31)
  have r2 := RowAt.new 31 [.int .i64 a, .int .i64 l, .slice A code.length c] (w.alloc (.cells #[.slice (some ⟨w.heap.size + 1, 0, none⟩) 1 1] 24))
  rw [show (w.alloc (.cells #[.slice (some ⟨w.heap.size + 1, 0, none⟩) 1 1] 24)).heap.size = w.heap.size + 1 by simp] at r2
  have HF := Lib.hid (one_reads (f := ⟨a, l, code⟩) r2 (hr.below b2))
  have HB := Lib.hid b2
  clear r2 b1 b2 hr
  go_enter Tryd.func34, Tryd.ntmps34
  go_wp2_with fail
  exact bodyPost_ret (v := .agg #[.slice (some ⟨w.heap.size + 1, 0, none⟩) 1 1]) (by simp [results, Tryd.results34, go_sem]) rfl ⟨_, rfl, HF.out, HB.out⟩
set_option maxRecDepth 100000 in
set_option maxHeartbeats 4000000 in
theorem awakeV_any (w : World) (hl : Laid w) : Calls Tryd.prog 12 #[] w (Ret (.bool true) w) := by
  have HL := Lib.hid hl
  have B0 := Lib.hid (Below.refl w.heap.size w)
  have HS := Lib.hid (smallV_any 0 1 _ 6 aw1 _ (code_new aw1 w (by decide)))
  have BC := Lib.hid (below_alloc (Below.refl w.heap.size w) (.cells (insV aw1).toArray 28))
  clear hl
  go_enter Tryd.func12, Tryd.ntmps12
  go_wp2_with fail
  refine HS.out.mono ?_
  rintro e w1 ⟨g1, rfl, hr, hB⟩
  have B1 := Lib.hid (below_trans BC.out hB)
  have bp := below_alloc (Below.refl w1.heap.size w1) (.cells #[.slice (some ⟨g1, 0, none⟩) 1 1] 24)
  have HR1 := Lib.hid (hr.below bp)
  have B2 := Lib.hid (below_trans B1.out bp)
  have hP : (w1.alloc (.cells #[.slice (some ⟨g1, 0, none⟩) 1 1] 24)).cell? ⟨w1.heap.size, 0, none⟩ = some (.slice (some ⟨g1, 0, none⟩) 1 1) := (blk_cell (blk_new w1 _) 0).trans rfl
  have HP := Lib.hid hP
  have HV := Lib.hid (heightsV_any (one1 aw1) (some ⟨g1, 0, none⟩) 1 0 _ (HL.out.below B2.out) HR1.out)
  rw [awh1] at HV
  obtain ⟨w2, hw2⟩ : ∃ w2, w1.alloc (.cells #[.slice (some ⟨g1, 0, none⟩) 1 1] 24) = w2 := ⟨_, rfl⟩
  rw [hw2] at HR1 B2 HP HV
  clear hB hr bp hP HS BC
  have pp := HP.out
  go_wp2_with fail
  refine HV.out.mono ?_
  rintro e w3 ⟨v, rfl, hrow, hB⟩
  obtain ⟨ao, cap, rfl, _, _⟩ := hrow.shape
  have B3 := Lib.hid (below_trans B2.out hB)
  have HR3 := Lib.hid (HR1.out.below hB)
  have HP3 := Lib.hid ((hB.cell (World.block_lt_of_cell? _ _ HP.out)).trans HP.out)
  have HROW := Lib.hid hrow
  clear hB hrow hw2 HV pp
  have HS := Lib.hid (smallV_any 0 1 _ 3 aw2 _ (code_new aw2 w3 (by decide)))
  have BC := Lib.hid (below_alloc (Below.refl w3.heap.size w3) (.cells (insV aw2).toArray 28))
  go_wp2_with fail
  refine HS.out.mono ?_
  rintro e w3a ⟨gaw2, rfl, hr, hB⟩
  have hbb := below_trans BC.out hB
  have HV := Lib.hid (heightsV_any (one1 aw2) (some ⟨gaw2, 0, none⟩) 1 0 w3a (HL.out.below (below_trans B3.out hbb)) hr)
  rw [awh2] at HV
  have HBB := Lib.hid hbb
  clear hB hr hbb HS BC
  go_wp2_with fail
  refine HV.out.mono ?_
  rintro e w3b ⟨vaw2, rfl, hrw, hB⟩
  have hbb := below_trans HBB.out hB
  have B3aw2 := Lib.hid (below_trans B3.out hbb)
  have HR3aw2 := Lib.hid (HR3.out.below hbb)
  have HP3aw2 := Lib.hid ((hbb.cell (World.block_lt_of_cell? _ _ HP3.out)).trans HP3.out)
  have HROWaw2 := Lib.hid (HROW.out.below hbb)
  clear hB hrw hbb HV HBB
  have HS := Lib.hid (smallV_any 0 1 _ 3 aw3 _ (code_new aw3 w3b (by decide)))
  have BC := Lib.hid (below_alloc (Below.refl w3b.heap.size w3b) (.cells (insV aw3).toArray 28))
  go_wp2_with fail
  refine HS.out.mono ?_
  rintro e w4a ⟨gaw3, rfl, hr, hB⟩
  have hbb := below_trans BC.out hB
  have HV := Lib.hid (heightsV_any (one1 aw3) (some ⟨gaw3, 0, none⟩) 1 0 w4a (HL.out.below (below_trans B3aw2.out hbb)) hr)
  rw [awh3] at HV
  have HBB := Lib.hid hbb
  clear hB hr hbb HS BC
  go_wp2_with fail
  refine HV.out.mono ?_
  rintro e w4b ⟨vaw3, rfl, hrw, hB⟩
  have hbb := below_trans HBB.out hB
  have B3aw2aw3 := Lib.hid (below_trans B3aw2.out hbb)
  have HR3aw2aw3 := Lib.hid (HR3aw2.out.below hbb)
  have HP3aw2aw3 := Lib.hid ((hbb.cell (World.block_lt_of_cell? _ _ HP3aw2.out)).trans HP3aw2.out)
  have HROWaw2aw3 := Lib.hid (HROWaw2.out.below hbb)
  clear hB hrw hbb HV HBB
  have HS := Lib.hid (smallV_any 0 1 _ 1 aw4 _ (code_new aw4 w4b (by decide)))
  have BC := Lib.hid (below_alloc (Below.refl w4b.heap.size w4b) (.cells (insV aw4).toArray 28))
  go_wp2_with fail
  refine HS.out.mono ?_
  rintro e w5a ⟨gaw4, rfl, hr, hB⟩
  have hbb := below_trans BC.out hB
  have HV := Lib.hid (heightsV_any (one1 aw4) (some ⟨gaw4, 0, none⟩) 1 0 w5a (HL.out.below (below_trans B3aw2aw3.out hbb)) hr)
  rw [awh4] at HV
  have HBB := Lib.hid hbb
  clear hB hr hbb HS BC
  go_wp2_with fail
  refine HV.out.mono ?_
  rintro e w5b ⟨vaw4, rfl, hrw, hB⟩
  have hbb := below_trans HBB.out hB
  have B3aw2aw3aw4 := Lib.hid (below_trans B3aw2aw3.out hbb)
  have HR3aw2aw3aw4 := Lib.hid (HR3aw2aw3.out.below hbb)
  have HP3aw2aw3aw4 := Lib.hid ((hbb.cell (World.block_lt_of_cell? _ _ HP3aw2aw3.out)).trans HP3aw2aw3.out)
  have HROWaw2aw3aw4 := Lib.hid (HROWaw2aw3.out.below hbb)
  clear hB hrw hbb HV HBB
  have pc := HP3aw2aw3aw4.out
  have HV := Lib.hid (heightsV_any (one1 aw1) (some ⟨g1, 0, none⟩) 1 1 w5b (HL.out.below B3aw2aw3aw4.out) HR3aw2aw3aw4.out)
  rw [awh5] at HV
  go_wp2_with fail
  refine HV.out.mono ?_
  rintro e w9 ⟨v9, rfl, hrw, hB⟩
  have B9 := Lib.hid (below_trans B3aw2aw3aw4.out hB)
  have HR9 := Lib.hid (HR3aw2aw3aw4.out.below hB)
  have HP9 := Lib.hid ((hB.cell (World.block_lt_of_cell? _ _ HP3aw2aw3aw4.out)).trans HP3aw2aw3aw4.out)
  have hro := (HROWaw2aw3aw4.out.below hB)
  have b10 := below_alloc (Below.refl w9.heap.size w9) (.cells #[.int .i64 0, .int .i64 1, .int .i64 0, .int .i64 0, .int .i64 1, .int .i64 (-1)] 3)
  have hl10 : ReadsI (w9.alloc (.cells #[.int .i64 0, .int .i64 1, .int .i64 0, .int .i64 0, .int .i64 1, .int .i64 (-1)] 3)) (some ⟨w9.heap.size, 0, none⟩) [0, 1, 0, 0, 1, -1] :=
    ints_reads (vs := []) (RowAt.new 3 (intsV [0, 1, 0, 0, 1, -1]) w9) (by simp)
  have HSI := Lib.hid (sameInts_any ao _ cap 6 [0, 1, 0, 0, 1, -1] [0, 1, 0, 0, 1, -1] _ (hro.below b10).ints.2 hl10)
  rw [decide_eq_true rfl] at HSI
  have B10 := Lib.hid b10
  clear hB hrw hro b10 hl10 HV pc
  go_wp2_with fail
  refine HSI.out.mono ?_
  rintro e w11 ⟨rfl, n, rfl⟩
  have bb := below_drew B10.out n
  have HP11 := Lib.hid ((bb.cell (World.block_lt_of_cell? _ _ HP9.out)).trans HP9.out)
  have HPR := Lib.hid (program_any (one1 aw1) (some ⟨g1, 0, none⟩) 1 _ (HL.out.below (below_trans B9.out bb)) (HR9.out.below bb))
  rw [awv] at HPR
  have p11 := HP11.out
  have B11 := Lib.hid (below_trans B9.out bb)
  clear bb HSI B10
  go_wp2_with (first | (go_at_call 15; refine (num_any _ _).mono ?_; rintro e w' ⟨rfl, rfl⟩) | (go_at_call 35; refine HPR.out.mono ?_; rintro e w12 ⟨rfl, hB12⟩))
  go_ret
  exact ⟨rfl, below_trans B11.out hB12⟩
end Go.Proofs.YtpfgklkdldkajaaDoor

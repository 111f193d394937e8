/- What the statements need of lists: are two the same, a copy, written over. Conditions: the lists lie in memory as they are said. -/
import Derived.Test.YtdjlaglilokjeaaGreatDoorGen
import Derived.Test.YtdjlaglilokjeaaGreatDoorRefCode
namespace Go.Proofs.YtdjlaglilokjeaaGreatDoor
open Go.RowKit

instance : DecidableEq Ins := fun x y => if h : x.kind = y.kind ∧ x.a = y.a then isTrue (by cases x; cases y; obtain ⟨h1, h2⟩ := h; simp only at h1 h2; rw [h1, h2]) else isFalse (fun e => h (by rw [e]; exact ⟨rfl, rfl⟩))
instance : DecidableEq Fn := fun x y => if h : x.args = y.args ∧ x.locals = y.locals ∧ x.code = y.code then isTrue (by cases x; cases y; obtain ⟨h1, h2, h3⟩ := h; simp only at h1 h2 h3; rw [h1, h2, h3]) else isFalse (fun e => h (by rw [e]; exact ⟨rfl, rfl, rfl⟩))
/-- A call that only reads: its answer; the draws alone have moved on. -/
def RetD (v : Value) (w : World) (e : Ending) (w' : World) : Prop := e = .returned v ∧ ∃ n, w' = w.drewN n
theorem RetD.ret {v : Value} {w w' : World} {e : Ending} (h : RetD v w e w') : Ret v w e w' := by
  obtain ⟨rfl, n, rfl⟩ := h
  exact ⟨rfl, below_drew (Below.refl _ _) _⟩
theorem ne_len {α : Type} [DecidableEq α] {xs ys : List α} (h : xs.length ≠ ys.length) : decide (xs = ys) = false := decide_eq_false (fun e => h (by rw [e]))
theorem ne_at {α : Type} [DecidableEq α] {xs ys : List α} {k : Nat} (hx : k < xs.length) (hy : k < ys.length) (h : xs[k] ≠ ys[k]) : decide (xs = ys) = false := decide_eq_false (fun e => h (by subst e; rfl))
theorem eq_all {α : Type} [DecidableEq α] {xs ys : List α} (hl : xs.length = ys.length) (h : ∀ j (hx : j < xs.length) (hy : j < ys.length), xs[j] = ys[j]) : decide (xs = ys) = true := decide_eq_true (List.ext_getElem hl h)
set_option maxHeartbeats 1000000 in
theorem sameInts_any (A B : Option Addr) (ca cb : Nat) (xs ys : List Int) (w : World) (hx : ReadsI w A xs) (hy : ReadsI w B ys) :
    Calls Tryz.prog 27 #[.slice A xs.length ca, .slice B ys.length cb] w (RetD (.bool (decide (xs = ys))) w) := by
  have HX := Lib.hid hx
  have HY := Lib.hid hy
  have n1 : xs.length ≤ 9223372036854775807 := hx.1
  have n2 : ys.length ≤ 9223372036854775807 := hy.1
  clear hx hy
  by_cases hl : xs.length = ys.length
  · have dl : (xs.length != ys.length) = false := by simpa using hl
    have dm : ((xs.length : Int) != ys.length) = false := by simp; omega
    have HL := Lib.hid hl
    clear hl
    go_enter Tryz.func27, Tryz.ntmps27
    go_wp2_with fail
    go_loopw [5] (fun i wr => ∃ k : Nat, k ≤ xs.length ∧ i = .int .i64 k ∧ (∀ j (hx : j < xs.length) (hy : j < ys.length), j < k → xs[j] = ys[j]) ∧ ∃ n, wr = w.drewN n) (fun i _ => xs.length - (intOf i).toNat)
    case atStart => exact ⟨0, Nat.zero_le _, rfl, fun _ _ _ h => absurd h (Nat.not_lt_zero _), 0, rfl⟩
    case round =>
      obtain ⟨k, hk, rfl, hv, n, rfl⟩ := hrel
      have HV := Lib.hid hv
      clear hv
      by_cases hlt : k < xs.length
      · have hly : k < ys.length := by have := HL.out; omega
        obtain ⟨a1, e1, c1⟩ := HX.out.at_ hlt
        obtain ⟨a2, e2, c2⟩ := HY.out.at_ hly
        subst e1 e2
        go_upto_region 6 with fail
        by_cases he : xs[k] = ys[k]
        · have de : (xs[k] != ys[k]) = false := by simpa using he
          have HE := Lib.hid he
          clear he
          go_quiet (fail)
          go_wp2_with fail
          go_roundw
          case rel => exact ⟨k + 1, by omega, by go_num, fun j hx hy h => by
            rcases Nat.lt_or_ge j k with h2 | h2
            · exact HV.out j hx hy h2
            · obtain rfl : j = k := by omega
              exact HE.out, by first | exact ⟨_, rfl⟩ | exact ⟨_, drewN_two _ _ _⟩⟩
          case measure => simp only [intOf]; omega
        · have de : (xs[k] != ys[k]) = true := by simpa using he
          have HE := Lib.hid he
          clear he
          go_quiet (fail)
          go_wp2_with fail
          go_ret
          exact ⟨ret_bool (ne_at hlt hly HE.out).symm, by first | exact ⟨_, rfl⟩ | exact ⟨_, drewN_two _ _ _⟩⟩
      · go_wp2_with fail
        go_ret
        exact ⟨ret_bool (eq_all HL.out fun j hx hy => HV.out j hx hy (by omega)).symm, _, rfl⟩
  · have dl : (xs.length != ys.length) = true := by simpa using hl
    have dm : ((xs.length : Int) != ys.length) = true := by simp; omega
    have HL := Lib.hid hl
    clear hl
    go_enter Tryz.func27, Tryz.ntmps27
    go_wp2_with fail
    go_ret
    exact ⟨ret_bool (ne_len HL.out).symm, 0, rfl⟩
def eqIns (x y : Ins) : Bool := x.kind == y.kind && (x.a == y.a)
theorem eqIns_iff (x y : Ins) : eqIns x y = true ↔ x = y := by
  unfold eqIns
  cases x; cases y
  simp
theorem eqrIns (d : Nat) (w : World) (x y : Ins) : (Op.equalIn (d + 2) 84 (.agg #[.int .i64 x.kind, .int .i64 x.a]) (.agg #[.int .i64 y.kind, .int .i64 y.a])).run Tryz.prog w = .ok (eqIns x y) w := by
  refine eq_struct Tryz.underlying84 (by kernel_rfl) ?_
  unfold eqIns
  rw [← Bool.and_true (x.a == y.a)]
  refine eq_next (by rfl) (by go_simp; rfl) (by go_simp; rfl) (by go_simp) ?_
  exact eq_next (by rfl) (by go_simp; rfl) (by go_simp; rfl) (by go_simp) eq_done
set_option maxHeartbeats 1000000 in
theorem sameInss_any (A B : Option Addr) (ca cb : Nat) (xs ys : List Ins) (w : World) (hx : ReadsC w A xs) (hy : ReadsC w B ys) :
    Calls Tryz.prog 38 #[.slice A xs.length ca, .slice B ys.length cb] w (RetD (.bool (decide (xs = ys))) w) := by
  have HX := Lib.hid hx
  have HY := Lib.hid hy
  have n1 : xs.length ≤ 9223372036854775807 := hx.1
  have n2 : ys.length ≤ 9223372036854775807 := hy.1
  have hq := fun (W : World) (x y : Ins) => neq_of (fun d => eqrIns d W x y)
  clear hx hy
  by_cases hl : xs.length = ys.length
  · have dl : (xs.length != ys.length) = false := by simpa using hl
    have dm : ((xs.length : Int) != ys.length) = false := by simp; omega
    have HL := Lib.hid hl
    clear hl
    go_enter Tryz.func38, Tryz.ntmps38
    go_wp2_with fail
    go_loopw [5] (fun i wr => ∃ k : Nat, k ≤ xs.length ∧ i = .int .i64 k ∧ (∀ j (hx : j < xs.length) (hy : j < ys.length), j < k → xs[j] = ys[j]) ∧ ∃ n, wr = w.drewN n) (fun i _ => xs.length - (intOf i).toNat)
    case atStart => exact ⟨0, Nat.zero_le _, rfl, fun _ _ _ h => absurd h (Nat.not_lt_zero _), 0, rfl⟩
    case round =>
      obtain ⟨k, hk, rfl, hv, n, rfl⟩ := hrel
      have HV := Lib.hid hv
      clear hv
      by_cases hlt : k < xs.length
      · have hly : k < ys.length := by have := HL.out; omega
        obtain ⟨a1, e1, c0, c1⟩ := HX.out.at_ (Below.refl _ _) hlt
        obtain ⟨a2, e2, d0, d1⟩ := HY.out.at_ (Below.refl _ _) hly
        subst e1 e2
        go_upto_region 6 with fail
        by_cases he : xs[k] = ys[k]
        · have he' : eqIns xs[k] ys[k] = true := (eqIns_iff _ _).2 he
          have HE := Lib.hid he
          clear he
          go_quiet (fail)
          go_wp2_with fail
          go_roundw
          case rel => exact ⟨k + 1, by omega, by go_num, fun j hx hy h => by
            rcases Nat.lt_or_ge j k with h2 | h2
            · exact HV.out j hx hy h2
            · obtain rfl : j = k := by omega
              exact HE.out, by first | exact ⟨_, rfl⟩ | exact ⟨_, drewN_two _ _ _⟩⟩
          case measure => simp only [intOf]; omega
        · have he' : eqIns xs[k] ys[k] = false := by
            cases hc : eqIns xs[k] ys[k] with
            | false => rfl
            | true => exact absurd ((eqIns_iff _ _).1 hc) he
          have HE := Lib.hid he
          clear he
          go_quiet (fail)
          go_wp2_with fail
          go_ret
          exact ⟨ret_bool (ne_at hlt hly HE.out).symm, by first | exact ⟨_, rfl⟩ | exact ⟨_, drewN_two _ _ _⟩⟩
      · go_wp2_with fail
        go_ret
        exact ⟨ret_bool (eq_all HL.out fun j hx hy => HV.out j hx hy (by omega)).symm, _, rfl⟩
  · have dl : (xs.length != ys.length) = true := by simpa using hl
    have dm : ((xs.length : Int) != ys.length) = true := by simp; omega
    have HL := Lib.hid hl
    clear hl
    go_enter Tryz.func38, Tryz.ntmps38
    go_wp2_with fail
    go_ret
    exact ⟨ret_bool (ne_len HL.out).symm, 0, rfl⟩

theorem fn_ext {x y : Fn} (h1 : x.args = y.args) (h2 : x.locals = y.locals) (h3 : x.code = y.code) : x = y := by cases x; cases y; simp only at h1 h2 h3; rw [h1, h2, h3]
set_option maxRecDepth 100000 in
set_option maxHeartbeats 2000000 in
theorem sameProgram_any (A B : Option Addr) (ca cb : Nat) (p q : List Fn) (w : World) (hx : ReadsF w A p) (hy : ReadsF w B q) :
    Calls Tryz.prog 16 #[.agg #[.slice A p.length ca], .agg #[.slice B q.length cb]] w (Ret (.bool (decide (p = q))) w) := by
  have b1 : Below w.heap.size w ((w.alloc (.cells #[.slice A p.length ca] 24)).alloc (.cells #[.slice B q.length cb] 24)) := below_alloc (below_alloc (Below.refl _ _) _) _
  have k0 : ((w.alloc (.cells #[.slice A p.length ca] 24)).alloc (.cells #[.slice B q.length cb] 24)).cell? ⟨w.heap.size, 0, none⟩ = some (.slice A p.length ca) := Lib.cell?_alloc_some _ ((blk_cell (blk_new w _) 0).trans rfl)
  have k1 : ((w.alloc (.cells #[.slice A p.length ca] 24)).alloc (.cells #[.slice B q.length cb] 24)).cell? ⟨w.heap.size + 1, 0, none⟩ = some (.slice B q.length cb) := by
    have := blk_cell (blk_new (w.alloc (.cells #[.slice A p.length ca] 24)) (.cells #[.slice B q.length cb] 24)) 0
    rw [show (w.alloc (.cells #[.slice A p.length ca] 24)).heap.size = w.heap.size + 1 by simp] at this
    exact this.trans rfl
  obtain ⟨w1, hw1⟩ : ∃ w1, (w.alloc (.cells #[.slice A p.length ca] 24)).alloc (.cells #[.slice B q.length cb] 24) = w1 := ⟨_, rfl⟩
  rw [hw1] at b1 k0 k1
  have HX := Lib.hid (hx.below b1)
  have HY := Lib.hid (hy.below b1)
  have n1 : p.length ≤ 9223372036854775807 := hx.1
  have n2 : q.length ≤ 9223372036854775807 := hy.1
  have HB1 := Lib.hid b1
  have K0 := Lib.hid k0
  have K1 := Lib.hid k1
  clear hx hy b1
  by_cases hl : p.length = q.length
  · have dl : (p.length != q.length) = false := by simpa using hl
    have dm : ((p.length : Int) != q.length) = false := by simp; omega
    have HL := Lib.hid hl
    clear hl
    go_enter Tryz.func16, Tryz.ntmps16
    go_wp2_with fail
    clear hw1 k0 k1
    go_loopw [5] (fun i wr => ∃ k : Nat, k ≤ p.length ∧ i = .int .i64 k ∧ (∀ j (hx : j < p.length) (hy : j < q.length), j < k → p[j] = q[j]) ∧ Below w1.heap.size w1 wr) (fun i _ => p.length - (intOf i).toNat)
    case atStart => exact ⟨0, Nat.zero_le _, rfl, fun _ _ _ h => absurd h (Nat.not_lt_zero _), Below.refl _ _⟩
    case round =>
      obtain ⟨k, hk, rfl, hv, hB⟩ := hrel
      have HV := Lib.hid hv
      have HB := Lib.hid hB
      have k0 := (hB.cell (World.block_lt_of_cell? _ _ K0.out)).trans K0.out
      have k1 := (hB.cell (World.block_lt_of_cell? _ _ K1.out)).trans K1.out
      clear hv hB
      by_cases hlt : k < p.length
      · have hly : k < q.length := by have := HL.out; omega
        obtain ⟨a1, e1, c0, c1, Ac, cc, c2, hc⟩ := HX.out.at_ HB.out hlt
        obtain ⟨a2, e2, d0, d1, Ad, cd, d2, hd⟩ := HY.out.at_ HB.out hly
        subst e1 e2
        have l1 := fun {a v} (h : wr.cell? a = some v) (o : Obj) => (below_alloc (Below.refl wr.heap.size wr) o).cell (World.block_lt_of_cell? _ a h) |>.trans h
        have l2 := fun {a v} (h : wr.cell? a = some v) (o o' : Obj) => (below_alloc (below_alloc (Below.refl wr.heap.size wr) o) o').cell (World.block_lt_of_cell? _ a h) |>.trans h
        have j10 := l1 k0
        have j11 := l1 k1
        have j20 := l2 k0
        have j21 := l2 k1
        have c10 := l1 c0
        have c11 := l1 c1
        have c12 := l1 c2
        have d10 := l1 d0
        have d11 := l1 d1
        have d12 := l1 d2
        have c20 := l2 c0
        have c21 := l2 c1
        have c22 := l2 c2
        have d20 := l2 d0
        have d21 := l2 d1
        have d22 := l2 d2
        clear l1 l2
        have HC := Lib.hid hc
        have HD := Lib.hid hd
        clear hc hd
        have HS := Lib.hid (fun (W : World) (hb : Below wr.heap.size wr W) => sameInss_any Ac Ad cc cd p[k].code q[k].code W (HC.out.below hb) (HD.out.below hb))
        go_upto_region 6 with fail
        by_cases ea : p[k].args = q[k].args
        · have da : (p[k].args != q[k].args) = false := by simpa using ea
          have EA := Lib.hid ea
          clear ea
          by_cases el : p[k].locals = q[k].locals
          · have db : (p[k].locals != q[k].locals) = false := by simpa using el
            have EL := Lib.hid el
            clear el
            by_cases ec : p[k].code = q[k].code
            · rw [decide_eq_true ec] at HS
              have EC := Lib.hid ec
              clear ec
              go_region
              all_goals
                go_wp2_with fail
                refine (HS.out _ (below_alloc (below_alloc (Below.refl _ _) _) _).drew).mono ?_
                rintro e w3 ⟨rfl, n, rfl⟩
                go_wp2_with fail
                go_roundw
                case rel => exact ⟨k + 1, by omega, by go_num, fun j hx hy h => by
                  rcases Nat.lt_or_ge j k with h2 | h2
                  · exact HV.out j hx hy h2
                  · obtain rfl : j = k := by omega
                    exact fn_ext EA.out EL.out EC.out, by first | exact below_drew (below_alloc (below_alloc HB.out _) _) _ | exact below_drew (below_alloc (below_alloc HB.out _) _).drew _⟩
                case measure => simp only [intOf]; omega
            · rw [decide_eq_false ec] at HS
              have NE := Lib.hid (fun e : p[k] = q[k] => ec (by rw [e]))
              clear ec
              go_region
              all_goals
                go_wp2_with fail
                refine (HS.out _ (below_alloc (below_alloc (Below.refl _ _) _) _).drew).mono ?_
                rintro e w3 ⟨rfl, n, rfl⟩
                go_wp2_with fail
                go_ret
                exact ⟨ret_bool (ne_at hlt hly NE.out).symm, below_trans HB1.out (by first | exact below_drew (below_alloc (below_alloc HB.out _) _) _ | exact below_drew (below_alloc (below_alloc HB.out _) _).drew _)⟩
          · have db : (p[k].locals != q[k].locals) = true := by simpa using el
            have NE := Lib.hid (fun e : p[k] = q[k] => el (by rw [e]))
            clear el
            go_region
            all_goals go_wp2_with fail
            all_goals go_ret
            all_goals exact ⟨ret_bool (ne_at hlt hly NE.out).symm, below_trans HB1.out ((below_alloc (below_alloc HB.out _) _).drew)⟩
        · have da : (p[k].args != q[k].args) = true := by simpa using ea
          have NE := Lib.hid (fun e : p[k] = q[k] => ea (by rw [e]))
          clear ea
          go_region
          all_goals go_wp2_with fail
          all_goals go_ret
          all_goals exact ⟨ret_bool (ne_at hlt hly NE.out).symm, below_trans HB1.out ((below_alloc (below_alloc HB.out _) _).drew)⟩
      · go_wp2_with fail
        go_ret
        exact ⟨ret_bool (eq_all HL.out fun j hx hy => HV.out j hx hy (by omega)).symm, below_trans HB1.out HB.out⟩
  · have dl : (p.length != q.length) = true := by simpa using hl
    have dm : ((p.length : Int) != q.length) = true := by simp; omega
    have HL := Lib.hid hl
    clear hl
    go_enter Tryz.func16, Tryz.ntmps16
    go_wp2_with fail
    go_ret
    exact ⟨ret_bool (ne_len HL.out).symm, HB1.out⟩
end Go.Proofs.YtdjlaglilokjeaaGreatDoor

/- WrapRounds, walked by hand over the printed contracts of 'wrap.Do', 'wrap.Wrap', 'awake'. No condition. -/
import Derived.Test.YtjjnccllamgbaaaRoundsPure
import Derived.Lib.Hide
namespace Go.Proofs.Ytjjnccllamgbaaa.Rounds
open Go.RowKit Go.Proofs.Ytjjnccllamgbaaa.PWrapRounds Go.Proofs.Ytjjnccllamgbaaa.Pure Go.Proofs.YtjjnccllamgbaaaW.PrintWords Go.Proofs.YtjjnccllamgbaaaW.PrintLast

theorem _root_.Go.Proofs.YtjjnccllamgbaaaW.PrintWords.Drawn0.then {w w1 w2 : World} (h : Drawn0 w w1) (k : Drawn0 w1 w2) : Drawn0 w w2 := by
  obtain ⟨⟨n, rfl⟩⟩ := h
  obtain ⟨⟨m, rfl⟩⟩ := k
  exact ⟨⟨n + m, World.drewN_drewN ..⟩⟩

set_option maxRecDepth 100000 in
set_option maxHeartbeats 8000000 in
theorem rounds_yes (a b : Int) (w : World) : Calls Try.prog 4 #[.int .i64 a, .int .i64 b] w fun e w' => e = .returned (.bool true) ∧ Drawn0 w w' := by
  obtain ⟨x, ex⟩ : ∃ x, wrap32 a = x := ⟨_, rfl⟩
  obtain ⟨y, ey⟩ : ∃ y, wrap32 b = y := ⟨_, rfl⟩
  obtain ⟨s, es⟩ : ∃ s, wrap32 (x + y) = s := ⟨_, rfl⟩
  obtain ⟨m, em⟩ : ∃ m, wrap32 (x * y) = m := ⟨_, rfl⟩
  have nx : IsNum x := ex ▸ w32_num a
  have ny : IsNum y := ey ▸ w32_num b
  have ns : IsNum s := es ▸ w32_num _
  have C1 := Lib.hid (fun w => wrap_Wrap.calls a x w (by rw [wrapf, ex]))
  have C2 := Lib.hid (fun w => wrap_Wrap.calls b y w (by rw [wrapf, ey]))
  have C3 := Lib.hid (fun w => wrap_Do.calls 2 3 x y s false 0 w (by rw [← es]; exact do_add nx ny 0))
  have C4 := Lib.hid (fun w => wrap_Do.calls 2 4 s y x false 0 w (by rw [do_sub ns ny 0]; congr 2; rw [← es, ← ex, ← ey]; unfold wrap32; omega))
  have C5 := Lib.hid (fun w => wrap_Do.calls 2 5 x y m false 0 w (by rw [← em]; exact do_mul nx ny 0))
  have C6 := Lib.hid (fun w => wrap_Do.calls 2 5 y x m false 0 w (by rw [← em, Int.mul_comm]; exact do_mul ny nx 0))
  have C7 := Lib.hid (fun w => wrap_Wrap.calls x x w (by rw [wrapf, w32_id nx]))
  have C8 := Lib.hid (fun w => swagelaw0_Num.calls 0 0 w rfl)
  have r0 : x ≥ -2147483648 := nx.1
  have r1 : x ≤ 2147483647 := nx.2
  have e5 : IntKind.u64.wrap x % 4294967296 = IntKind.u64.wrap a % 4294967296 := by rw [← ex]; simp only [u32_of, w32_mod]
  have e3 : IntKind.u64.wrap s % 4294967296 = (IntKind.u64.wrap a % 4294967296 + IntKind.u64.wrap b % 4294967296) % 4294967296 := by
    rw [← es, ← ex, ← ey]; simp only [u32_of, w32_mod]; unfold wrap32; omega
  have e4 : IntKind.u64.wrap m % 4294967296 = (IntKind.u64.wrap a % 4294967296 * (IntKind.u64.wrap b % 4294967296)) % 4294967296 := by
    rw [← em, ← ex, ← ey]; simp only [u32_of, w32_mod]
    rw [Int.mul_emod, w32_mod, w32_mod]
  have b5 : (IntKind.u64.wrap x % 4294967296 == IntKind.u64.wrap a % 4294967296) = true := by simpa using e5
  have b3 : (IntKind.u64.wrap s % 4294967296 == (IntKind.u64.wrap a % 4294967296 + IntKind.u64.wrap b % 4294967296) % 4294967296) = true := by simpa using e3
  have b4 : (IntKind.u64.wrap m % 4294967296 == (IntKind.u64.wrap a % 4294967296 * (IntKind.u64.wrap b % 4294967296)) % 4294967296) = true := by simpa using e4
  clear nx ny ns ex ey es em
  go_enter Try.func4, Try.ntmps4
  go_wp2_with fail
  refine (swagelaw1_awake.calls 2 true w (awake 0)).mono ?_
  rintro e w1 ⟨rfl, d1⟩
  go_wp2_with fail
  refine (C1.out _).mono ?_
  rintro e w2 ⟨rfl, d2⟩
  go_wp2_with fail
  refine (C2.out _).mono ?_
  rintro e w3 ⟨rfl, d3⟩
  go_wp2_with fail
  refine (C3.out _).mono ?_
  rintro e w4 ⟨rfl, d4⟩
  go_wp2_with fail
  refine (C4.out _).mono ?_
  rintro e w5 ⟨rfl, d5⟩
  go_wp2_with fail
  refine (C5.out _).mono ?_
  rintro e w6 ⟨rfl, d6⟩
  go_wp2_with fail
  refine (C6.out _).mono ?_
  rintro e w7 ⟨rfl, d7⟩
  go_wp2_with fail
  refine (C7.out _).mono ?_
  rintro e w8 ⟨rfl, d8⟩
  go_wp2_with fail
  refine (C8.out _).mono ?_
  rintro e w9 ⟨rfl, d9⟩
  go_wp2_with fail
  refine (C8.out _).mono ?_
  rintro e w10 ⟨rfl, d10⟩
  go_wp2_with fail
  refine (C8.out _).mono ?_
  rintro e w11 ⟨rfl, d11⟩
  go_wp2_with fail
  refine (C8.out _).mono ?_
  rintro e w12 ⟨rfl, d12⟩
  go_wp2_with fail
  go_ret
  exact ⟨rfl, ((((((((((d1.then d2).then d3).then d4).then d5).then d6).then d7).then d8).then d9).then d10).then d11).then d12⟩
end Go.Proofs.Ytjjnccllamgbaaa.Rounds

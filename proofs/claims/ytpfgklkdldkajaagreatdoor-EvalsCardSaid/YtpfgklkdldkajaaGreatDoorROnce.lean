/- The document's 'once', on any state that may be. Conditions: the state is the call's own; the program lies in older memory. -/
import Derived.Test.YtpfgklkdldkajaaGreatDoorROnceR
import Derived.Test.YtpfgklkdldkajaaGreatDoorGZ23
namespace Go.Proofs.YtpfgklkdldkajaaGreatDoor
open Go.RowKit

set_option maxRecDepth 100000 in
set_option maxHeartbeats 4000000 in
theorem ronce_done (A Ao Ap : Option Addr) (pn cp n m c co : Nat) (fu dn va : Int) (w : World) (hd : (dn != 0) = true) :
    Calls Tryz.prog 64 #[.agg #[.slice Ap pn cp], .agg #[.slice A n c, .int .i64 fu, .slice Ao m co, .int .i64 dn, .int .i64 va]] w fun e w' => e = .returned (.agg #[.slice A n c, .int .i64 fu, .slice Ao m co, .int .i64 dn, .int .i64 va]) ∧ Below w.heap.size w w' := by
  obtain ⟨w1, hw1⟩ : ∃ w1, w.alloc (.cells #[.slice Ap pn cp] 24) = w1 := ⟨_, rfl⟩
  obtain ⟨w2, hw2⟩ : ∃ w2, w1.alloc (.cells #[.slice A n c, .int .i64 fu, .slice Ao m co, .int .i64 dn, .int .i64 va] 47) = w2 := ⟨_, rfl⟩
  have b1 : Below w.heap.size w w1 := hw1 ▸ below_alloc (Below.refl _ _) _
  have b2 : Below w1.heap.size w1 w2 := hw2 ▸ below_alloc (Below.refl _ _) _
  have b3 : Below w2.heap.size w2 (w2.alloc (.cells #[.slice none 0 0, .int .i64 0, .slice none 0 0, .int .i64 0, .int .i64 0] 47)) := below_alloc (Below.refl _ _) _
  have y1 : w1.heap.size = w.heap.size + 1 := by rw [← hw1]; simp
  have y2 : w2.heap.size = w.heap.size + 2 := by rw [← hw2]; simp [y1]
  have r1 : RowAt 47 w1.heap.size [.slice A n c, .int .i64 fu, .slice Ao m co, .int .i64 dn, .int .i64 va] (w2.alloc (.cells #[.slice none 0 0, .int .i64 0, .slice none 0 0, .int .i64 0, .int .i64 0] 47)) := (hw2 ▸ RowAt.new _ _ w1 : RowAt 47 w1.heap.size _ w2).below b3
  have r3 : RowAt 47 w2.heap.size [.slice none 0 0, .int .i64 0, .slice none 0 0, .int .i64 0, .int .i64 0] (w2.alloc (.cells #[.slice none 0 0, .int .i64 0, .slice none 0 0, .int .i64 0, .int .i64 0] 47)) := RowAt.new _ _ w2
  have B3 := Lib.hid (below_trans (below_trans b1 b2) b3)
  have R1 := Lib.hid r1
  have Q3 := Lib.hid r3
  have Y := Lib.hid (And.intro y1 y2)
  clear b1 b2 b3 y1 y2 r1 r3
  go_enter Tryz.func64, Tryz.ntmps64
  go_upto_region 1 with fail
  generalize hw3 : (w2.alloc (.cells #[.slice none 0 0, .int .i64 0, .slice none 0 0, .int .i64 0, .int .i64 0] 47)) = w3 at *
  clear hw1 hw2 hw3
  have k0 := R1.out.cell (k := 0) (by simp)
  have k1 := R1.out.cell (k := 1) (by simp)
  have k2 := R1.out.cell (k := 2) (by simp)
  have k3 := R1.out.cell (k := 3) (by simp)
  have k4 := R1.out.cell (k := 4) (by simp)
  simp only [List.getElem_cons_zero, List.getElem_cons_succ] at k0 k1 k2 k3 k4
  have n0 := Q3.out.free 0
  have n1 := Q3.out.free 1
  have n2 := Q3.out.free 2
  have n3 := Q3.out.free 3
  have n4 := Q3.out.free 4
  obtain ⟨m0, m1, m2, m3, m4⟩ : w3.cell? ⟨w2.heap.size, 0, none⟩ = some (.slice none 0 0) ∧ w3.cell? ⟨w2.heap.size, 1, none⟩ = some (.int .i64 0) ∧ w3.cell? ⟨w2.heap.size, 2, none⟩ = some (.slice none 0 0) ∧ w3.cell? ⟨w2.heap.size, 3, none⟩ = some (.int .i64 0) ∧ w3.cell? ⟨w2.heap.size, 4, none⟩ = some (.int .i64 0) := ⟨Q3.out.cell (k := 0) (by simp), Q3.out.cell (k := 1) (by simp), Q3.out.cell (k := 2) (by simp), Q3.out.cell (k := 3) (by simp), Q3.out.cell (k := 4) (by simp)⟩
  have pz := put5s Q3.out rfl (.slice A n c) (.int .i64 fu) (.slice Ao m co) (.int .i64 dn) (.int .i64 va)
  have EE := Lib.hid pz.1
  have FB := Lib.hid (Chg.below B3.out pz.2 (fun b e => by have := Y.out; omega))
  clear pz
  go_wp2_with fail
  exact bodyPost_ret (v := .agg #[.slice A n c, .int .i64 fu, .slice Ao m co, .int .i64 dn, .int .i64 va]) (by simp [results, Tryz.results64, go_sem, EE.out.1, EE.out.2.1, EE.out.2.2.1, EE.out.2.2.2.1, EE.out.2.2.2.2]) rfl ⟨rfl, FB.out⟩
set_option maxRecDepth 100000 in
set_option maxHeartbeats 4000000 in
theorem ronce_zero (A Ao Ap : Option Addr) (pn cp n m c co : Nat) (va : Int) (w : World)  :
    Calls Tryz.prog 64 #[.agg #[.slice Ap pn cp], .agg #[.slice A n c, .int .i64 0, .slice Ao m co, .int .i64 0, .int .i64 va]] w fun e w' => e = .returned (.agg #[.slice none 0 0, .int .i64 0, .slice Ao m co, .int .i64 4, .int .i64 0]) ∧ Below w.heap.size w w' := by
  obtain ⟨w1, hw1⟩ : ∃ w1, w.alloc (.cells #[.slice Ap pn cp] 24) = w1 := ⟨_, rfl⟩
  obtain ⟨w2, hw2⟩ : ∃ w2, w1.alloc (.cells #[.slice A n c, .int .i64 0, .slice Ao m co, .int .i64 0, .int .i64 va] 47) = w2 := ⟨_, rfl⟩
  have b1 : Below w.heap.size w w1 := hw1 ▸ below_alloc (Below.refl _ _) _
  have b2 : Below w1.heap.size w1 w2 := hw2 ▸ below_alloc (Below.refl _ _) _
  have b3 : Below w2.heap.size w2 (w2.alloc (.cells #[.slice none 0 0, .int .i64 0, .slice none 0 0, .int .i64 0, .int .i64 0] 47)) := below_alloc (Below.refl _ _) _
  have y1 : w1.heap.size = w.heap.size + 1 := by rw [← hw1]; simp
  have y2 : w2.heap.size = w.heap.size + 2 := by rw [← hw2]; simp [y1]
  have r1 : RowAt 47 w1.heap.size [.slice A n c, .int .i64 0, .slice Ao m co, .int .i64 0, .int .i64 va] (w2.alloc (.cells #[.slice none 0 0, .int .i64 0, .slice none 0 0, .int .i64 0, .int .i64 0] 47)) := (hw2 ▸ RowAt.new _ _ w1 : RowAt 47 w1.heap.size _ w2).below b3
  have r3 : RowAt 47 w2.heap.size [.slice none 0 0, .int .i64 0, .slice none 0 0, .int .i64 0, .int .i64 0] (w2.alloc (.cells #[.slice none 0 0, .int .i64 0, .slice none 0 0, .int .i64 0, .int .i64 0] 47)) := RowAt.new _ _ w2
  have B3 := Lib.hid (below_trans (below_trans b1 b2) b3)
  have R1 := Lib.hid r1
  have Q3 := Lib.hid r3
  have Y := Lib.hid (And.intro y1 y2)
  clear b1 b2 b3 y1 y2 r1 r3
  go_enter Tryz.func64, Tryz.ntmps64
  go_upto_region 1 with fail
  generalize hw3 : (w2.alloc (.cells #[.slice none 0 0, .int .i64 0, .slice none 0 0, .int .i64 0, .int .i64 0] 47)) = w3 at *
  clear hw1 hw2 hw3
  have k0 := R1.out.cell (k := 0) (by simp)
  have k1 := R1.out.cell (k := 1) (by simp)
  have k2 := R1.out.cell (k := 2) (by simp)
  have k3 := R1.out.cell (k := 3) (by simp)
  have k4 := R1.out.cell (k := 4) (by simp)
  simp only [List.getElem_cons_zero, List.getElem_cons_succ] at k0 k1 k2 k3 k4
  have HO := Lib.hid (rover_any A Ao n m c co 0 0 va 4 0 w3)
  go_upto_region 4 with fail
  go_wp2_with fail
  (with_reducible refine HO.out.mono ?_)
  rintro e w9 ⟨rfl, hB9⟩
  have Q9 := Lib.hid (Q3.out.below hB9)
  have B9 := Lib.hid (below_trans B3.out hB9)
  clear hB9 HO Q3 B3
  have n0 := Q9.out.free 0
  have n1 := Q9.out.free 1
  have n2 := Q9.out.free 2
  have n3 := Q9.out.free 3
  have n4 := Q9.out.free 4
  obtain ⟨m0, m1, m2, m3, m4⟩ : w9.cell? ⟨w2.heap.size, 0, none⟩ = some (.slice none 0 0) ∧ w9.cell? ⟨w2.heap.size, 1, none⟩ = some (.int .i64 0) ∧ w9.cell? ⟨w2.heap.size, 2, none⟩ = some (.slice none 0 0) ∧ w9.cell? ⟨w2.heap.size, 3, none⟩ = some (.int .i64 0) ∧ w9.cell? ⟨w2.heap.size, 4, none⟩ = some (.int .i64 0) := ⟨Q9.out.cell (k := 0) (by simp), Q9.out.cell (k := 1) (by simp), Q9.out.cell (k := 2) (by simp), Q9.out.cell (k := 3) (by simp), Q9.out.cell (k := 4) (by simp)⟩
  have pz := put5s Q9.out rfl (.slice none 0 0) (.int .i64 0) (.slice Ao m co) (.int .i64 4) (.int .i64 0)
  have EE := Lib.hid pz.1
  have FB := Lib.hid (Chg.below B9.out pz.2 (fun b e => by have := Y.out; omega))
  clear pz
  go_wp2_with fail
  exact bodyPost_ret (v := .agg #[.slice none 0 0, .int .i64 0, .slice Ao m co, .int .i64 4, .int .i64 0]) (by simp [results, Tryz.results64, go_sem, EE.out.1, EE.out.2.1, EE.out.2.2.1, EE.out.2.2.2.1, EE.out.2.2.2.2]) rfl ⟨rfl, FB.out⟩
theorem onceR_eq {p : List Fn} {l : List Frm} {f : Frm} {fuel : Int} {out : List Int} (hv : verifyOf p = 0) (hf : frameB p f 0 = true) (hu : Under p l f.fn) (hz : ¬ fuel = 0) :
    onceR p ⟨l ++ [f], fuel, out, 0, 0⟩ l.length (oneI p f (insAt p f) (l.length + 1)).1 (oneI p f (insAt p f) (l.length + 1)).2 = onceS p ⟨l ++ [f], fuel, out, 0, 0⟩ ∧
      (∀ fn args, (oneI p f (insAt p f) (l.length + 1)).2 = .call fn args → ∃ m Lc : Nat, fn = m ∧ ∃ h : m < p.length, p[m].locals = Lc ∧ Lc ≤ 100 ∧ args.length ≤ Lc) ∧
      (∀ d, (oneI p f (insAt p f) (l.length + 1)).2 = .over d → d ≠ 0) ∧ (0 < l.length → ((l ++ [f]).getD (l.length - 1) default).stack.length ≤ 1000) := by
  have hres := one_ok hv hf (l.length + 1)
  have htop : topF ⟨l ++ [f], fuel, out, 0, 0⟩ = f := by unfold topF; simp
  have hlen : (l ++ [f]).length = l.length + 1 := by simp
  have hst : 0 < l.length → ((l ++ [f]).getD (l.length - 1) default).stack.length ≤ 1000 := fun h => by
    rcases List.eq_nil_or_concat l with h0 | ⟨l', g, h0⟩
    · rw [h0] at h; exact absurd h (by simp)
    · rw [List.concat_eq_append] at h0
      subst h0
      have hg := (under_snoc p l' g f.fn).1 hu
      have eg : ((l' ++ [g]) ++ [f]).getD ((l' ++ [g]).length - 1) default = g := by
        rw [List.getD_eq_getElem?_getD, show (l' ++ [g]).length = l'.length + 1 by simp, Nat.add_sub_cancel, List.append_assoc]; simp
      rw [eg]
      exact stack_le hv hg.2.1 (by decide)
  have e3 : onceS p ⟨l ++ [f], fuel, out, 0, 0⟩ = (match (oneI p f (insAt p f) (l.length + 1)).2 with
      | .next => ⟨l ++ [(oneI p f (insAt p f) (l.length + 1)).1], fuel - 1, out, 0, 0⟩
      | .print v => ⟨l ++ [(oneI p f (insAt p f) (l.length + 1)).1], fuel - 1, out ++ [v], 0, 0⟩
      | .call fn args => ⟨l ++ [(oneI p f (insAt p f) (l.length + 1)).1, beginF p fn args], fuel - 1, out, 0, 0⟩
      | .ret v => if (l ++ [f]).length ≤ 1 then ⟨[], fuel - 1, out, 1, v⟩ else
        ⟨l.dropLast ++ [⟨(l.getLastD default).fn, (l.getLastD default).pc, (l.getLastD default).locals, (l.getLastD default).stack ++ [v]⟩], fuel - 1, out, 0, 0⟩
      | .over d => ⟨[], fuel - 1, out, d, 0⟩) := by
    unfold onceS
    rw [htop]
    simp only
    rw [if_neg hz, hlen, List.dropLast_concat]
    cases (oneI p f (insAt p f) (l.length + 1)).2 <;> rfl
  rw [e3]
  refine ⟨?_, ?_, ?_, hst⟩
  · clear hst e3
    unfold ResOk at hres
    generalize oneI p f (insAt p f) (l.length + 1) = R at hres ⊢
    obtain ⟨F, r⟩ := R
    cases r with
    | next => show (⟨(l ++ [f]).set l.length F, fuel - 1, out, 0, 0⟩ : Stt) = _; rw [set_last]
    | print v => show (⟨(l ++ [f]).set l.length F, fuel - 1, out ++ [v], 0, 0⟩ : Stt) = _; rw [set_last]
    | call fn args => show (⟨(l ++ [f]).set l.length F ++ [beginF p fn args], fuel - 1, out, 0, 0⟩ : Stt) = _; rw [set_last]; simp
    | ret v =>
      rcases (show l = [] ∨ ∃ l' g, l = l' ++ [g] by
        rcases List.eq_nil_or_concat l with h | ⟨l', g, h⟩
        · exact .inl h
        · exact .inr ⟨l', g, by rw [h, List.concat_eq_append]⟩) with rfl | ⟨l', g, rfl⟩
      · rfl
      · have hl1 : (l' ++ [g]).length = l'.length + 1 := by simp
        have eg : ((l' ++ [g]) ++ [f]).getD ((l' ++ [g]).length - 1) default = g := by
          rw [List.getD_eq_getElem?_getD, hl1, Nat.add_sub_cancel, List.append_assoc]; simp
        simp only [onceR]
        rw [if_neg (by simp), eg, if_neg (by simp), set_last, List.take_left' rfl, hl1, Nat.add_sub_cancel, set_last]
        simp
    | over d => rfl
  · intro fn args h
    unfold ResOk at hres
    generalize oneI p f (insAt p f) (l.length + 1) = R at hres h
    obtain ⟨F, r⟩ := R
    simp only at h
    subst h
    exact begin_ok hv hres.2
  · intro d h
    unfold ResOk at hres
    generalize oneI p f (insAt p f) (l.length + 1) = R at hres h
    obtain ⟨F, r⟩ := R
    simp only at h
    subst h
    rcases hres with e | e <;> rw [e] <;> decide
theorem ronceA {w W0 : World} {base cp : Nat} {p : List Fn} {Ap A Ao : Option Addr} {s : Stt} {c co : Nat} {vss : List (List Value)} (hO : OwnS w base s (.slice A s.frames.length c) (.slice Ao s.out.length co) vss) (hb : base ≤ w.heap.size) (hbs : W0.heap.size ≤ base) (hW : Below W0.heap.size W0 w) (hr : ReadsF W0 Ap p) (hs : stateB p s = true) :
    Calls Tryz.prog 64 #[.agg #[.slice Ap p.length cp], .agg #[.slice A s.frames.length c, .int .i64 s.fuel, .slice Ao s.out.length co, .int .i64 s.done, .int .i64 s.value]] w (OnceE (stepN p s) base (.slice A s.frames.length c) (.slice Ao s.out.length co) vss w) := by
  by_cases hd : s.done = 0
  · obtain ⟨hv, h0, h1, ho, hon, hval, l, f, hfs, hl, hu, hf⟩ := state_of hs hd
    rw [show stepN p s = onceS p s from if_pos hd]
    obtain ⟨frames, fuel, out, done, value⟩ := s
    simp only at hfs hd hval h0 h1 ho hO
    subst hfs hd hval
    by_cases hz : fuel = 0
    · subst hz
      refine (ronce_zero A Ao Ap p.length cp _ _ c co 0 w).mono ?_
      rintro e w' ⟨rfl, hB⟩
      refine ⟨none, 0, Ao, co, [], by rw [onceS_zero rfl]; rfl, ⟨OwnG.nil _ _ _, by rw [onceS_zero rfl]; exact CRow.below hO.out hB, ?_⟩, Chg.of_below hB, ?_⟩
      · intro u hu b hb
        have e1 : u = .slice none 0 0 := by rw [onceS_zero rfl] at hu; simpa using hu
        subst e1; cases hb
      · intro b hb
        rcases hb with h | h
        · exact (FrB.nil (by rw [onceS_zero rfl] at h; exact h)).elim
        · rw [onceS_zero rfl] at h; exact .inl (.inr h)
    · have hlen : (l ++ [f]).length = l.length + 1 := by simp
      have hget : (l ++ [f])[l.length]? = some f := by simp
      obtain ⟨h3, h4, h5, h6⟩ := onceR_eq (out := out) hv hf hu hz
      obtain ⟨g, o, e2, _⟩ := OwnFr.at_ hO.fr (k := l.length) (by simp)
      subst e2
      rw [← h3]
      simp only [hlen] at hO ⊢
      exact ronce_run (F := (oneI p f (insAt p f) (l.length + 1)).1) (r := (oneI p f (insAt p f) (l.length + 1)).2) (s := ⟨l ++ [f], fuel, out, 0, 0⟩) hO hb hbs hW hr hv hlen hget hf rfl (by simp only; omega) h1 (by omega) (by simp only; omega) rfl rfl h4 h5 h6
  · rw [show stepN p s = s from if_neg hd]
    refine (ronce_done A Ao Ap p.length cp _ _ c co s.fuel s.done s.value w (by simpa using hd)).mono ?_
    rintro e w' ⟨rfl, hB⟩
    exact ⟨A, c, Ao, co, vss, rfl, hO.chg (S := fun _ => False) (Chg.of_below hB) (fun _ h => h.elim), Chg.of_below hB, fun b hb => .inl hb⟩
end Go.Proofs.YtpfgklkdldkajaaGreatDoor

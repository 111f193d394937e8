/- Which programs may run: the heights, reckoned. Plain definitions and laws; no program in sight. errors.As at the target *Errno, walked: an error that wraps an Errno one deep (verify's 'fault') tells it. Condition: the variable errors.errorType holds the handle of 'error'. verify's errors: what 'told' makes of them. Condition: the variable errors.errorType holds the handle of 'error'. -/
import Derived.Test.YtjghibdlmmjobaaGreatDoorGZ03
import Derived.Test.YtjghibdlmmjobaaGreatDoorGZ01
import Derived.WalkKit
import Derived.WalkSpells
import Derived.WalkLawsBesides
import Derived.LaidEql
import Derived.Lib.Hide
import Derived.Stop.Asserts
import Derived.RowKitTokens
namespace Go.Proofs.YtjghibdlmmjobaaGreatDoor

def rangedB (p : List Fn) (f : Fn) (x : Ins) : Bool := if x.kind = 1 ∨ x.kind = 2 then decide (x.a < f.locals) else if x.kind = 12 ∨ x.kind = 13 then decide (x.a < f.code.length) else if x.kind = 14 then decide (x.a < p.length) else true
def argsOf (p : List Fn) (x : Ins) : Int := if x.kind = 14 then (match p[x.a.toNat]? with | some f => f.args | none => 0) else 0
/-- A pc that is come to, and whose A is out of range. -/
def badAt (p : List Fn) (f : Fn) (i : Nat) : Bool := (reachL f.code)[i]? == some true && (match f.code[i]? with | some x => !rangedB p f x | none => false)
def endBad (f : Fn) : Bool := (reachL f.code)[f.code.length - 1]? == some true && (match f.code[f.code.length - 1]? with | some x => decide (x.kind ≠ 12) && decide (x.kind ≠ 16) | none => false)
/-- What is wrong without heights: the pc, the error. -/
def plainOf (p : List Fn) (f : Fn) : Option (Int × Int) := match (List.range f.code.length).find? (badAt p f) with
  | some i => some ((i : Int), 501)
  | none => if endBad f then some ((f.code.length : Int) - 1, 503) else none
def hstep (h : Int) : List Nat → List Int → List Nat → Option (List Int × List Nat)
  | [], out, row => some (out, row)
  | t :: ts, out, row => if out[t]? = some (-1) then hstep h ts (out.set t h) (row ++ [t]) else if out[t]? = some h then hstep h ts out row else none
/-- The height behind a pc. -/
def behindH (p : List Fn) (x : Ins) (o : Int) : Int := o - takesOf x.kind (argsOf p x) + putsOf x.kind
def hwalk (p : List Fn) (code : List Ins) : Nat → List Int → List Nat → Nat ⊕ List Int
  | 0, out, _ => .inr out
  | _ + 1, out, [] => .inr out
  | n + 1, out, pc :: row => match code[pc]?, out[pc]? with
    | some x, some o =>
      if o < takesOf x.kind (argsOf p x) ∨ 8 < behindH p x o then .inl pc else match hstep (behindH p x o) (nx code pc) out row with
        | none => .inl pc
        | some s => hwalk p code n s.1 s.2
    | _, _ => .inr out
def hstart (code : List Ins) : List Int := (List.replicate code.length (-1)).set 0 0
def hwalkOf (p : List Fn) (code : List Ins) : Nat ⊕ List Int := hwalk p code (code.length + 1) (hstart code) [0]
/-- What 'Heights' answers: the heights, the pc, the error. -/
def heightsF (p : List Fn) (f : Fn) : List Int × Int × Int := match plainOf p f with
  | some e => ([], e.1, e.2)
  | none => match hwalkOf p f.code with
    | .inl pc => ([], (pc : Int), 502)
    | .inr out => (out, 0, 0)
def heightsOf (p : List Fn) (fn : Int) : List Int × Int × Int := if packs p = true ∧ 0 ≤ fn then (match p[fn.toNat]? with | some f => heightsF p f | none => ([], 0, 500)) else ([], 0, 500)
/-- What 'Program' answers. -/
def verifyOf (p : List Fn) : Int := if packs p = true then (match p.find? (fun f => (heightsF p f).2.2 != 0) with | some f => (heightsF p f).2.2 | none => 0) else 500

theorem packs_fn {p : List Fn} (h : packs p = true) {k : Nat} (hk : k < p.length) : fnMay p[k] = true := by
  unfold packs at h
  simp only [Bool.and_eq_true, List.all_eq_true] at h
  exact h.2 _ (List.getElem_mem hk)
theorem packs_len {p : List Fn} (h : packs p = true) : 1 ≤ p.length ∧ p.length ≤ 8 := by
  unfold packs at h
  simp only [Bool.and_eq_true, decide_eq_true_eq] at h
  exact h.1
theorem fnMay_of {f : Fn} (h : fnMay f = true) : 0 ≤ f.args ∧ f.args ≤ 4 ∧ f.args ≤ f.locals ∧ f.locals ≤ 8 ∧ codeMay f.code = true := by
  rw [fnMay_code] at h
  simp only [Bool.and_eq_true, decide_eq_true_eq] at h
  exact ⟨h.1.1.1.1, h.1.1.1.2, h.1.1.2, h.1.2, h.2⟩
theorem codeMay_len {code : List Ins} (h : codeMay code = true) : 1 ≤ code.length ∧ code.length ≤ 64 := by
  unfold codeMay at h
  simp only [Bool.and_eq_true, decide_eq_true_eq] at h
  exact h.1
theorem argsOf_in {p : List Fn} (hp : packs p = true) (x : Ins) : 0 ≤ argsOf p x ∧ argsOf p x ≤ 4 := by
  unfold argsOf
  split
  · split
    · rename_i f hf
      obtain ⟨hk, rfl⟩ := List.getElem?_eq_some_iff.1 hf
      have := fnMay_of (packs_fn hp hk)
      omega
    · omega
  · omega
theorem takes_in (k n : Int) (h0 : 0 ≤ n) (h4 : n ≤ 4) : 0 ≤ takesOf k n ∧ takesOf k n ≤ 4 := by unfold takesOf; omega
theorem puts_in (k : Int) : 0 ≤ putsOf k ∧ putsOf k ≤ 2 := by unfold putsOf; omega
theorem effOf_may {x : Ins} {n : Int} (h : insMay x = true) (h0 : 0 ≤ n) (h4 : n ≤ 4) : effOf x n = (takesOf x.kind n, putsOf x.kind, 0) := by unfold effOf; rw [if_pos ⟨h, h0, h4⟩]
theorem plainOf_none {p : List Fn} {f : Fn} (h : plainOf p f = none) : (∀ i, i < f.code.length → badAt p f i = false) ∧ endBad f = false := by
  unfold plainOf at h
  split at h
  · cases h
  · rename_i hn
    refine ⟨fun i hi => ?_, ?_⟩
    · rw [List.find?_eq_none] at hn
      simpa using hn i (by simpa using hi)
    · split at h
      · cases h
      · rename_i hb; simpa using hb
/-- Of what is plain each pc that is come to is in range. -/
theorem ranged_of {p : List Fn} {f : Fn} (hm : codeMay f.code = true) (h : plainOf p f = none) {pc : Nat} (hr : Reach f.code pc) (hpc : pc < f.code.length) : rangedB p f f.code[pc] = true := by
  have h1 := (plainOf_none h).1 pc hpc
  have h2 : Has (reachL f.code) pc := (reachL_iff hm).2 hr
  unfold Has at h2
  unfold badAt at h1
  rw [h2, List.getElem?_eq_getElem hpc] at h1
  simpa using h1

/-- The heights' search: what is set, what is to be looked at. -/
structure HInv (code : List Ins) (out : List Int) (row : List Nat) : Prop where
  len : out.length = code.length
  sound : ∀ t (h : t < out.length), out[t] ≠ -1 → Reach code t ∧ 0 ≤ out[t] ∧ out[t] ≤ 8
  inrow : ∀ q ∈ row, ∃ h : q < out.length, out[q] ≠ -1
def unsetH (out : List Int) : Nat := out.countP (fun b => b == -1)
theorem unsetH_set {out : List Int} {t : Nat} {h : Int} (ht : t < out.length) (ho : out[t] = -1) (hh : h ≠ -1) : unsetH (out.set t h) + 1 = unsetH out := by
  unfold unsetH
  rw [List.countP_set ht]
  have : 0 < out.countP fun b => b == -1 := List.countP_pos_iff.2 ⟨out[t], List.getElem_mem ht, by simp [ho]⟩
  simp [ho, hh]; omega
theorem HInv.mark {code : List Ins} {out : List Int} {row : List Nat} (h : HInv code out row) {pc t : Nat} {v : Int} (hp : Reach code pc) (ht : t ∈ nx code pc) (hl : t < out.length) (h0 : 0 ≤ v) (h8 : v ≤ 8) : HInv code (out.set t v) (row ++ [t]) where
  len := by simpa using h.len
  sound := fun q hq hn => by
    rw [List.getElem_set] at hn ⊢
    split
    · rename_i e; subst e; exact ⟨.step hp ht, h0, h8⟩
    · rename_i e; rw [if_neg e] at hn; exact h.sound q (by simpa using hq) hn
  inrow := fun q hq => by
    rcases List.mem_append.1 hq with hq | hq
    · obtain ⟨a, b⟩ := h.inrow q hq
      refine ⟨by simpa using a, ?_⟩
      rw [List.getElem_set]; split
      · omega
      · exact b
    · simp at hq; subst hq
      exact ⟨by simpa using hl, by simp; omega⟩
theorem HInv.tail {code : List Ins} {out : List Int} {pc : Nat} {row : List Nat} (h : HInv code out (pc :: row)) : HInv code out row := ⟨h.len, h.sound, fun q hq => h.inrow q (by simp [hq])⟩
theorem HInv.start {code : List Ins} (hm : codeMay code = true) : HInv code (hstart code) [0] := by
  have h0 := (codeMay_len hm).1
  refine ⟨by simp [hstart], fun t ht hn => ?_, fun q hq => ?_⟩
  · have hh : (hstart code)[t] = if 0 = t then 0 else -1 := by simp only [hstart, List.getElem_set, List.getElem_replicate]
    rw [hh] at hn ⊢
    by_cases e : 0 = t
    · rw [if_pos e]; subst e; exact ⟨.zero, by omega, by omega⟩
    · rw [if_neg e] at hn; exact absurd rfl hn
  · simp at hq; subst hq
    exact ⟨by simp [hstart]; omega, by simp [hstart]⟩
theorem hstep_cons_new {h : Int} {t : Nat} {ts : List Nat} {out : List Int} {row : List Nat} (ht : t < out.length) (ho : out[t] = -1) : hstep h (t :: ts) out row = hstep h ts (out.set t h) (row ++ [t]) := by
  rw [hstep, List.getElem?_eq_getElem ht, if_pos (by rw [ho])]
theorem hstep_cons_same {h : Int} {t : Nat} {ts : List Nat} {out : List Int} {row : List Nat} (ht : t < out.length) (hn : h ≠ -1) (ho : out[t] = h) : hstep h (t :: ts) out row = hstep h ts out row := by
  rw [hstep, List.getElem?_eq_getElem ht, if_neg (by rw [ho]; simpa using hn), if_pos (by rw [ho])]
theorem hstep_cons_bad {h : Int} {t : Nat} {ts : List Nat} {out : List Int} {row : List Nat} (ht : t < out.length) (hn : out[t] ≠ -1) (ho : out[t] ≠ h) : hstep h (t :: ts) out row = none := by
  rw [hstep, List.getElem?_eq_getElem ht, if_neg (by simpa using hn), if_neg (by simpa using ho)]
theorem hwalk_nil {p : List Fn} {code : List Ins} (n : Nat) (out : List Int) : hwalk p code n out [] = .inr out := by cases n <;> rfl
theorem hwalk_bad {p : List Fn} {code : List Ins} {n : Nat} {out : List Int} {pc : Nat} {row : List Nat} (hc : pc < code.length) (ho : pc < out.length) (h : out[pc] < takesOf code[pc].kind (argsOf p code[pc]) ∨ 8 < behindH p code[pc] out[pc]) : hwalk p code (n + 1) out (pc :: row) = .inl pc := by
  rw [hwalk, List.getElem?_eq_getElem hc, List.getElem?_eq_getElem ho]; simp only; rw [if_pos h]
theorem hwalk_step {p : List Fn} {code : List Ins} {n : Nat} {out : List Int} {pc : Nat} {row : List Nat} (hc : pc < code.length) (ho : pc < out.length) (h1 : ¬ out[pc] < takesOf code[pc].kind (argsOf p code[pc])) (h2 : ¬ 8 < behindH p code[pc] out[pc]) :
    hwalk p code (n + 1) out (pc :: row) = match hstep (behindH p code[pc] out[pc]) (nx code pc) out row with | none => .inl pc | some s => hwalk p code n s.1 s.2 := by
  rw [hwalk, List.getElem?_eq_getElem hc, List.getElem?_eq_getElem ho]; simp only; rw [if_neg (by omega)]
theorem heightsF_range {p : List Fn} {f : Fn} {e : Int × Int} (h : plainOf p f = some e) : heightsF p f = ([], e.1, e.2) := by unfold heightsF; rw [h]
end Go.Proofs.YtjghibdlmmjobaaGreatDoor

namespace Go.Proofs.YtjghibdlmmjobaaGreatDoor
open Go.RowKit Go.Extern.Stop Go.Stop Go.Extern

theorem As.valueOfT (t : Addr) (w : World) : (ReflectliteValue.unpack (.iface 302 (.pointer (some t)))).run Tryz.prog w
    = .ok (.agg #[.pointer (some ⟨1, 302, none⟩), .pointer (some ⟨w.heap.size, 0, none⟩), .int .u64 150]) (w.alloc (.cells #[.pointer (some t)] 302)) := by kernel_rfl
theorem As.typeT (a : Addr) (w : World) : (ReflectliteValue.methodAny (ReflectliteValue.valueError "reflectlite.Value.Type" 0) (fun t _ _ _ => ReflectliteType.toType t) #[.agg #[.pointer (some ⟨1, 302, none⟩), .pointer (some a), .int .u64 150]]).run Tryz.prog w
    = .ok (.iface 325 (.agg #[.pointer (some ⟨1, 302, none⟩)])) w := by kernel_rfl
theorem As.kindT (w : World) : ((ReflectliteType.abiMethod fun t => (fun a : Nat => Value.int IntKind.u8 (a : Int)) <$> Rtype.kind t) #[.pointer (some ⟨1, 302, none⟩)]).run Tryz.prog w = .ok (.int .u8 22) w := by kernel_rfl
theorem As.kindE (w : World) : ((ReflectliteType.abiMethod fun t => (fun a : Nat => Value.int IntKind.u8 (a : Int)) <$> Rtype.kind t) #[.pointer (some ⟨1, 30, none⟩)]).run Tryz.prog w = .ok (.int .u8 2) w := by kernel_rfl
theorem As.rlm (z : Sem Value) (f : TypeId → Addr → Nat → Nat → Sem Value) (v : Value) :
    ReflectliteValue.method z f #[v] = (do match ← ReflectliteValue.parts v with | none => z | some (t, a, fl) => f t a fl (fl % 32)) := rfl
theorem As.partsT (a : Addr) (w : World) : (ReflectliteValue.parts (.agg #[.pointer (some ⟨1, 302, none⟩), .pointer (some a), .int .u64 150])).run Tryz.prog w = .ok (some (302, a, 150)) w := by kernel_rfl
theorem As.isNilT (a p : Addr) (W : World) (ha : W.cell? a = some (.pointer (some p))) :
    (ReflectliteValue.method (ReflectliteValue.valueError "reflectlite.Value.IsNil" 0) ReflectliteValue.isNil #[.agg #[.pointer (some ⟨1, 302, none⟩), .pointer (some a), .int .u64 150]]).run Tryz.prog W = .ok (.bool false) W := by
  rw [As.rlm]
  simp only [Sem.run_bind, As.partsT, Result.andThen]
  simp [ReflectliteValue.isNil, loadVar, isAgg, underlying, Tryz.underlying302, ha, Result.andThen]
theorem As.elemT (w : World) : (ReflectliteType.method ReflectliteType.elem #[.agg #[.pointer (some ⟨1, 302, none⟩)]]).run Tryz.prog w = .ok (.iface 325 (.agg #[.pointer (some ⟨1, 30, none⟩)])) w := by kernel_rfl
theorem As.implementsE (w : World) : (ReflectliteType.relation "Implements" ReflectliteType.implements_ #[.agg #[.pointer (some ⟨1, 30, none⟩)], .iface 325 (.agg #[.pointer (some ⟨1, 271, none⟩)])]).run Tryz.prog w = .ok (.bool true) w := by kernel_rfl
theorem As.typeOfM (v : Value) (w : World) : (ReflectliteType.typeOf #[.iface 291 v]).run Tryz.prog w = .ok (.iface 325 (.agg #[.pointer (some ⟨1, 291, none⟩)])) w := by kernel_rfl
theorem As.typeOfE (v : Value) (w : World) : (ReflectliteType.typeOf #[.iface 30 v]).run Tryz.prog w = .ok (.iface 325 (.agg #[.pointer (some ⟨1, 30, none⟩)])) w := by kernel_rfl
theorem As.assignM (w : World) : (ReflectliteType.relation "AssignableTo" ReflectliteType.assignableTo #[.agg #[.pointer (some ⟨1, 291, none⟩)], .iface 325 (.agg #[.pointer (some ⟨1, 30, none⟩)])]).run Tryz.prog w = .ok (.bool false) w := by kernel_rfl
theorem As.assignE (w : World) : (ReflectliteType.relation "AssignableTo" ReflectliteType.assignableTo #[.agg #[.pointer (some ⟨1, 30, none⟩)], .iface 325 (.agg #[.pointer (some ⟨1, 30, none⟩)])]).run Tryz.prog w = .ok (.bool true) w := by kernel_rfl
theorem As.valueOfE (n : Int) (w : World) : (ReflectliteValue.unpack (.iface 30 (.int .i64 n))).run Tryz.prog w
    = .ok (.agg #[.pointer (some ⟨1, 30, none⟩), .pointer (some ⟨w.heap.size, 0, none⟩), .int .u64 130]) (w.alloc (.cells #[.int .i64 n] 30)) := by kernel_rfl
theorem As.elemOfT (w : World) : (Rtype.elem? 302).run Tryz.prog w = .ok (some 30) w := by kernel_rfl
theorem As.mkE (p : Addr) (w : World) : (ReflectliteValue.mk 30 p ReflectliteValue.flagAddr).run Tryz.prog w = .ok (.agg #[.pointer (some ⟨1, 30, none⟩), .pointer (some p), .int .u64 386]) w := by kernel_rfl
theorem As.elemVT (a p : Addr) (W : World) (ha : W.cell? a = some (.pointer (some p))) :
    (ReflectliteValue.method (ReflectliteValue.valueError "reflectlite.Value.Elem" 0) ReflectliteValue.elem #[.agg #[.pointer (some ⟨1, 302, none⟩), .pointer (some a), .int .u64 150]]).run Tryz.prog W
      = .ok (.agg #[.pointer (some ⟨1, 30, none⟩), .pointer (some p), .int .u64 386]) W := by
  rw [As.rlm]
  simp only [Sem.run_bind, As.partsT, Result.andThen]
  simp [ReflectliteValue.elem, loadVar, isAgg, underlying, Tryz.underlying302, ha, Result.andThen, As.elemOfT, As.mkE]
theorem As.rls (v x : Value) : ReflectliteValue.set #[v, x] = (do
    let (some (dst, a, fl), some (src, b, _)) := (← ReflectliteValue.parts v, ← ReflectliteValue.parts x)
      | unsupported (.noEntry "extern/(internal/reflectlite.Value).Set.zeroValue")
    if fl / ReflectliteValue.flagAddr % 2 == 0 then unsupported (.noEntry "extern/(internal/reflectlite.Value).Set.unaddressable")
    let val ← loadVar src b
    if ← Rtype.directlyAssignable dst src then storeVar dst a val
    else if ← Rtype.implements dst src then
      if (← Rtype.kind src) == 20 then
        match val with
        | .nilIface => unsupported (.noEntry "extern/reflectlite: a nil value of one interface type handed on as a value of another")
        | _ => storeVar dst a val
      else storeVar dst a (.iface src val)
    else panicString ("reflectlite.Set: value of type " ++ (← Rtype.spelt src) ++ " is not assignable to type " ++ (← Rtype.spelt dst))
    pure (.tuple #[])) := rfl
theorem As.partsEa (a : Addr) (w : World) : (ReflectliteValue.parts (.agg #[.pointer (some ⟨1, 30, none⟩), .pointer (some a), .int .u64 386])).run Tryz.prog w = .ok (some (30, a, 386)) w := by kernel_rfl
theorem As.partsE (a : Addr) (w : World) : (ReflectliteValue.parts (.agg #[.pointer (some ⟨1, 30, none⟩), .pointer (some a), .int .u64 130])).run Tryz.prog w = .ok (some (30, a, 130)) w := by kernel_rfl
theorem As.directE (w : World) : (Rtype.directlyAssignable 30 30).run Tryz.prog w = .ok true w := by kernel_rfl
theorem As.sizeE (w : World) : (sizeOf 30).run Tryz.prog w = .ok 1 w := by kernel_rfl
theorem As.setE (ta b : Addr) (n : Int) (old : Value) (W : World) (hb : W.cell? b = some (.int .i64 n)) (ht : W.cell? ta = some old) (hf : W.frozen? ta = false) :
    (ReflectliteValue.set #[.agg #[.pointer (some ⟨1, 30, none⟩), .pointer (some ta), .int .u64 386], .agg #[.pointer (some ⟨1, 30, none⟩), .pointer (some b), .int .u64 130]]).run Tryz.prog W
      = .ok (.tuple #[]) (W.setCell ta (.int .i64 n)) := by
  rw [As.rls]
  simp only [Sem.run_bind, As.partsEa, As.partsE, Result.andThen]
  simp [ReflectliteValue.flagAddr, loadVar, isAgg, underlying, Tryz.underlying30, hb, Result.andThen, As.directE, storeVar, Value.cells, storeCells, Addr.add]
  rw [run_store Tryz.prog W ta _ _ (by rfl)]
  simp [ht, hf]
theorem As.methodKind (h : Value) (w : World) : (Go.method 467 325 (.agg #[h]) "Kind").run Tryz.prog w = .ok (252, h) w := by kernel_rfl
theorem As.methodElem (h : Value) (w : World) : (Go.method 467 325 (.agg #[h]) "Elem").run Tryz.prog w = .ok (264, .agg #[h]) w := by kernel_rfl
theorem As.methodImplements (h : Value) (w : World) : (Go.method 467 325 (.agg #[h]) "Implements").run Tryz.prog w = .ok (265, .agg #[h]) w := by kernel_rfl
theorem As.methodAssignableTo (h : Value) (w : World) : (Go.method 467 325 (.agg #[h]) "AssignableTo").run Tryz.prog w = .ok (262, .agg #[h]) w := by kernel_rfl
theorem As.methodUnwrap (m : Addr) (w : World) : (Go.method 467 291 (.pointer (some m)) "Unwrap").run Tryz.prog w = .ok (257, .pointer (some m)) w := by kernel_rfl

theorem As.noAsM (v : Value) (xT : TypeId) (w : World) : (Instr.typeAssert (.iface 291 v) xT 330 true).run Tryz.prog w = .ok (.tuple #[.nilIface, .bool false]) w := run_typeAssert_lacksB Tryz.underlying330 (by kernel_rfl) (by kernel_rfl) v xT w
theorem As.unwrapM (v : Value) (xT : TypeId) (w : World) : (Instr.typeAssert (.iface 291 v) xT 333 true).run Tryz.prog w = .ok (.tuple #[.iface 291 v, .bool true]) w := run_typeAssert_hasB Tryz.underlying333 (by kernel_rfl) v xT w

set_option maxRecDepth 100000 in
set_option maxHeartbeats 4000000 in
theorem as_chain (m t : Addr) (n : Int) (old : Value) (w : World) (hg : w.cell? ⟨0, 0, none⟩ = some (.iface 325 (.agg #[.pointer (some ⟨1, 271, none⟩)])))
    (hm : w.cell? ⟨m.block, m.off + 1, none⟩ = some (.iface 30 (.int .i64 n))) (ht0 : w.cell? t = some old) (hf0 : w.frozen? t = false) :
    Calls Tryz.prog 220 #[.iface 291 (.pointer (some m)), .iface 302 (.pointer (some t))] w fun ev w' => ev = .returned (.bool true) ∧ ∃ w1, Below w.heap.size w w1 ∧ w1.cell? t = some old ∧ w' = w1.setCell t (.int .i64 n) := by
  have h6 := @run_callFunc_extern Tryz.prog 229 _ (fun args => ReflectliteValue.unpack (args.getD 0 (.tuple #[]))) Tryz.func229 (by kernel_rfl) (by kernel_rfl) (by kernel_rfl) (by kernel_rfl)
  have h7 := @run_callFunc_extern Tryz.prog 230 _ (ReflectliteValue.methodAny (ReflectliteValue.valueError "reflectlite.Value.Type" 0) (fun t _ _ _ => ReflectliteType.toType t)) Tryz.func230 (by kernel_rfl) (by kernel_rfl) (by kernel_rfl) (by kernel_rfl)
  have h8 := @run_callFunc_extern Tryz.prog 231 _ (ReflectliteValue.method (ReflectliteValue.valueError "reflectlite.Value.IsNil" 0) ReflectliteValue.isNil) Tryz.func231 (by kernel_rfl) (by kernel_rfl) (by kernel_rfl) (by kernel_rfl)
  have h27 := @run_callFunc_extern Tryz.prog 252 _ (ReflectliteType.abiMethod fun t => do pure (.int .u8 (← Rtype.kind t))) Tryz.func252 (by kernel_rfl) (by kernel_rfl) (by kernel_rfl) (by kernel_rfl)
  have h37 := @run_callFunc_extern Tryz.prog 264 _ (ReflectliteType.method ReflectliteType.elem) Tryz.func264 (by kernel_rfl) (by kernel_rfl) (by kernel_rfl) (by kernel_rfl)
  have h38 := @run_callFunc_extern Tryz.prog 265 _ (ReflectliteType.relation "Implements" ReflectliteType.implements_) Tryz.func265 (by kernel_rfl) (by kernel_rfl) (by kernel_rfl) (by kernel_rfl)
  have h10 := @run_callFunc_extern Tryz.prog 235 _ ReflectliteType.typeOf Tryz.func235 (by kernel_rfl) (by kernel_rfl) (by kernel_rfl) (by kernel_rfl)
  have h35 := @run_callFunc_extern Tryz.prog 262 _ (ReflectliteType.relation "AssignableTo" ReflectliteType.assignableTo) Tryz.func262 (by kernel_rfl) (by kernel_rfl) (by kernel_rfl) (by kernel_rfl)
  have h11 := @run_callFunc_extern Tryz.prog 236 _ (ReflectliteValue.method (ReflectliteValue.valueError "reflectlite.Value.Elem" 0) ReflectliteValue.elem) Tryz.func236 (by kernel_rfl) (by kernel_rfl) (by kernel_rfl) (by kernel_rfl)
  have h12 := @run_callFunc_extern Tryz.prog 237 _ ReflectliteValue.set Tryz.func237 (by kernel_rfl) (by kernel_rfl) (by kernel_rfl) (by kernel_rfl)
  have tM := As.typeOfM
  have tE := As.typeOfE
  have mA := As.methodAssignableTo
  have mU := As.methodUnwrap
  have aM := As.assignM
  have aE := As.assignE
  have vE := As.valueOfE
  have nA := As.noAsM
  have uW := As.unwrapM
  have f6 := As.valueOfT
  have f7 := As.typeT
  have mK := As.methodKind
  have mE := As.methodElem
  have mI := As.methodImplements
  have kT := As.kindT
  have kE := As.kindE
  have eT := As.elemT
  have iE := As.implementsE
  have hlt : 0 < w.heap.size := by
    rcases Nat.eq_zero_or_pos w.heap.size with h0 | h
    · simp [World.cell?, h0] at hg
    · exact h
  have htl : t.block < w.heap.size := World.block_lt_of_cell? w t ht0
  have hml : m.block < w.heap.size := World.block_lt_of_cell? w ⟨m.block, m.off + 1, none⟩ hm
  have n8 := As.isNilT ⟨w.heap.size, 0, none⟩ t ((w.alloc (.cells #[.pointer (some t)] 302)).alloc (.cells #[.pointer (some ⟨1, 302, none⟩), .pointer (some ⟨w.heap.size, 0, none⟩), .int .u64 150] 311)) (by simp)
  have hg2 : ((w.alloc (.cells #[.pointer (some t)] 302)).alloc (.cells #[.pointer (some ⟨1, 302, none⟩), .pointer (some ⟨w.heap.size, 0, none⟩), .int .u64 150] 311)).cell? ⟨0, 0, none⟩ = some (.iface 325 (.agg #[.pointer (some ⟨1, 271, none⟩)])) := by
    rw [World.cell?_alloc_lt _ _ ⟨0, 0, none⟩ (by simp), World.cell?_alloc_lt _ _ ⟨0, 0, none⟩ hlt]; exact hg
  have b3 : Below w.heap.size w (((w.alloc (.cells #[.pointer (some t)] 302)).alloc (.cells #[.pointer (some ⟨1, 302, none⟩), .pointer (some ⟨w.heap.size, 0, none⟩), .int .u64 150] 311)).alloc (.cells #[.pointer (some ⟨1, 302, none⟩), .pointer (some ⟨w.heap.size, 0, none⟩), .int .u64 150] 311)) := below_alloc (below_alloc (below_alloc (Below.refl _ _) _) _) _
  have b4 : Below w.heap.size w ((((w.alloc (.cells #[.pointer (some t)] 302)).alloc (.cells #[.pointer (some ⟨1, 302, none⟩), .pointer (some ⟨w.heap.size, 0, none⟩), .int .u64 150] 311)).alloc (.cells #[.pointer (some ⟨1, 302, none⟩), .pointer (some ⟨w.heap.size, 0, none⟩), .int .u64 150] 311)).alloc (.cells #[.int .i64 n] 30)) := below_alloc b3 _
  have hm3 := (b3.cell (p := ⟨m.block, m.off + 1, none⟩) hml).trans hm
  have el := As.elemVT ⟨w.heap.size, 0, none⟩ t (((w.alloc (.cells #[.pointer (some t)] 302)).alloc (.cells #[.pointer (some ⟨1, 302, none⟩), .pointer (some ⟨w.heap.size, 0, none⟩), .int .u64 150] 311)).alloc (.cells #[.pointer (some ⟨1, 302, none⟩), .pointer (some ⟨w.heap.size, 0, none⟩), .int .u64 150] 311)) (by rw [World.cell?_alloc_lt _ _ ⟨w.heap.size, 0, none⟩ (by simp; omega)]; simp)
  have st := As.setE t ⟨w.heap.size + 1 + 1 + 1, 0, none⟩ n old ((((w.alloc (.cells #[.pointer (some t)] 302)).alloc (.cells #[.pointer (some ⟨1, 302, none⟩), .pointer (some ⟨w.heap.size, 0, none⟩), .int .u64 150] 311)).alloc (.cells #[.pointer (some ⟨1, 302, none⟩), .pointer (some ⟨w.heap.size, 0, none⟩), .int .u64 150] 311)).alloc (.cells #[.int .i64 n] 30)) (by rw [World.cell?_alloc_at _ _ _ _ (by simp)]; rfl) ((b4.cell htl).trans ht0) ((b4.frozen htl).trans hf0)
  have HB : Hid (Below w.heap.size w ((((w.alloc (.cells #[.pointer (some t)] 302)).alloc (.cells #[.pointer (some ⟨1, 302, none⟩), .pointer (some ⟨w.heap.size, 0, none⟩), .int .u64 150] 311)).alloc (.cells #[.pointer (some ⟨1, 302, none⟩), .pointer (some ⟨w.heap.size, 0, none⟩), .int .u64 150] 311)).alloc (.cells #[.int .i64 n] 30))) := b4
  have HC : Hid (((((w.alloc (.cells #[.pointer (some t)] 302)).alloc (.cells #[.pointer (some ⟨1, 302, none⟩), .pointer (some ⟨w.heap.size, 0, none⟩), .int .u64 150] 311)).alloc (.cells #[.pointer (some ⟨1, 302, none⟩), .pointer (some ⟨w.heap.size, 0, none⟩), .int .u64 150] 311)).alloc (.cells #[.int .i64 n] 30)).cell? t = some old) := (b4.cell htl).trans ht0
  clear b3 b4
  go_enter Tryz.func220, Tryz.ntmps220
  go_wp2
  refine wp_loop_rounds 2 ?_
  rw [rounds_succ]
  go_wp2
  rw [rounds_succ]
  go_wp2
  go_ret
  exact ⟨rfl, _, HB.out, HC.out, rfl⟩
theorem Af.valueOfT (t : Addr) (w : World) : (ReflectliteValue.unpack (.iface 301 (.pointer (some t)))).run Tryz.prog w
    = .ok (.agg #[.pointer (some ⟨1, 301, none⟩), .pointer (some ⟨w.heap.size, 0, none⟩), .int .u64 150]) (w.alloc (.cells #[.pointer (some t)] 301)) := by kernel_rfl
theorem Af.typeT (a : Addr) (w : World) : (ReflectliteValue.methodAny (ReflectliteValue.valueError "reflectlite.Value.Type" 0) (fun t _ _ _ => ReflectliteType.toType t) #[.agg #[.pointer (some ⟨1, 301, none⟩), .pointer (some a), .int .u64 150]]).run Tryz.prog w
    = .ok (.iface 325 (.agg #[.pointer (some ⟨1, 301, none⟩)])) w := by kernel_rfl
theorem Af.kindT (w : World) : ((ReflectliteType.abiMethod fun t => (fun a : Nat => Value.int IntKind.u8 (a : Int)) <$> Rtype.kind t) #[.pointer (some ⟨1, 301, none⟩)]).run Tryz.prog w = .ok (.int .u8 22) w := by kernel_rfl
theorem Af.kindE (w : World) : ((ReflectliteType.abiMethod fun t => (fun a : Nat => Value.int IntKind.u8 (a : Int)) <$> Rtype.kind t) #[.pointer (some ⟨1, 291, none⟩)]).run Tryz.prog w = .ok (.int .u8 22) w := by kernel_rfl
theorem Af.partsT (a : Addr) (w : World) : (ReflectliteValue.parts (.agg #[.pointer (some ⟨1, 301, none⟩), .pointer (some a), .int .u64 150])).run Tryz.prog w = .ok (some (301, a, 150)) w := by kernel_rfl
theorem Af.isNilT (a p : Addr) (W : World) (ha : W.cell? a = some (.pointer (some p))) :
    (ReflectliteValue.method (ReflectliteValue.valueError "reflectlite.Value.IsNil" 0) ReflectliteValue.isNil #[.agg #[.pointer (some ⟨1, 301, none⟩), .pointer (some a), .int .u64 150]]).run Tryz.prog W = .ok (.bool false) W := by
  rw [As.rlm]
  simp only [Sem.run_bind, Af.partsT, Result.andThen]
  simp [ReflectliteValue.isNil, loadVar, isAgg, underlying, Tryz.underlying301, ha, Result.andThen]
theorem Af.elemT (w : World) : (ReflectliteType.method ReflectliteType.elem #[.agg #[.pointer (some ⟨1, 301, none⟩)]]).run Tryz.prog w = .ok (.iface 325 (.agg #[.pointer (some ⟨1, 291, none⟩)])) w := by kernel_rfl
theorem Af.implementsE (w : World) : (ReflectliteType.relation "Implements" ReflectliteType.implements_ #[.agg #[.pointer (some ⟨1, 291, none⟩)], .iface 325 (.agg #[.pointer (some ⟨1, 271, none⟩)])]).run Tryz.prog w = .ok (.bool true) w := by kernel_rfl
theorem Af.typeOfE (v : Value) (w : World) : (ReflectliteType.typeOf #[.iface 291 v]).run Tryz.prog w = .ok (.iface 325 (.agg #[.pointer (some ⟨1, 291, none⟩)])) w := by kernel_rfl
theorem Af.assignE (w : World) : (ReflectliteType.relation "AssignableTo" ReflectliteType.assignableTo #[.agg #[.pointer (some ⟨1, 291, none⟩)], .iface 325 (.agg #[.pointer (some ⟨1, 291, none⟩)])]).run Tryz.prog w = .ok (.bool true) w := by kernel_rfl
theorem Af.valueOfE (m : Addr) (w : World) : (ReflectliteValue.unpack (.iface 291 (.pointer (some m)))).run Tryz.prog w
    = .ok (.agg #[.pointer (some ⟨1, 291, none⟩), .pointer (some ⟨w.heap.size, 0, none⟩), .int .u64 150]) (w.alloc (.cells #[.pointer (some m)] 291)) := by kernel_rfl
theorem Af.elemOfT (w : World) : (Rtype.elem? 301).run Tryz.prog w = .ok (some 291) w := by kernel_rfl
theorem Af.mkE (p : Addr) (w : World) : (ReflectliteValue.mk 291 p ReflectliteValue.flagAddr).run Tryz.prog w = .ok (.agg #[.pointer (some ⟨1, 291, none⟩), .pointer (some p), .int .u64 406]) w := by kernel_rfl
theorem Af.elemVT (a p : Addr) (W : World) (ha : W.cell? a = some (.pointer (some p))) :
    (ReflectliteValue.method (ReflectliteValue.valueError "reflectlite.Value.Elem" 0) ReflectliteValue.elem #[.agg #[.pointer (some ⟨1, 301, none⟩), .pointer (some a), .int .u64 150]]).run Tryz.prog W
      = .ok (.agg #[.pointer (some ⟨1, 291, none⟩), .pointer (some p), .int .u64 406]) W := by
  rw [As.rlm]
  simp only [Sem.run_bind, Af.partsT, Result.andThen]
  simp [ReflectliteValue.elem, loadVar, isAgg, underlying, Tryz.underlying301, ha, Result.andThen, Af.elemOfT, Af.mkE]
theorem Af.partsEa (a : Addr) (w : World) : (ReflectliteValue.parts (.agg #[.pointer (some ⟨1, 291, none⟩), .pointer (some a), .int .u64 406])).run Tryz.prog w = .ok (some (291, a, 406)) w := by kernel_rfl
theorem Af.partsE (a : Addr) (w : World) : (ReflectliteValue.parts (.agg #[.pointer (some ⟨1, 291, none⟩), .pointer (some a), .int .u64 150])).run Tryz.prog w = .ok (some (291, a, 150)) w := by kernel_rfl
theorem Af.directE (w : World) : (Rtype.directlyAssignable 291 291).run Tryz.prog w = .ok true w := by kernel_rfl
theorem Af.sizeE (w : World) : (sizeOf 291).run Tryz.prog w = .ok 1 w := by kernel_rfl
theorem Af.setE (ta b m : Addr) (old : Value) (W : World) (hb : W.cell? b = some (.pointer (some m))) (ht : W.cell? ta = some old) (hf : W.frozen? ta = false) :
    (ReflectliteValue.set #[.agg #[.pointer (some ⟨1, 291, none⟩), .pointer (some ta), .int .u64 406], .agg #[.pointer (some ⟨1, 291, none⟩), .pointer (some b), .int .u64 150]]).run Tryz.prog W
      = .ok (.tuple #[]) (W.setCell ta (.pointer (some m))) := by
  rw [As.rls]
  simp only [Sem.run_bind, Af.partsEa, Af.partsE, Result.andThen]
  simp [ReflectliteValue.flagAddr, loadVar, isAgg, underlying, Tryz.underlying291, hb, Result.andThen, Af.directE, storeVar, Value.cells, storeCells, Addr.add]
  rw [run_store Tryz.prog W ta _ _ (by rfl)]
  simp [ht, hf]
set_option maxRecDepth 100000 in
set_option maxHeartbeats 4000000 in
theorem as_first (m t : Addr) (old : Value) (w : World) (hg : w.cell? ⟨0, 0, none⟩ = some (.iface 325 (.agg #[.pointer (some ⟨1, 271, none⟩)])))
    (ht0 : w.cell? t = some old) (hf0 : w.frozen? t = false) :
    Calls Tryz.prog 220 #[.iface 291 (.pointer (some m)), .iface 301 (.pointer (some t))] w fun ev w' => ev = .returned (.bool true) ∧ ∃ w1, Below w.heap.size w w1 ∧ w1.cell? t = some old ∧ w' = w1.setCell t (.pointer (some m)) := by
  have h6 := @run_callFunc_extern Tryz.prog 229 _ (fun args => ReflectliteValue.unpack (args.getD 0 (.tuple #[]))) Tryz.func229 (by kernel_rfl) (by kernel_rfl) (by kernel_rfl) (by kernel_rfl)
  have h7 := @run_callFunc_extern Tryz.prog 230 _ (ReflectliteValue.methodAny (ReflectliteValue.valueError "reflectlite.Value.Type" 0) (fun t _ _ _ => ReflectliteType.toType t)) Tryz.func230 (by kernel_rfl) (by kernel_rfl) (by kernel_rfl) (by kernel_rfl)
  have h8 := @run_callFunc_extern Tryz.prog 231 _ (ReflectliteValue.method (ReflectliteValue.valueError "reflectlite.Value.IsNil" 0) ReflectliteValue.isNil) Tryz.func231 (by kernel_rfl) (by kernel_rfl) (by kernel_rfl) (by kernel_rfl)
  have h27 := @run_callFunc_extern Tryz.prog 252 _ (ReflectliteType.abiMethod fun t => do pure (.int .u8 (← Rtype.kind t))) Tryz.func252 (by kernel_rfl) (by kernel_rfl) (by kernel_rfl) (by kernel_rfl)
  have h37 := @run_callFunc_extern Tryz.prog 264 _ (ReflectliteType.method ReflectliteType.elem) Tryz.func264 (by kernel_rfl) (by kernel_rfl) (by kernel_rfl) (by kernel_rfl)
  have h38 := @run_callFunc_extern Tryz.prog 265 _ (ReflectliteType.relation "Implements" ReflectliteType.implements_) Tryz.func265 (by kernel_rfl) (by kernel_rfl) (by kernel_rfl) (by kernel_rfl)
  have h10 := @run_callFunc_extern Tryz.prog 235 _ ReflectliteType.typeOf Tryz.func235 (by kernel_rfl) (by kernel_rfl) (by kernel_rfl) (by kernel_rfl)
  have h35 := @run_callFunc_extern Tryz.prog 262 _ (ReflectliteType.relation "AssignableTo" ReflectliteType.assignableTo) Tryz.func262 (by kernel_rfl) (by kernel_rfl) (by kernel_rfl) (by kernel_rfl)
  have h11 := @run_callFunc_extern Tryz.prog 236 _ (ReflectliteValue.method (ReflectliteValue.valueError "reflectlite.Value.Elem" 0) ReflectliteValue.elem) Tryz.func236 (by kernel_rfl) (by kernel_rfl) (by kernel_rfl) (by kernel_rfl)
  have h12 := @run_callFunc_extern Tryz.prog 237 _ ReflectliteValue.set Tryz.func237 (by kernel_rfl) (by kernel_rfl) (by kernel_rfl) (by kernel_rfl)
  have tE := Af.typeOfE
  have mA := As.methodAssignableTo
  have aE := Af.assignE
  have vE := Af.valueOfE
  have f6 := Af.valueOfT
  have f7 := Af.typeT
  have mK := As.methodKind
  have mE := As.methodElem
  have mI := As.methodImplements
  have kT := Af.kindT
  have kE := Af.kindE
  have eT := Af.elemT
  have iE := Af.implementsE
  have hlt : 0 < w.heap.size := by
    rcases Nat.eq_zero_or_pos w.heap.size with h0 | h
    · simp [World.cell?, h0] at hg
    · exact h
  have htl : t.block < w.heap.size := World.block_lt_of_cell? w t ht0
  have n8 := Af.isNilT ⟨w.heap.size, 0, none⟩ t ((w.alloc (.cells #[.pointer (some t)] 301)).alloc (.cells #[.pointer (some ⟨1, 301, none⟩), .pointer (some ⟨w.heap.size, 0, none⟩), .int .u64 150] 311)) (by simp)
  have hg2 : ((w.alloc (.cells #[.pointer (some t)] 301)).alloc (.cells #[.pointer (some ⟨1, 301, none⟩), .pointer (some ⟨w.heap.size, 0, none⟩), .int .u64 150] 311)).cell? ⟨0, 0, none⟩ = some (.iface 325 (.agg #[.pointer (some ⟨1, 271, none⟩)])) := by
    rw [World.cell?_alloc_lt _ _ ⟨0, 0, none⟩ (by simp), World.cell?_alloc_lt _ _ ⟨0, 0, none⟩ hlt]; exact hg
  have b3 : Below w.heap.size w (((w.alloc (.cells #[.pointer (some t)] 301)).alloc (.cells #[.pointer (some ⟨1, 301, none⟩), .pointer (some ⟨w.heap.size, 0, none⟩), .int .u64 150] 311)).alloc (.cells #[.pointer (some ⟨1, 301, none⟩), .pointer (some ⟨w.heap.size, 0, none⟩), .int .u64 150] 311)) := below_alloc (below_alloc (below_alloc (Below.refl _ _) _) _) _
  have b4 : Below w.heap.size w ((((w.alloc (.cells #[.pointer (some t)] 301)).alloc (.cells #[.pointer (some ⟨1, 301, none⟩), .pointer (some ⟨w.heap.size, 0, none⟩), .int .u64 150] 311)).alloc (.cells #[.pointer (some ⟨1, 301, none⟩), .pointer (some ⟨w.heap.size, 0, none⟩), .int .u64 150] 311)).alloc (.cells #[.pointer (some m)] 291)) := below_alloc b3 _
  have el := Af.elemVT ⟨w.heap.size, 0, none⟩ t (((w.alloc (.cells #[.pointer (some t)] 301)).alloc (.cells #[.pointer (some ⟨1, 301, none⟩), .pointer (some ⟨w.heap.size, 0, none⟩), .int .u64 150] 311)).alloc (.cells #[.pointer (some ⟨1, 301, none⟩), .pointer (some ⟨w.heap.size, 0, none⟩), .int .u64 150] 311)) (by rw [World.cell?_alloc_lt _ _ ⟨w.heap.size, 0, none⟩ (by simp; omega)]; simp)
  have st := Af.setE t ⟨w.heap.size + 1 + 1 + 1, 0, none⟩ m old ((((w.alloc (.cells #[.pointer (some t)] 301)).alloc (.cells #[.pointer (some ⟨1, 301, none⟩), .pointer (some ⟨w.heap.size, 0, none⟩), .int .u64 150] 311)).alloc (.cells #[.pointer (some ⟨1, 301, none⟩), .pointer (some ⟨w.heap.size, 0, none⟩), .int .u64 150] 311)).alloc (.cells #[.pointer (some m)] 291)) (by rw [World.cell?_alloc_at _ _ _ _ (by simp)]; rfl) ((b4.cell htl).trans ht0) ((b4.frozen htl).trans hf0)
  have HB : Hid (Below w.heap.size w ((((w.alloc (.cells #[.pointer (some t)] 301)).alloc (.cells #[.pointer (some ⟨1, 301, none⟩), .pointer (some ⟨w.heap.size, 0, none⟩), .int .u64 150] 311)).alloc (.cells #[.pointer (some ⟨1, 301, none⟩), .pointer (some ⟨w.heap.size, 0, none⟩), .int .u64 150] 311)).alloc (.cells #[.pointer (some m)] 291))) := b4
  have HC : Hid (((((w.alloc (.cells #[.pointer (some t)] 301)).alloc (.cells #[.pointer (some ⟨1, 301, none⟩), .pointer (some ⟨w.heap.size, 0, none⟩), .int .u64 150] 311)).alloc (.cells #[.pointer (some ⟨1, 301, none⟩), .pointer (some ⟨w.heap.size, 0, none⟩), .int .u64 150] 311)).alloc (.cells #[.pointer (some m)] 291)).cell? t = some old) := (b4.cell htl).trans ht0
  clear b3 b4
  go_enter Tryz.func220, Tryz.ntmps220
  go_wp2
  refine wp_loop_rounds 1 ?_
  rw [rounds_succ]
  go_wp2
  go_ret
  exact ⟨rfl, _, HB.out, HC.out, rfl⟩
end Go.Proofs.YtjghibdlmmjobaaGreatDoor

namespace Go.Proofs.YtjghibdlmmjobaaGreatDoor
open Go.RowKit

theorem set_far (w : World) (p a : Addr) (v : Value) (h : p.block ≠ a.block) : (w.setCell p v).cell? a = w.cell? a := World.cell?_setCell_other w p a v (fun e => h (by rw [e]))
theorem as_nil (x : Value) (w : World) : Calls Tryz.prog 220 #[.nilIface, x] w fun e w' => e = .returned (.bool false) ∧ w' = w := by
  go_enter Tryz.func220, Tryz.ntmps220
  go_wp2
  go_ret
  exact ⟨rfl, rfl⟩
/-- errors.errorType holds the handle of 'error'. -/
def Laid (w : World) : Prop := w.cell? ⟨0, 0, none⟩ = some (.iface 325 (.agg #[.pointer (some ⟨1, 271, none⟩)]))
theorem Laid.lt {w : World} (h : Laid w) : 0 < w.heap.size := World.block_lt_of_cell? w _ h
theorem Laid.below {w w1 : World} (h : Laid w) (hb : Below w.heap.size w w1) : Laid w1 := (hb.cell (p := ⟨0, 0, none⟩) h.lt).trans h
/-- An error as 'verify' makes it: none, or a fault. -/
def Err (w : World) (v : Value) (pc e : Int) : Prop := (v = .nilIface ∧ pc = 0 ∧ e = 0) ∨ ∃ m : Addr, v = .iface 291 (.pointer (some m)) ∧ w.cell? m = some (.int .i64 pc) ∧ w.cell? ⟨m.block, m.off + 1, none⟩ = some (.iface 30 (.int .i64 e))
theorem Err.below {w w1 : World} {v : Value} {pc e : Int} (h : Err w v pc e) (hb : Below w.heap.size w w1) : Err w1 v pc e := by
  rcases h with h | ⟨m, h1, h2, h3⟩
  · exact .inl h
  · exact .inr ⟨m, h1, (hb.cell (World.block_lt_of_cell? w _ h2)).trans h2, (hb.cell (p := ⟨m.block, m.off + 1, none⟩) (World.block_lt_of_cell? w ⟨m.block, m.off + 1, none⟩ h3)).trans h3⟩
theorem told_any (v : Value) (pc n : Int) (w : World) (hg : Laid w) (h : Err w v pc n) :
    Calls Tryz.prog 201 #[v] w fun e w' => e = .returned (.tuple #[.int .i64 pc, .int .i64 n]) ∧ Below w.heap.size w w' := by
  have b1 : Below w.heap.size w (w.alloc (.cells #[.pointer none] 291)) := below_alloc (Below.refl _ _) _
  have b2 := below_alloc b1 (.cells #[.int .i64 0] 30)
  rcases h with ⟨rfl, rfl, rfl⟩ | ⟨m, rfl, h2, h3⟩
  · have HB := Lib.hid b2
    clear b1 b2
    go_enter Tryz.func201, Tryz.ntmps201
    go_wp2_with (go_at_call 220; refine (as_nil _ _).mono ?_; rintro e w' ⟨rfl, rfl⟩)
    go_ret2
    exact ⟨rfl, HB.out⟩
  · have hm := World.block_lt_of_cell? w _ h2
    have HG := Lib.hid hg
    have A1 := Lib.hid (as_first m ⟨w.heap.size, 0, none⟩ (.pointer none) ((w.alloc (.cells #[.pointer none] 291)).alloc (.cells #[.int .i64 0] 30)) (hg.below b2) (Lib.cell?_alloc_some _ ((blk_cell (blk_new w _) 0).trans rfl)) (by simp))
    have HM := Lib.hid h3
    have HP := Lib.hid h2
    have B2 := Lib.hid b2
    clear hg h2 h3 b1 b2
    go_enter Tryz.func201, Tryz.ntmps201
    go_wp2_with fail
    refine A1.out.mono ?_
    rintro e w' ⟨rfl, w1, hB, hc, rfl⟩
    have B3 := below_trans B2.out hB
    have k1 := Below.setCell B3 (p := ⟨w.heap.size, 0, none⟩) (by simp) (.pointer (some m))
    have e0 : (w1.setCell ⟨w.heap.size, 0, none⟩ (.pointer (some m))).cell? ⟨w.heap.size + 1, 0, none⟩ = some (.int .i64 0) := by
      rw [set_far _ _ _ _ (by simp)]
      rw [hB.cell (p := ⟨w.heap.size + 1, 0, none⟩) (by simp)]
      simp
    have f0 : (w1.setCell ⟨w.heap.size, 0, none⟩ (.pointer (some m))).frozen? ⟨w.heap.size + 1, 0, none⟩ = false := by
      rw [World.frozen?_setCell]
      rw [hB.frozen (p := ⟨w.heap.size + 1, 0, none⟩) (by simp)]
      simp
    have c0 : (w1.setCell ⟨w.heap.size, 0, none⟩ (.pointer (some m))).cell? ⟨w.heap.size, 0, none⟩ = some (.pointer (some m)) := World.cell?_setCell_same (h := hc) ..
    have hmw : w1.cell? ⟨m.block, m.off + 1, none⟩ = some (.iface 30 (.int .i64 n)) := by
      have h := (B2.out.cell (p := ⟨m.block, m.off + 1, none⟩) hm).trans HM.out
      rw [hB.cell (p := ⟨m.block, m.off + 1, none⟩) (by simp; omega)]; exact h
    have hm2 : (w1.setCell ⟨w.heap.size, 0, none⟩ (.pointer (some m))).cell? ⟨m.block, m.off + 1, none⟩ = some (.iface 30 (.int .i64 n)) := by
      rw [set_far _ _ _ _ (by simp; omega)]; exact hmw
    have hl1 : Laid (w1.setCell ⟨w.heap.size, 0, none⟩ (.pointer (some m))) := (HG.out.below k1)
    have A2 := Lib.hid (as_chain m ⟨w.heap.size + 1, 0, none⟩ n (.int .i64 0) _ hl1 hm2 e0 f0)
    have HP1 := Lib.hid ((k1.cell hm).trans HP.out)
    have K1 := Lib.hid k1
    have C0 := Lib.hid c0
    have hz : w.heap.size + 1 < w1.heap.size := by have := hB.size; simp at this; omega
    clear e0 f0 c0 k1 hB hc hmw hm2 hl1 B3
    go_wp2_with fail
    refine A2.out.mono ?_
    rintro e w' ⟨rfl, w2, hB2, hc2, rfl⟩
    have b3 := below_trans K1.out hB2
    have p0 : (w2.setCell ⟨w.heap.size + 1, 0, none⟩ (.int .i64 n)).cell? ⟨w.heap.size, 0, none⟩ = some (.pointer (some m)) := by
      rw [set_far _ _ _ _ (by simp), hB2.cell (p := ⟨w.heap.size, 0, none⟩) (by simp; omega)]; exact C0.out
    have p1 : (w2.setCell ⟨w.heap.size + 1, 0, none⟩ (.int .i64 n)).cell? ⟨w.heap.size + 1, 0, none⟩ = some (.int .i64 n) := World.cell?_setCell_same (h := hc2) ..
    have p2 : (w2.setCell ⟨w.heap.size + 1, 0, none⟩ (.int .i64 n)).cell? m = some (.int .i64 pc) := by
      rw [set_far _ _ _ _ (by simp; omega)]; exact (b3.cell hm).trans HP.out
    have B5 := Lib.hid (Below.setCell b3 (p := ⟨w.heap.size + 1, 0, none⟩) (by simp) (.int .i64 n))
    clear b3 hB2 hc2
    go_wp2_with fail
    go_quiet (fail)
    go_wp2_with fail
    go_ret2
    exact ⟨rfl, below_drew B5.out _⟩
end Go.Proofs.YtjghibdlmmjobaaGreatDoor

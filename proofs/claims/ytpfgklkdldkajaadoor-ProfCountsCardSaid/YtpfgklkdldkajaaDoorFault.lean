/- errors.As at the target *Errno, walked: an error that wraps an Errno one deep (verify's 'fault') tells it. Condition: the variable errors.errorType holds the handle of 'error'. -/
import Derived.Test.YtpfgklkdldkajaaDoorIns
import Derived.WalkKit
import Derived.WalkSpells
import Derived.WalkLawsBesides
import Derived.LaidEql
import Derived.Lib.Hide
import Derived.Stop.Asserts
import Derived.RowKitTokens
namespace Go.Proofs.YtpfgklkdldkajaaDoor
open Go.RowKit Go.Extern.Stop Go.Stop Go.Extern

theorem As.valueOfT (t : Addr) (w : World) : (ReflectliteValue.unpack (.iface 135 (.pointer (some t)))).run Tryd.prog w
    = .ok (.agg #[.pointer (some ⟨1, 135, none⟩), .pointer (some ⟨w.heap.size, 0, none⟩), .int .u64 150]) (w.alloc (.cells #[.pointer (some t)] 135)) := by kernel_rfl
theorem As.typeT (a : Addr) (w : World) : (ReflectliteValue.methodAny (ReflectliteValue.valueError "reflectlite.Value.Type" 0) (fun t _ _ _ => ReflectliteType.toType t) #[.agg #[.pointer (some ⟨1, 135, none⟩), .pointer (some a), .int .u64 150]]).run Tryd.prog w
    = .ok (.iface 198 (.agg #[.pointer (some ⟨1, 135, none⟩)])) w := by kernel_rfl
theorem As.kindT (w : World) : ((ReflectliteType.abiMethod fun t => (fun a : Nat => Value.int IntKind.u8 (a : Int)) <$> Rtype.kind t) #[.pointer (some ⟨1, 135, none⟩)]).run Tryd.prog w = .ok (.int .u8 22) w := by kernel_rfl
theorem As.kindE (w : World) : ((ReflectliteType.abiMethod fun t => (fun a : Nat => Value.int IntKind.u8 (a : Int)) <$> Rtype.kind t) #[.pointer (some ⟨1, 33, none⟩)]).run Tryd.prog w = .ok (.int .u8 2) w := by kernel_rfl
theorem As.rlm (z : Sem Value) (f : TypeId → Addr → Nat → Nat → Sem Value) (v : Value) :
    ReflectliteValue.method z f #[v] = (do match ← ReflectliteValue.parts v with | none => z | some (t, a, fl) => f t a fl (fl % 32)) := rfl
theorem As.partsT (a : Addr) (w : World) : (ReflectliteValue.parts (.agg #[.pointer (some ⟨1, 135, none⟩), .pointer (some a), .int .u64 150])).run Tryd.prog w = .ok (some (135, a, 150)) w := by kernel_rfl
theorem As.isNilT (a p : Addr) (W : World) (ha : W.cell? a = some (.pointer (some p))) :
    (ReflectliteValue.method (ReflectliteValue.valueError "reflectlite.Value.IsNil" 0) ReflectliteValue.isNil #[.agg #[.pointer (some ⟨1, 135, none⟩), .pointer (some a), .int .u64 150]]).run Tryd.prog W = .ok (.bool false) W := by
  rw [As.rlm]
  simp only [Sem.run_bind, As.partsT, Result.andThen]
  simp [ReflectliteValue.isNil, loadVar, isAgg, underlying, Tryd.underlying135, ha, Result.andThen]
theorem As.elemT (w : World) : (ReflectliteType.method ReflectliteType.elem #[.agg #[.pointer (some ⟨1, 135, none⟩)]]).run Tryd.prog w = .ok (.iface 198 (.agg #[.pointer (some ⟨1, 33, none⟩)])) w := by kernel_rfl
theorem As.implementsE (w : World) : (ReflectliteType.relation "Implements" ReflectliteType.implements_ #[.agg #[.pointer (some ⟨1, 33, none⟩)], .iface 198 (.agg #[.pointer (some ⟨1, 88, none⟩)])]).run Tryd.prog w = .ok (.bool true) w := by kernel_rfl
theorem As.typeOfM (v : Value) (w : World) : (ReflectliteType.typeOf #[.iface 124 v]).run Tryd.prog w = .ok (.iface 198 (.agg #[.pointer (some ⟨1, 124, none⟩)])) w := by kernel_rfl
theorem As.typeOfE (v : Value) (w : World) : (ReflectliteType.typeOf #[.iface 33 v]).run Tryd.prog w = .ok (.iface 198 (.agg #[.pointer (some ⟨1, 33, none⟩)])) w := by kernel_rfl
theorem As.assignM (w : World) : (ReflectliteType.relation "AssignableTo" ReflectliteType.assignableTo #[.agg #[.pointer (some ⟨1, 124, none⟩)], .iface 198 (.agg #[.pointer (some ⟨1, 33, none⟩)])]).run Tryd.prog w = .ok (.bool false) w := by kernel_rfl
theorem As.assignE (w : World) : (ReflectliteType.relation "AssignableTo" ReflectliteType.assignableTo #[.agg #[.pointer (some ⟨1, 33, none⟩)], .iface 198 (.agg #[.pointer (some ⟨1, 33, none⟩)])]).run Tryd.prog w = .ok (.bool true) w := by kernel_rfl
theorem As.valueOfE (n : Int) (w : World) : (ReflectliteValue.unpack (.iface 33 (.int .i64 n))).run Tryd.prog w
    = .ok (.agg #[.pointer (some ⟨1, 33, none⟩), .pointer (some ⟨w.heap.size, 0, none⟩), .int .u64 130]) (w.alloc (.cells #[.int .i64 n] 33)) := by kernel_rfl
theorem As.elemOfT (w : World) : (Rtype.elem? 135).run Tryd.prog w = .ok (some 33) w := by kernel_rfl
theorem As.mkE (p : Addr) (w : World) : (ReflectliteValue.mk 33 p ReflectliteValue.flagAddr).run Tryd.prog w = .ok (.agg #[.pointer (some ⟨1, 33, none⟩), .pointer (some p), .int .u64 386]) w := by kernel_rfl
theorem As.elemVT (a p : Addr) (W : World) (ha : W.cell? a = some (.pointer (some p))) :
    (ReflectliteValue.method (ReflectliteValue.valueError "reflectlite.Value.Elem" 0) ReflectliteValue.elem #[.agg #[.pointer (some ⟨1, 135, none⟩), .pointer (some a), .int .u64 150]]).run Tryd.prog W
      = .ok (.agg #[.pointer (some ⟨1, 33, none⟩), .pointer (some p), .int .u64 386]) W := by
  rw [As.rlm]
  simp only [Sem.run_bind, As.partsT, Result.andThen]
  simp [ReflectliteValue.elem, loadVar, isAgg, underlying, Tryd.underlying135, ha, Result.andThen, As.elemOfT, As.mkE]
theorem As.rls (v x : Value) : ReflectliteValue.set #[v, x] = (do
    let (some (dst, a, fl), some (src, b, _)) := (← ReflectliteValue.parts v, ← ReflectliteValue.parts x)
      | unsupported (.noEntry "extern/(internal/reflectlite.Value).Set.zeroValue")
    if fl / ReflectliteValue.flagAddr % 2 == 0 then unsupported (.noEntry "extern/(internal/reflectlite.Value).Set.unaddressable")
    let val ← loadVar src b
    if ← Rtype.directlyAssignable dst src then storeVar dst a val
    else if ← Rtype.implements dst src then
      if (← Rtype.kind src) == 20 then
        match val with
        | .nilIface => unsupported (.noEntry "extern/reflectlite: a nil value of one interface type handed on as a value of another")
        | _ => storeVar dst a val
      else storeVar dst a (.iface src val)
    else panicString ("reflectlite.Set: value of type " ++ (← Rtype.spelt src) ++ " is not assignable to type " ++ (← Rtype.spelt dst))
    pure (.tuple #[])) := rfl
theorem As.partsEa (a : Addr) (w : World) : (ReflectliteValue.parts (.agg #[.pointer (some ⟨1, 33, none⟩), .pointer (some a), .int .u64 386])).run Tryd.prog w = .ok (some (33, a, 386)) w := by kernel_rfl
theorem As.partsE (a : Addr) (w : World) : (ReflectliteValue.parts (.agg #[.pointer (some ⟨1, 33, none⟩), .pointer (some a), .int .u64 130])).run Tryd.prog w = .ok (some (33, a, 130)) w := by kernel_rfl
theorem As.directE (w : World) : (Rtype.directlyAssignable 33 33).run Tryd.prog w = .ok true w := by kernel_rfl
theorem As.sizeE (w : World) : (sizeOf 33).run Tryd.prog w = .ok 1 w := by kernel_rfl
theorem As.setE (ta b : Addr) (n : Int) (old : Value) (W : World) (hb : W.cell? b = some (.int .i64 n)) (ht : W.cell? ta = some old) (hf : W.frozen? ta = false) :
    (ReflectliteValue.set #[.agg #[.pointer (some ⟨1, 33, none⟩), .pointer (some ta), .int .u64 386], .agg #[.pointer (some ⟨1, 33, none⟩), .pointer (some b), .int .u64 130]]).run Tryd.prog W
      = .ok (.tuple #[]) (W.setCell ta (.int .i64 n)) := by
  rw [As.rls]
  simp only [Sem.run_bind, As.partsEa, As.partsE, Result.andThen]
  simp [ReflectliteValue.flagAddr, loadVar, isAgg, underlying, Tryd.underlying33, hb, Result.andThen, As.directE, storeVar, Value.cells, storeCells, Addr.add]
  rw [run_store Tryd.prog W ta _ _ (by rfl)]
  simp [ht, hf]
theorem As.methodKind (h : Value) (w : World) : (Go.method 343 198 (.agg #[h]) "Kind").run Tryd.prog w = .ok (140, h) w := by kernel_rfl
theorem As.methodElem (h : Value) (w : World) : (Go.method 343 198 (.agg #[h]) "Elem").run Tryd.prog w = .ok (152, .agg #[h]) w := by kernel_rfl
theorem As.methodImplements (h : Value) (w : World) : (Go.method 343 198 (.agg #[h]) "Implements").run Tryd.prog w = .ok (153, .agg #[h]) w := by kernel_rfl
theorem As.methodAssignableTo (h : Value) (w : World) : (Go.method 343 198 (.agg #[h]) "AssignableTo").run Tryd.prog w = .ok (150, .agg #[h]) w := by kernel_rfl
theorem As.methodUnwrap (m : Addr) (w : World) : (Go.method 343 124 (.pointer (some m)) "Unwrap").run Tryd.prog w = .ok (145, .pointer (some m)) w := by kernel_rfl

theorem As.noAsM (v : Value) (xT : TypeId) (w : World) : (Instr.typeAssert (.iface 124 v) xT 203 true).run Tryd.prog w = .ok (.tuple #[.nilIface, .bool false]) w := run_typeAssert_lacksB Tryd.underlying203 (by kernel_rfl) (by kernel_rfl) v xT w
theorem As.unwrapM (v : Value) (xT : TypeId) (w : World) : (Instr.typeAssert (.iface 124 v) xT 206 true).run Tryd.prog w = .ok (.tuple #[.iface 124 v, .bool true]) w := run_typeAssert_hasB Tryd.underlying206 (by kernel_rfl) v xT w

set_option maxRecDepth 100000 in
set_option maxHeartbeats 4000000 in
theorem as_chain (m t : Addr) (n : Int) (old : Value) (w : World) (hg : w.cell? ⟨0, 0, none⟩ = some (.iface 198 (.agg #[.pointer (some ⟨1, 88, none⟩)])))
    (hm : w.cell? ⟨m.block, m.off + 1, none⟩ = some (.iface 33 (.int .i64 n))) (ht0 : w.cell? t = some old) (hf0 : w.frozen? t = false) :
    Calls Tryd.prog 71 #[.iface 124 (.pointer (some m)), .iface 135 (.pointer (some t))] w fun ev w' => ev = .returned (.bool true) ∧ ∃ w1, Below w.heap.size w w1 ∧ w1.cell? t = some old ∧ w' = w1.setCell t (.int .i64 n) := by
  have h6 := @run_callFunc_extern Tryd.prog 101 _ (fun args => ReflectliteValue.unpack (args.getD 0 (.tuple #[]))) Tryd.func101 (by kernel_rfl) (by kernel_rfl) (by kernel_rfl) (by kernel_rfl)
  have h7 := @run_callFunc_extern Tryd.prog 102 _ (ReflectliteValue.methodAny (ReflectliteValue.valueError "reflectlite.Value.Type" 0) (fun t _ _ _ => ReflectliteType.toType t)) Tryd.func102 (by kernel_rfl) (by kernel_rfl) (by kernel_rfl) (by kernel_rfl)
  have h8 := @run_callFunc_extern Tryd.prog 103 _ (ReflectliteValue.method (ReflectliteValue.valueError "reflectlite.Value.IsNil" 0) ReflectliteValue.isNil) Tryd.func103 (by kernel_rfl) (by kernel_rfl) (by kernel_rfl) (by kernel_rfl)
  have h27 := @run_callFunc_extern Tryd.prog 140 _ (ReflectliteType.abiMethod fun t => do pure (.int .u8 (← Rtype.kind t))) Tryd.func140 (by kernel_rfl) (by kernel_rfl) (by kernel_rfl) (by kernel_rfl)
  have h37 := @run_callFunc_extern Tryd.prog 152 _ (ReflectliteType.method ReflectliteType.elem) Tryd.func152 (by kernel_rfl) (by kernel_rfl) (by kernel_rfl) (by kernel_rfl)
  have h38 := @run_callFunc_extern Tryd.prog 153 _ (ReflectliteType.relation "Implements" ReflectliteType.implements_) Tryd.func153 (by kernel_rfl) (by kernel_rfl) (by kernel_rfl) (by kernel_rfl)
  have h10 := @run_callFunc_extern Tryd.prog 120 _ ReflectliteType.typeOf Tryd.func120 (by kernel_rfl) (by kernel_rfl) (by kernel_rfl) (by kernel_rfl)
  have h35 := @run_callFunc_extern Tryd.prog 150 _ (ReflectliteType.relation "AssignableTo" ReflectliteType.assignableTo) Tryd.func150 (by kernel_rfl) (by kernel_rfl) (by kernel_rfl) (by kernel_rfl)
  have h11 := @run_callFunc_extern Tryd.prog 121 _ (ReflectliteValue.method (ReflectliteValue.valueError "reflectlite.Value.Elem" 0) ReflectliteValue.elem) Tryd.func121 (by kernel_rfl) (by kernel_rfl) (by kernel_rfl) (by kernel_rfl)
  have h12 := @run_callFunc_extern Tryd.prog 122 _ ReflectliteValue.set Tryd.func122 (by kernel_rfl) (by kernel_rfl) (by kernel_rfl) (by kernel_rfl)
  have tM := As.typeOfM
  have tE := As.typeOfE
  have mA := As.methodAssignableTo
  have mU := As.methodUnwrap
  have aM := As.assignM
  have aE := As.assignE
  have vE := As.valueOfE
  have nA := As.noAsM
  have uW := As.unwrapM
  have f6 := As.valueOfT
  have f7 := As.typeT
  have mK := As.methodKind
  have mE := As.methodElem
  have mI := As.methodImplements
  have kT := As.kindT
  have kE := As.kindE
  have eT := As.elemT
  have iE := As.implementsE
  have hlt : 0 < w.heap.size := by
    rcases Nat.eq_zero_or_pos w.heap.size with h0 | h
    · simp [World.cell?, h0] at hg
    · exact h
  have htl : t.block < w.heap.size := World.block_lt_of_cell? w t ht0
  have hml : m.block < w.heap.size := World.block_lt_of_cell? w ⟨m.block, m.off + 1, none⟩ hm
  have n8 := As.isNilT ⟨w.heap.size, 0, none⟩ t ((w.alloc (.cells #[.pointer (some t)] 135)).alloc (.cells #[.pointer (some ⟨1, 135, none⟩), .pointer (some ⟨w.heap.size, 0, none⟩), .int .u64 150] 172)) (by simp)
  have hg2 : ((w.alloc (.cells #[.pointer (some t)] 135)).alloc (.cells #[.pointer (some ⟨1, 135, none⟩), .pointer (some ⟨w.heap.size, 0, none⟩), .int .u64 150] 172)).cell? ⟨0, 0, none⟩ = some (.iface 198 (.agg #[.pointer (some ⟨1, 88, none⟩)])) := by
    rw [World.cell?_alloc_lt _ _ ⟨0, 0, none⟩ (by simp), World.cell?_alloc_lt _ _ ⟨0, 0, none⟩ hlt]; exact hg
  have b3 : Below w.heap.size w (((w.alloc (.cells #[.pointer (some t)] 135)).alloc (.cells #[.pointer (some ⟨1, 135, none⟩), .pointer (some ⟨w.heap.size, 0, none⟩), .int .u64 150] 172)).alloc (.cells #[.pointer (some ⟨1, 135, none⟩), .pointer (some ⟨w.heap.size, 0, none⟩), .int .u64 150] 172)) := below_alloc (below_alloc (below_alloc (Below.refl _ _) _) _) _
  have b4 : Below w.heap.size w ((((w.alloc (.cells #[.pointer (some t)] 135)).alloc (.cells #[.pointer (some ⟨1, 135, none⟩), .pointer (some ⟨w.heap.size, 0, none⟩), .int .u64 150] 172)).alloc (.cells #[.pointer (some ⟨1, 135, none⟩), .pointer (some ⟨w.heap.size, 0, none⟩), .int .u64 150] 172)).alloc (.cells #[.int .i64 n] 33)) := below_alloc b3 _
  have hm3 := (b3.cell (p := ⟨m.block, m.off + 1, none⟩) hml).trans hm
  have el := As.elemVT ⟨w.heap.size, 0, none⟩ t (((w.alloc (.cells #[.pointer (some t)] 135)).alloc (.cells #[.pointer (some ⟨1, 135, none⟩), .pointer (some ⟨w.heap.size, 0, none⟩), .int .u64 150] 172)).alloc (.cells #[.pointer (some ⟨1, 135, none⟩), .pointer (some ⟨w.heap.size, 0, none⟩), .int .u64 150] 172)) (by rw [World.cell?_alloc_lt _ _ ⟨w.heap.size, 0, none⟩ (by simp; omega)]; simp)
  have st := As.setE t ⟨w.heap.size + 1 + 1 + 1, 0, none⟩ n old ((((w.alloc (.cells #[.pointer (some t)] 135)).alloc (.cells #[.pointer (some ⟨1, 135, none⟩), .pointer (some ⟨w.heap.size, 0, none⟩), .int .u64 150] 172)).alloc (.cells #[.pointer (some ⟨1, 135, none⟩), .pointer (some ⟨w.heap.size, 0, none⟩), .int .u64 150] 172)).alloc (.cells #[.int .i64 n] 33)) (by rw [World.cell?_alloc_at _ _ _ _ (by simp)]; rfl) ((b4.cell htl).trans ht0) ((b4.frozen htl).trans hf0)
  have HB : Hid (Below w.heap.size w ((((w.alloc (.cells #[.pointer (some t)] 135)).alloc (.cells #[.pointer (some ⟨1, 135, none⟩), .pointer (some ⟨w.heap.size, 0, none⟩), .int .u64 150] 172)).alloc (.cells #[.pointer (some ⟨1, 135, none⟩), .pointer (some ⟨w.heap.size, 0, none⟩), .int .u64 150] 172)).alloc (.cells #[.int .i64 n] 33))) := b4
  have HC : Hid (((((w.alloc (.cells #[.pointer (some t)] 135)).alloc (.cells #[.pointer (some ⟨1, 135, none⟩), .pointer (some ⟨w.heap.size, 0, none⟩), .int .u64 150] 172)).alloc (.cells #[.pointer (some ⟨1, 135, none⟩), .pointer (some ⟨w.heap.size, 0, none⟩), .int .u64 150] 172)).alloc (.cells #[.int .i64 n] 33)).cell? t = some old) := (b4.cell htl).trans ht0
  clear b3 b4
  go_enter Tryd.func71, Tryd.ntmps71
  go_wp2
  refine wp_loop_rounds 2 ?_
  rw [rounds_succ]
  go_wp2
  rw [rounds_succ]
  go_wp2
  go_ret
  exact ⟨rfl, _, HB.out, HC.out, rfl⟩
theorem Af.valueOfT (t : Addr) (w : World) : (ReflectliteValue.unpack (.iface 134 (.pointer (some t)))).run Tryd.prog w
    = .ok (.agg #[.pointer (some ⟨1, 134, none⟩), .pointer (some ⟨w.heap.size, 0, none⟩), .int .u64 150]) (w.alloc (.cells #[.pointer (some t)] 134)) := by kernel_rfl
theorem Af.typeT (a : Addr) (w : World) : (ReflectliteValue.methodAny (ReflectliteValue.valueError "reflectlite.Value.Type" 0) (fun t _ _ _ => ReflectliteType.toType t) #[.agg #[.pointer (some ⟨1, 134, none⟩), .pointer (some a), .int .u64 150]]).run Tryd.prog w
    = .ok (.iface 198 (.agg #[.pointer (some ⟨1, 134, none⟩)])) w := by kernel_rfl
theorem Af.kindT (w : World) : ((ReflectliteType.abiMethod fun t => (fun a : Nat => Value.int IntKind.u8 (a : Int)) <$> Rtype.kind t) #[.pointer (some ⟨1, 134, none⟩)]).run Tryd.prog w = .ok (.int .u8 22) w := by kernel_rfl
theorem Af.kindE (w : World) : ((ReflectliteType.abiMethod fun t => (fun a : Nat => Value.int IntKind.u8 (a : Int)) <$> Rtype.kind t) #[.pointer (some ⟨1, 124, none⟩)]).run Tryd.prog w = .ok (.int .u8 22) w := by kernel_rfl
theorem Af.partsT (a : Addr) (w : World) : (ReflectliteValue.parts (.agg #[.pointer (some ⟨1, 134, none⟩), .pointer (some a), .int .u64 150])).run Tryd.prog w = .ok (some (134, a, 150)) w := by kernel_rfl
theorem Af.isNilT (a p : Addr) (W : World) (ha : W.cell? a = some (.pointer (some p))) :
    (ReflectliteValue.method (ReflectliteValue.valueError "reflectlite.Value.IsNil" 0) ReflectliteValue.isNil #[.agg #[.pointer (some ⟨1, 134, none⟩), .pointer (some a), .int .u64 150]]).run Tryd.prog W = .ok (.bool false) W := by
  rw [As.rlm]
  simp only [Sem.run_bind, Af.partsT, Result.andThen]
  simp [ReflectliteValue.isNil, loadVar, isAgg, underlying, Tryd.underlying134, ha, Result.andThen]
theorem Af.elemT (w : World) : (ReflectliteType.method ReflectliteType.elem #[.agg #[.pointer (some ⟨1, 134, none⟩)]]).run Tryd.prog w = .ok (.iface 198 (.agg #[.pointer (some ⟨1, 124, none⟩)])) w := by kernel_rfl
theorem Af.implementsE (w : World) : (ReflectliteType.relation "Implements" ReflectliteType.implements_ #[.agg #[.pointer (some ⟨1, 124, none⟩)], .iface 198 (.agg #[.pointer (some ⟨1, 88, none⟩)])]).run Tryd.prog w = .ok (.bool true) w := by kernel_rfl
theorem Af.typeOfE (v : Value) (w : World) : (ReflectliteType.typeOf #[.iface 124 v]).run Tryd.prog w = .ok (.iface 198 (.agg #[.pointer (some ⟨1, 124, none⟩)])) w := by kernel_rfl
theorem Af.assignE (w : World) : (ReflectliteType.relation "AssignableTo" ReflectliteType.assignableTo #[.agg #[.pointer (some ⟨1, 124, none⟩)], .iface 198 (.agg #[.pointer (some ⟨1, 124, none⟩)])]).run Tryd.prog w = .ok (.bool true) w := by kernel_rfl
theorem Af.valueOfE (m : Addr) (w : World) : (ReflectliteValue.unpack (.iface 124 (.pointer (some m)))).run Tryd.prog w
    = .ok (.agg #[.pointer (some ⟨1, 124, none⟩), .pointer (some ⟨w.heap.size, 0, none⟩), .int .u64 150]) (w.alloc (.cells #[.pointer (some m)] 124)) := by kernel_rfl
theorem Af.elemOfT (w : World) : (Rtype.elem? 134).run Tryd.prog w = .ok (some 124) w := by kernel_rfl
theorem Af.mkE (p : Addr) (w : World) : (ReflectliteValue.mk 124 p ReflectliteValue.flagAddr).run Tryd.prog w = .ok (.agg #[.pointer (some ⟨1, 124, none⟩), .pointer (some p), .int .u64 406]) w := by kernel_rfl
theorem Af.elemVT (a p : Addr) (W : World) (ha : W.cell? a = some (.pointer (some p))) :
    (ReflectliteValue.method (ReflectliteValue.valueError "reflectlite.Value.Elem" 0) ReflectliteValue.elem #[.agg #[.pointer (some ⟨1, 134, none⟩), .pointer (some a), .int .u64 150]]).run Tryd.prog W
      = .ok (.agg #[.pointer (some ⟨1, 124, none⟩), .pointer (some p), .int .u64 406]) W := by
  rw [As.rlm]
  simp only [Sem.run_bind, Af.partsT, Result.andThen]
  simp [ReflectliteValue.elem, loadVar, isAgg, underlying, Tryd.underlying134, ha, Result.andThen, Af.elemOfT, Af.mkE]
theorem Af.partsEa (a : Addr) (w : World) : (ReflectliteValue.parts (.agg #[.pointer (some ⟨1, 124, none⟩), .pointer (some a), .int .u64 406])).run Tryd.prog w = .ok (some (124, a, 406)) w := by kernel_rfl
theorem Af.partsE (a : Addr) (w : World) : (ReflectliteValue.parts (.agg #[.pointer (some ⟨1, 124, none⟩), .pointer (some a), .int .u64 150])).run Tryd.prog w = .ok (some (124, a, 150)) w := by kernel_rfl
theorem Af.directE (w : World) : (Rtype.directlyAssignable 124 124).run Tryd.prog w = .ok true w := by kernel_rfl
theorem Af.sizeE (w : World) : (sizeOf 124).run Tryd.prog w = .ok 1 w := by kernel_rfl
theorem Af.setE (ta b m : Addr) (old : Value) (W : World) (hb : W.cell? b = some (.pointer (some m))) (ht : W.cell? ta = some old) (hf : W.frozen? ta = false) :
    (ReflectliteValue.set #[.agg #[.pointer (some ⟨1, 124, none⟩), .pointer (some ta), .int .u64 406], .agg #[.pointer (some ⟨1, 124, none⟩), .pointer (some b), .int .u64 150]]).run Tryd.prog W
      = .ok (.tuple #[]) (W.setCell ta (.pointer (some m))) := by
  rw [As.rls]
  simp only [Sem.run_bind, Af.partsEa, Af.partsE, Result.andThen]
  simp [ReflectliteValue.flagAddr, loadVar, isAgg, underlying, Tryd.underlying124, hb, Result.andThen, Af.directE, storeVar, Value.cells, storeCells, Addr.add]
  rw [run_store Tryd.prog W ta _ _ (by rfl)]
  simp [ht, hf]
set_option maxRecDepth 100000 in
set_option maxHeartbeats 4000000 in
theorem as_first (m t : Addr) (old : Value) (w : World) (hg : w.cell? ⟨0, 0, none⟩ = some (.iface 198 (.agg #[.pointer (some ⟨1, 88, none⟩)])))
    (ht0 : w.cell? t = some old) (hf0 : w.frozen? t = false) :
    Calls Tryd.prog 71 #[.iface 124 (.pointer (some m)), .iface 134 (.pointer (some t))] w fun ev w' => ev = .returned (.bool true) ∧ ∃ w1, Below w.heap.size w w1 ∧ w1.cell? t = some old ∧ w' = w1.setCell t (.pointer (some m)) := by
  have h6 := @run_callFunc_extern Tryd.prog 101 _ (fun args => ReflectliteValue.unpack (args.getD 0 (.tuple #[]))) Tryd.func101 (by kernel_rfl) (by kernel_rfl) (by kernel_rfl) (by kernel_rfl)
  have h7 := @run_callFunc_extern Tryd.prog 102 _ (ReflectliteValue.methodAny (ReflectliteValue.valueError "reflectlite.Value.Type" 0) (fun t _ _ _ => ReflectliteType.toType t)) Tryd.func102 (by kernel_rfl) (by kernel_rfl) (by kernel_rfl) (by kernel_rfl)
  have h8 := @run_callFunc_extern Tryd.prog 103 _ (ReflectliteValue.method (ReflectliteValue.valueError "reflectlite.Value.IsNil" 0) ReflectliteValue.isNil) Tryd.func103 (by kernel_rfl) (by kernel_rfl) (by kernel_rfl) (by kernel_rfl)
  have h27 := @run_callFunc_extern Tryd.prog 140 _ (ReflectliteType.abiMethod fun t => do pure (.int .u8 (← Rtype.kind t))) Tryd.func140 (by kernel_rfl) (by kernel_rfl) (by kernel_rfl) (by kernel_rfl)
  have h37 := @run_callFunc_extern Tryd.prog 152 _ (ReflectliteType.method ReflectliteType.elem) Tryd.func152 (by kernel_rfl) (by kernel_rfl) (by kernel_rfl) (by kernel_rfl)
  have h38 := @run_callFunc_extern Tryd.prog 153 _ (ReflectliteType.relation "Implements" ReflectliteType.implements_) Tryd.func153 (by kernel_rfl) (by kernel_rfl) (by kernel_rfl) (by kernel_rfl)
  have h10 := @run_callFunc_extern Tryd.prog 120 _ ReflectliteType.typeOf Tryd.func120 (by kernel_rfl) (by kernel_rfl) (by kernel_rfl) (by kernel_rfl)
  have h35 := @run_callFunc_extern Tryd.prog 150 _ (ReflectliteType.relation "AssignableTo" ReflectliteType.assignableTo) Tryd.func150 (by kernel_rfl) (by kernel_rfl) (by kernel_rfl) (by kernel_rfl)
  have h11 := @run_callFunc_extern Tryd.prog 121 _ (ReflectliteValue.method (ReflectliteValue.valueError "reflectlite.Value.Elem" 0) ReflectliteValue.elem) Tryd.func121 (by kernel_rfl) (by kernel_rfl) (by kernel_rfl) (by kernel_rfl)
  have h12 := @run_callFunc_extern Tryd.prog 122 _ ReflectliteValue.set Tryd.func122 (by kernel_rfl) (by kernel_rfl) (by kernel_rfl) (by kernel_rfl)
  have tE := Af.typeOfE
  have mA := As.methodAssignableTo
  have aE := Af.assignE
  have vE := Af.valueOfE
  have f6 := Af.valueOfT
  have f7 := Af.typeT
  have mK := As.methodKind
  have mE := As.methodElem
  have mI := As.methodImplements
  have kT := Af.kindT
  have kE := Af.kindE
  have eT := Af.elemT
  have iE := Af.implementsE
  have hlt : 0 < w.heap.size := by
    rcases Nat.eq_zero_or_pos w.heap.size with h0 | h
    · simp [World.cell?, h0] at hg
    · exact h
  have htl : t.block < w.heap.size := World.block_lt_of_cell? w t ht0
  have n8 := Af.isNilT ⟨w.heap.size, 0, none⟩ t ((w.alloc (.cells #[.pointer (some t)] 134)).alloc (.cells #[.pointer (some ⟨1, 134, none⟩), .pointer (some ⟨w.heap.size, 0, none⟩), .int .u64 150] 172)) (by simp)
  have hg2 : ((w.alloc (.cells #[.pointer (some t)] 134)).alloc (.cells #[.pointer (some ⟨1, 134, none⟩), .pointer (some ⟨w.heap.size, 0, none⟩), .int .u64 150] 172)).cell? ⟨0, 0, none⟩ = some (.iface 198 (.agg #[.pointer (some ⟨1, 88, none⟩)])) := by
    rw [World.cell?_alloc_lt _ _ ⟨0, 0, none⟩ (by simp), World.cell?_alloc_lt _ _ ⟨0, 0, none⟩ hlt]; exact hg
  have b3 : Below w.heap.size w (((w.alloc (.cells #[.pointer (some t)] 134)).alloc (.cells #[.pointer (some ⟨1, 134, none⟩), .pointer (some ⟨w.heap.size, 0, none⟩), .int .u64 150] 172)).alloc (.cells #[.pointer (some ⟨1, 134, none⟩), .pointer (some ⟨w.heap.size, 0, none⟩), .int .u64 150] 172)) := below_alloc (below_alloc (below_alloc (Below.refl _ _) _) _) _
  have b4 : Below w.heap.size w ((((w.alloc (.cells #[.pointer (some t)] 134)).alloc (.cells #[.pointer (some ⟨1, 134, none⟩), .pointer (some ⟨w.heap.size, 0, none⟩), .int .u64 150] 172)).alloc (.cells #[.pointer (some ⟨1, 134, none⟩), .pointer (some ⟨w.heap.size, 0, none⟩), .int .u64 150] 172)).alloc (.cells #[.pointer (some m)] 124)) := below_alloc b3 _
  have el := Af.elemVT ⟨w.heap.size, 0, none⟩ t (((w.alloc (.cells #[.pointer (some t)] 134)).alloc (.cells #[.pointer (some ⟨1, 134, none⟩), .pointer (some ⟨w.heap.size, 0, none⟩), .int .u64 150] 172)).alloc (.cells #[.pointer (some ⟨1, 134, none⟩), .pointer (some ⟨w.heap.size, 0, none⟩), .int .u64 150] 172)) (by rw [World.cell?_alloc_lt _ _ ⟨w.heap.size, 0, none⟩ (by simp; omega)]; simp)
  have st := Af.setE t ⟨w.heap.size + 1 + 1 + 1, 0, none⟩ m old ((((w.alloc (.cells #[.pointer (some t)] 134)).alloc (.cells #[.pointer (some ⟨1, 134, none⟩), .pointer (some ⟨w.heap.size, 0, none⟩), .int .u64 150] 172)).alloc (.cells #[.pointer (some ⟨1, 134, none⟩), .pointer (some ⟨w.heap.size, 0, none⟩), .int .u64 150] 172)).alloc (.cells #[.pointer (some m)] 124)) (by rw [World.cell?_alloc_at _ _ _ _ (by simp)]; rfl) ((b4.cell htl).trans ht0) ((b4.frozen htl).trans hf0)
  have HB : Hid (Below w.heap.size w ((((w.alloc (.cells #[.pointer (some t)] 134)).alloc (.cells #[.pointer (some ⟨1, 134, none⟩), .pointer (some ⟨w.heap.size, 0, none⟩), .int .u64 150] 172)).alloc (.cells #[.pointer (some ⟨1, 134, none⟩), .pointer (some ⟨w.heap.size, 0, none⟩), .int .u64 150] 172)).alloc (.cells #[.pointer (some m)] 124))) := b4
  have HC : Hid (((((w.alloc (.cells #[.pointer (some t)] 134)).alloc (.cells #[.pointer (some ⟨1, 134, none⟩), .pointer (some ⟨w.heap.size, 0, none⟩), .int .u64 150] 172)).alloc (.cells #[.pointer (some ⟨1, 134, none⟩), .pointer (some ⟨w.heap.size, 0, none⟩), .int .u64 150] 172)).alloc (.cells #[.pointer (some m)] 124)).cell? t = some old) := (b4.cell htl).trans ht0
  clear b3 b4
  go_enter Tryd.func71, Tryd.ntmps71
  go_wp2
  refine wp_loop_rounds 1 ?_
  rw [rounds_succ]
  go_wp2
  go_ret
  exact ⟨rfl, _, HB.out, HC.out, rfl⟩
end Go.Proofs.YtpfgklkdldkajaaDoor

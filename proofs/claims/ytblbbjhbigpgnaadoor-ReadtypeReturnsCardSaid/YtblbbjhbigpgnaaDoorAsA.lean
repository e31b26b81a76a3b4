/- errors.As at readtype's two kinds of error: the stand-ins that it calls, as closed facts. -/
import Derived.Test.YtblbbjhbigpgnaaDoorOpsI
import Derived.Test.YtblbbjhbigpgnaaDoorTypC
import Derived.Stop.Asserts
namespace Go.Proofs.YtblbbjhbigpgnaaDoor
open Go Go.Eng Go.Th Go.Proofs Go.Extern Go.RowKit
set_option maxRecDepth 10000
set_option maxHeartbeats 4000000
attribute [local irreducible] wpList Code.wp Run bodyPost Go.Eng.Ends Exit.then Exit.inBlock Again Wq Kq
noncomputable abbrev hnd (t : Nat) : Value := typeHandle Tryd.prog t
noncomputable abbrev rty (t : Nat) : Value := .iface 130 (.agg #[hnd t])
noncomputable abbrev vIn (t b fl : Nat) : Value := .agg #[hnd t, ptr b 0, .int .u64 fl]
instance : Ext Tryd.prog 71 (fun args => ReflectliteValue.unpack (args.getD 0 (.tuple #[]))) := ⟨_, Tryd.func71, by kernel_rfl, by kernel_rfl, by kernel_rfl, by kernel_rfl⟩
instance : Ext Tryd.prog 72 (ReflectliteValue.methodAny (ReflectliteValue.valueError "reflectlite.Value.Type" 0) (fun t _ _ _ => ReflectliteType.toType t)) := ⟨_, Tryd.func72, by kernel_rfl, by kernel_rfl, by kernel_rfl, by kernel_rfl⟩
instance : Ext Tryd.prog 73 (ReflectliteValue.method (ReflectliteValue.valueError "reflectlite.Value.IsNil" 0) ReflectliteValue.isNil) := ⟨_, Tryd.func73, by kernel_rfl, by kernel_rfl, by kernel_rfl, by kernel_rfl⟩
instance : Ext Tryd.prog 84 (ReflectliteValue.method (ReflectliteValue.valueError "reflectlite.Value.Elem" 0) ReflectliteValue.elem) := ⟨_, Tryd.func84, by kernel_rfl, by kernel_rfl, by kernel_rfl, by kernel_rfl⟩
instance : Ext Tryd.prog 85 ReflectliteValue.set := ⟨_, Tryd.func85, by kernel_rfl, by kernel_rfl, by kernel_rfl, by kernel_rfl⟩
instance : Ext Tryd.prog 83 ReflectliteType.typeOf := ⟨_, Tryd.func83, by kernel_rfl, by kernel_rfl, by kernel_rfl, by kernel_rfl⟩
instance : Ext Tryd.prog 107 (ReflectliteType.abiMethod fun t => do pure (.int .u8 (← Rtype.kind t))) := ⟨_, Tryd.func107, by kernel_rfl, by kernel_rfl, by kernel_rfl, by kernel_rfl⟩
instance : Ext Tryd.prog 120 (ReflectliteType.method ReflectliteType.elem) := ⟨_, Tryd.func120, by kernel_rfl, by kernel_rfl, by kernel_rfl, by kernel_rfl⟩
instance : Ext Tryd.prog 121 (ReflectliteType.relation "Implements" ReflectliteType.implements_) := ⟨_, Tryd.func121, by kernel_rfl, by kernel_rfl, by kernel_rfl, by kernel_rfl⟩
instance : Ext Tryd.prog 118 (ReflectliteType.relation "AssignableTo" ReflectliteType.assignableTo) := ⟨_, Tryd.func118, by kernel_rfl, by kernel_rfl, by kernel_rfl, by kernel_rfl⟩
theorem as_v1 (b : Nat) (w : World) : (ReflectliteValue.unpack (.iface 89 (ptr b 0))).run Tryd.prog w = .ok (vIn 89 w.heap.size 150) (w.alloc (.cells #[ptr b 0] 89)) := by kernel_rfl
theorem as_v2 (p : Int) (w : World) : (ReflectliteValue.unpack (.iface 87 (.int .i64 p))).run Tryd.prog w = .ok (vIn 87 w.heap.size 130) (w.alloc (.cells #[.int .i64 p] 87)) := by kernel_rfl
theorem as_ty (b : Nat) (w : World) : (ReflectliteValue.methodAny (ReflectliteValue.valueError "reflectlite.Value.Type" 0) (fun t _ _ _ => ReflectliteType.toType t) #[vIn 89 b 150]).run Tryd.prog w = .ok (rty 89) w := by kernel_rfl
theorem as_mKind (h : Value) (w : World) : (Go.method (Tryd.prog.types.size + Made.depth) 130 (.agg #[h]) "Kind").run Tryd.prog w = .ok (107, h) w := by kernel_rfl
theorem as_mElem (h : Value) (w : World) : (Go.method (Tryd.prog.types.size + Made.depth) 130 (.agg #[h]) "Elem").run Tryd.prog w = .ok (120, .agg #[h]) w := by kernel_rfl
theorem as_mImpl (h : Value) (w : World) : (Go.method (Tryd.prog.types.size + Made.depth) 130 (.agg #[h]) "Implements").run Tryd.prog w = .ok (121, .agg #[h]) w := by kernel_rfl
theorem as_mAss (h : Value) (w : World) : (Go.method (Tryd.prog.types.size + Made.depth) 130 (.agg #[h]) "AssignableTo").run Tryd.prog w = .ok (118, .agg #[h]) w := by kernel_rfl
theorem as_mUnw (p : Int) (w : World) : (Go.method (Tryd.prog.types.size + Made.depth) 119 (.agg #[.int .i64 p]) "Unwrap").run Tryd.prog w = .ok (116, .agg #[.int .i64 p]) w := by kernel_rfl
theorem as_kP (w : World) : ((ReflectliteType.abiMethod fun t => do pure (.int .u8 (← Rtype.kind t))) #[hnd 89]).run Tryd.prog w = .ok (.int .u8 22) w := by kernel_rfl
theorem as_kI (w : World) : ((ReflectliteType.abiMethod fun t => do pure (.int .u8 (← Rtype.kind t))) #[hnd 87]).run Tryd.prog w = .ok (.int .u8 2) w := by kernel_rfl
theorem as_el (w : World) : (ReflectliteType.method ReflectliteType.elem #[.agg #[hnd 89]]).run Tryd.prog w = .ok (rty 87) w := by kernel_rfl
theorem as_im (w : World) : (ReflectliteType.relation "Implements" ReflectliteType.implements_ #[.agg #[hnd 87], rty 72]).run Tryd.prog w = .ok (.bool true) w := by kernel_rfl
theorem as_to1 (v : Value) (w : World) : (ReflectliteType.typeOf #[.iface 119 v]).run Tryd.prog w = .ok (rty 119) w := by kernel_rfl
theorem as_to2 (v : Value) (w : World) : (ReflectliteType.typeOf #[.iface 87 v]).run Tryd.prog w = .ok (rty 87) w := by kernel_rfl
theorem as_as1 (w : World) : (ReflectliteType.relation "AssignableTo" ReflectliteType.assignableTo #[.agg #[hnd 119], rty 87]).run Tryd.prog w = .ok (.bool false) w := by kernel_rfl
theorem as_as2 (w : World) : (ReflectliteType.relation "AssignableTo" ReflectliteType.assignableTo #[.agg #[hnd 87], rty 87]).run Tryd.prog w = .ok (.bool true) w := by kernel_rfl
theorem as_ta1 (v : Value) (w : World) : (Instr.typeAssert (.iface 119 v) 72 135 true).run Tryd.prog w = .ok (.tuple #[.nilIface, .bool false]) w :=
  run_typeAssert_lacksB Tryd.underlying135 (by kernel_rfl) (by kernel_rfl) v _ w
theorem as_ta2 (v : Value) (w : World) : (Instr.typeAssert (.iface 119 v) 72 138 true).run Tryd.prog w = .ok (.tuple #[.iface 119 v, .bool true]) w :=
  run_typeAssert_hasB Tryd.underlying138 (by kernel_rfl) v _ w
theorem rlm (z : Sem Value) (f : TypeId → Addr → Nat → Nat → Sem Value) (v : Value) :
    ReflectliteValue.method z f #[v] = (do match ← ReflectliteValue.parts v with | none => z | some (t, a, fl) => f t a fl (fl % 32)) := rfl
theorem as_pP (b : Nat) (w : World) : (ReflectliteValue.parts (vIn 89 b 150)).run Tryd.prog w = .ok (some (89, ⟨b, 0, none⟩, 150)) w := by kernel_rfl
theorem as_pD (b : Nat) (w : World) : (ReflectliteValue.parts (vIn 87 b 386)).run Tryd.prog w = .ok (some (87, ⟨b, 0, none⟩, 386)) w := by kernel_rfl
theorem as_pS (b : Nat) (w : World) : (ReflectliteValue.parts (vIn 87 b 130)).run Tryd.prog w = .ok (some (87, ⟨b, 0, none⟩, 130)) w := by kernel_rfl
theorem as_nil (b : Nat) (v b' : Nat) (w : World) (h : w.cell? ⟨b, 0, none⟩ = some (ptr b' v)) :
    (ReflectliteValue.method (ReflectliteValue.valueError "reflectlite.Value.IsNil" 0) ReflectliteValue.isNil #[vIn 89 b 150]).run Tryd.prog w = .ok (.bool false) w := by
  rw [rlm]
  simp only [Sem.run_bind, as_pP, Result.andThen]
  simp [ReflectliteValue.isNil, loadVar, isAgg, underlying, Tryd.underlying89, h, Result.andThen]
theorem as_eO (w : World) : (Rtype.elem? 89).run Tryd.prog w = .ok (some 87) w := by kernel_rfl
theorem as_mk (b : Nat) (w : World) : (ReflectliteValue.mk 87 ⟨b, 0, none⟩ ReflectliteValue.flagAddr).run Tryd.prog w = .ok (vIn 87 b 386) w := by kernel_rfl
theorem as_elV (b b' : Nat) (w : World) (h : w.cell? ⟨b, 0, none⟩ = some (ptr b' 0)) :
    (ReflectliteValue.method (ReflectliteValue.valueError "reflectlite.Value.Elem" 0) ReflectliteValue.elem #[vIn 89 b 150]).run Tryd.prog w = .ok (vIn 87 b' 386) w := by
  rw [rlm]
  simp only [Sem.run_bind, as_pP, Result.andThen]
  simp [ReflectliteValue.elem, loadVar, isAgg, underlying, Tryd.underlying89, h, Result.andThen, as_eO, as_mk]
theorem rls (v x : Value) : ReflectliteValue.set #[v, x] = (do
    let (some (dst, a, fl), some (src, b, _)) := (← ReflectliteValue.parts v, ← ReflectliteValue.parts x)
      | unsupported (.noEntry "extern/(internal/reflectlite.Value).Set.zeroValue")
    if fl / ReflectliteValue.flagAddr % 2 == 0 then unsupported (.noEntry "extern/(internal/reflectlite.Value).Set.unaddressable")
    let val ← loadVar src b
    if ← Rtype.directlyAssignable dst src then storeVar dst a val
    else if ← Rtype.implements dst src then
      if (← Rtype.kind src) == 20 then
        match val with
        | .nilIface => unsupported (.noEntry "extern/reflectlite: a nil value of one interface type handed on as a value of another")
        | _ => storeVar dst a val
      else storeVar dst a (.iface src val)
    else panicString ("reflectlite.Set: value of type " ++ (← Rtype.spelt src) ++ " is not assignable to type " ++ (← Rtype.spelt dst))
    pure (.tuple #[])) := rfl
theorem as_dir (w : World) : (Rtype.directlyAssignable 87 87).run Tryd.prog w = .ok true w := by kernel_rfl
theorem as_sz : (Tryd.prog.info? 87).map (·.size) = some 1 := by kernel_rfl
theorem as_set (b s T : Nat) (p q : Int) (w : World) (hs : w.cell? ⟨s, 0, none⟩ = some (.int .i64 p)) (hb : w.heap[b]? = some (.cells #[.int .i64 q] T (0, 0))) :
    (ReflectliteValue.set #[vIn 87 b 386, vIn 87 s 130]).run Tryd.prog w = .ok (.tuple #[]) (w.setRow b #[.int .i64 p]) := by
  have hst := storeVar_run (P := Tryd.prog) (T := 87) (b := b) (off := 0) (sz := 1) (T0 := T) (cs := [.int .i64 q]) (vs := [.int .i64 p]) (cs' := [.int .i64 p]) (v := .int .i64 p) as_sz rfl rfl rfl rfl w hb
  rw [rls]
  simp only [Sem.run_bind, as_pD, as_pS, Result.andThen]
  simp [ReflectliteValue.flagAddr, loadVar, isAgg, underlying, Tryd.underlying87, hs, Result.andThen, as_dir, hst]
end Go.Proofs.YtblbbjhbigpgnaaDoor
-- sum 8e50cd7938dd63b9

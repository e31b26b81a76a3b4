/- errors.As at readtype's two kinds of error: the stand-ins that it calls, as closed facts. -/
import Derived.Test.YtblbbjhbigpgnaaGreatDoorOpsI
import Derived.Test.YtblbbjhbigpgnaaGreatDoorTypC
import Derived.Stop.Asserts
namespace Go.Proofs.YtblbbjhbigpgnaaGreatDoor
open Go Go.Eng Go.Th Go.Proofs Go.Extern Go.RowKit
set_option maxRecDepth 10000
set_option maxHeartbeats 4000000
attribute [local irreducible] wpList Code.wp Run bodyPost Go.Eng.Ends Exit.then Exit.inBlock Again Wq Kq
noncomputable abbrev hnd (t : Nat) : Value := typeHandle Tryz.prog t
noncomputable abbrev rty (t : Nat) : Value := .iface 149 (.agg #[hnd t])
noncomputable abbrev vIn (t b fl : Nat) : Value := .agg #[hnd t, ptr b 0, .int .u64 fl]
instance : Ext Tryz.prog 121 (fun args => ReflectliteValue.unpack (args.getD 0 (.tuple #[]))) := ⟨_, Tryz.func121, by kernel_rfl, by kernel_rfl, by kernel_rfl, by kernel_rfl⟩
instance : Ext Tryz.prog 122 (ReflectliteValue.methodAny (ReflectliteValue.valueError "reflectlite.Value.Type" 0) (fun t _ _ _ => ReflectliteType.toType t)) := ⟨_, Tryz.func122, by kernel_rfl, by kernel_rfl, by kernel_rfl, by kernel_rfl⟩
instance : Ext Tryz.prog 123 (ReflectliteValue.method (ReflectliteValue.valueError "reflectlite.Value.IsNil" 0) ReflectliteValue.isNil) := ⟨_, Tryz.func123, by kernel_rfl, by kernel_rfl, by kernel_rfl, by kernel_rfl⟩
instance : Ext Tryz.prog 131 (ReflectliteValue.method (ReflectliteValue.valueError "reflectlite.Value.Elem" 0) ReflectliteValue.elem) := ⟨_, Tryz.func131, by kernel_rfl, by kernel_rfl, by kernel_rfl, by kernel_rfl⟩
instance : Ext Tryz.prog 132 ReflectliteValue.set := ⟨_, Tryz.func132, by kernel_rfl, by kernel_rfl, by kernel_rfl, by kernel_rfl⟩
instance : Ext Tryz.prog 88 ReflectliteType.typeOf := ⟨_, Tryz.func88, by kernel_rfl, by kernel_rfl, by kernel_rfl, by kernel_rfl⟩
instance : Ext Tryz.prog 161 (ReflectliteType.abiMethod fun t => do pure (.int .u8 (← Rtype.kind t))) := ⟨_, Tryz.func161, by kernel_rfl, by kernel_rfl, by kernel_rfl, by kernel_rfl⟩
instance : Ext Tryz.prog 171 (ReflectliteType.method ReflectliteType.elem) := ⟨_, Tryz.func171, by kernel_rfl, by kernel_rfl, by kernel_rfl, by kernel_rfl⟩
instance : Ext Tryz.prog 172 (ReflectliteType.relation "Implements" ReflectliteType.implements_) := ⟨_, Tryz.func172, by kernel_rfl, by kernel_rfl, by kernel_rfl, by kernel_rfl⟩
instance : Ext Tryz.prog 169 (ReflectliteType.relation "AssignableTo" ReflectliteType.assignableTo) := ⟨_, Tryz.func169, by kernel_rfl, by kernel_rfl, by kernel_rfl, by kernel_rfl⟩
theorem as_v1 (b : Nat) (w : World) : (ReflectliteValue.unpack (.iface 168 (ptr b 0))).run Tryz.prog w = .ok (vIn 168 w.heap.size 150) (w.alloc (.cells #[ptr b 0] 168)) := by kernel_rfl
theorem as_v2 (p : Int) (w : World) : (ReflectliteValue.unpack (.iface 166 (.int .i64 p))).run Tryz.prog w = .ok (vIn 166 w.heap.size 130) (w.alloc (.cells #[.int .i64 p] 166)) := by kernel_rfl
theorem as_ty (b : Nat) (w : World) : (ReflectliteValue.methodAny (ReflectliteValue.valueError "reflectlite.Value.Type" 0) (fun t _ _ _ => ReflectliteType.toType t) #[vIn 168 b 150]).run Tryz.prog w = .ok (rty 168) w := by kernel_rfl
theorem as_mKind (h : Value) (w : World) : (Go.method (Tryz.prog.types.size + Made.depth) 149 (.agg #[h]) "Kind").run Tryz.prog w = .ok (161, h) w := by kernel_rfl
theorem as_mElem (h : Value) (w : World) : (Go.method (Tryz.prog.types.size + Made.depth) 149 (.agg #[h]) "Elem").run Tryz.prog w = .ok (171, .agg #[h]) w := by kernel_rfl
theorem as_mImpl (h : Value) (w : World) : (Go.method (Tryz.prog.types.size + Made.depth) 149 (.agg #[h]) "Implements").run Tryz.prog w = .ok (172, .agg #[h]) w := by kernel_rfl
theorem as_mAss (h : Value) (w : World) : (Go.method (Tryz.prog.types.size + Made.depth) 149 (.agg #[h]) "AssignableTo").run Tryz.prog w = .ok (169, .agg #[h]) w := by kernel_rfl
theorem as_mUnw (p : Int) (w : World) : (Go.method (Tryz.prog.types.size + Made.depth) 202 (.agg #[.int .i64 p]) "Unwrap").run Tryz.prog w = .ok (188, .agg #[.int .i64 p]) w := by kernel_rfl
theorem as_kP (w : World) : ((ReflectliteType.abiMethod fun t => do pure (.int .u8 (← Rtype.kind t))) #[hnd 168]).run Tryz.prog w = .ok (.int .u8 22) w := by kernel_rfl
theorem as_kI (w : World) : ((ReflectliteType.abiMethod fun t => do pure (.int .u8 (← Rtype.kind t))) #[hnd 166]).run Tryz.prog w = .ok (.int .u8 2) w := by kernel_rfl
theorem as_el (w : World) : (ReflectliteType.method ReflectliteType.elem #[.agg #[hnd 168]]).run Tryz.prog w = .ok (rty 166) w := by kernel_rfl
theorem as_im (w : World) : (ReflectliteType.relation "Implements" ReflectliteType.implements_ #[.agg #[hnd 166], rty 81]).run Tryz.prog w = .ok (.bool true) w := by kernel_rfl
theorem as_to1 (v : Value) (w : World) : (ReflectliteType.typeOf #[.iface 202 v]).run Tryz.prog w = .ok (rty 202) w := by kernel_rfl
theorem as_to2 (v : Value) (w : World) : (ReflectliteType.typeOf #[.iface 166 v]).run Tryz.prog w = .ok (rty 166) w := by kernel_rfl
theorem as_as1 (w : World) : (ReflectliteType.relation "AssignableTo" ReflectliteType.assignableTo #[.agg #[hnd 202], rty 166]).run Tryz.prog w = .ok (.bool false) w := by kernel_rfl
theorem as_as2 (w : World) : (ReflectliteType.relation "AssignableTo" ReflectliteType.assignableTo #[.agg #[hnd 166], rty 166]).run Tryz.prog w = .ok (.bool true) w := by kernel_rfl
theorem as_ta1 (v : Value) (w : World) : (Instr.typeAssert (.iface 202 v) 81 195 true).run Tryz.prog w = .ok (.tuple #[.nilIface, .bool false]) w :=
  run_typeAssert_lacksB Tryz.underlying195 (by kernel_rfl) (by kernel_rfl) v _ w
theorem as_ta2 (v : Value) (w : World) : (Instr.typeAssert (.iface 202 v) 81 154 true).run Tryz.prog w = .ok (.tuple #[.iface 202 v, .bool true]) w :=
  run_typeAssert_hasB Tryz.underlying154 (by kernel_rfl) v _ w
theorem rlm (z : Sem Value) (f : TypeId → Addr → Nat → Nat → Sem Value) (v : Value) :
    ReflectliteValue.method z f #[v] = (do match ← ReflectliteValue.parts v with | none => z | some (t, a, fl) => f t a fl (fl % 32)) := rfl
theorem as_pP (b : Nat) (w : World) : (ReflectliteValue.parts (vIn 168 b 150)).run Tryz.prog w = .ok (some (168, ⟨b, 0, none⟩, 150)) w := by kernel_rfl
theorem as_pD (b : Nat) (w : World) : (ReflectliteValue.parts (vIn 166 b 386)).run Tryz.prog w = .ok (some (166, ⟨b, 0, none⟩, 386)) w := by kernel_rfl
theorem as_pS (b : Nat) (w : World) : (ReflectliteValue.parts (vIn 166 b 130)).run Tryz.prog w = .ok (some (166, ⟨b, 0, none⟩, 130)) w := by kernel_rfl
theorem as_nil (b : Nat) (v b' : Nat) (w : World) (h : w.cell? ⟨b, 0, none⟩ = some (ptr b' v)) :
    (ReflectliteValue.method (ReflectliteValue.valueError "reflectlite.Value.IsNil" 0) ReflectliteValue.isNil #[vIn 168 b 150]).run Tryz.prog w = .ok (.bool false) w := by
  rw [rlm]
  simp only [Sem.run_bind, as_pP, Result.andThen]
  simp [ReflectliteValue.isNil, loadVar, isAgg, underlying, Tryz.underlying168, h, Result.andThen]
theorem as_eO (w : World) : (Rtype.elem? 168).run Tryz.prog w = .ok (some 166) w := by kernel_rfl
theorem as_mk (b : Nat) (w : World) : (ReflectliteValue.mk 166 ⟨b, 0, none⟩ ReflectliteValue.flagAddr).run Tryz.prog w = .ok (vIn 166 b 386) w := by kernel_rfl
theorem as_elV (b b' : Nat) (w : World) (h : w.cell? ⟨b, 0, none⟩ = some (ptr b' 0)) :
    (ReflectliteValue.method (ReflectliteValue.valueError "reflectlite.Value.Elem" 0) ReflectliteValue.elem #[vIn 168 b 150]).run Tryz.prog w = .ok (vIn 166 b' 386) w := by
  rw [rlm]
  simp only [Sem.run_bind, as_pP, Result.andThen]
  simp [ReflectliteValue.elem, loadVar, isAgg, underlying, Tryz.underlying168, h, Result.andThen, as_eO, as_mk]
theorem rls (v x : Value) : ReflectliteValue.set #[v, x] = (do
    let (some (dst, a, fl), some (src, b, _)) := (← ReflectliteValue.parts v, ← ReflectliteValue.parts x)
      | unsupported (.noEntry "extern/(internal/reflectlite.Value).Set.zeroValue")
    if fl / ReflectliteValue.flagAddr % 2 == 0 then unsupported (.noEntry "extern/(internal/reflectlite.Value).Set.unaddressable")
    let val ← loadVar src b
    if ← Rtype.directlyAssignable dst src then storeVar dst a val
    else if ← Rtype.implements dst src then
      if (← Rtype.kind src) == 20 then
        match val with
        | .nilIface => unsupported (.noEntry "extern/reflectlite: a nil value of one interface type handed on as a value of another")
        | _ => storeVar dst a val
      else storeVar dst a (.iface src val)
    else panicString ("reflectlite.Set: value of type " ++ (← Rtype.spelt src) ++ " is not assignable to type " ++ (← Rtype.spelt dst))
    pure (.tuple #[])) := rfl
theorem as_dir (w : World) : (Rtype.directlyAssignable 166 166).run Tryz.prog w = .ok true w := by kernel_rfl
theorem as_sz : (Tryz.prog.info? 166).map (·.size) = some 1 := by kernel_rfl
theorem as_set (b s T : Nat) (p q : Int) (w : World) (hs : w.cell? ⟨s, 0, none⟩ = some (.int .i64 p)) (hb : w.heap[b]? = some (.cells #[.int .i64 q] T (0, 0))) :
    (ReflectliteValue.set #[vIn 166 b 386, vIn 166 s 130]).run Tryz.prog w = .ok (.tuple #[]) (w.setRow b #[.int .i64 p]) := by
  have hst := storeVar_run (P := Tryz.prog) (T := 166) (b := b) (off := 0) (sz := 1) (T0 := T) (cs := [.int .i64 q]) (vs := [.int .i64 p]) (cs' := [.int .i64 p]) (v := .int .i64 p) as_sz rfl rfl rfl rfl w hb
  rw [rls]
  simp only [Sem.run_bind, as_pD, as_pS, Result.andThen]
  simp [ReflectliteValue.flagAddr, loadVar, isAgg, underlying, Tryz.underlying166, hs, Result.andThen, as_dir, hst]
end Go.Proofs.YtblbbjhbigpgnaaGreatDoor
-- sum 8e50cd7938dd63b9

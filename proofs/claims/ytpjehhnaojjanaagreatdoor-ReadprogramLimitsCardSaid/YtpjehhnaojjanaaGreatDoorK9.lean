/- errors.As at readtype's two kinds of error: the stand-ins that it calls, as closed facts. -/
import Derived.Test.YtpjehhnaojjanaaGreatDoorK6
import Derived.Test.YtpjehhnaojjanaaGreatDoorK5
import Derived.Stop.Asserts
import Derived.Test.YtpjehhnaojjanaaGreatDoorK8
namespace Go.Proofs.YtpjehhnaojjanaaGreatDoor
open Go Go.Eng Go.Th Go.Proofs Go.Extern Go.RowKit
set_option maxRecDepth 10000
set_option maxHeartbeats 4000000
attribute [local irreducible] wpList Code.wp Run bodyPost Go.Eng.Ends Exit.then Exit.inBlock Again Wq Kq
noncomputable abbrev hnd (t : Nat) : Value := typeHandle Tryz.prog t
noncomputable abbrev rty (t : Nat) : Value := .iface 253 (.agg #[hnd t])
noncomputable abbrev vIn (t b fl : Nat) : Value := .agg #[hnd t, ptr b 0, .int .u64 fl]
instance : Ext Tryz.prog 181 (fun args => ReflectliteValue.unpack (args.getD 0 (.tuple #[]))) := ⟨_, Tryz.func181, by kernel_rfl, by kernel_rfl, by kernel_rfl, by kernel_rfl⟩
instance : Ext Tryz.prog 182 (ReflectliteValue.methodAny (ReflectliteValue.valueError "reflectlite.Value.Type" 0) (fun t _ _ _ => ReflectliteType.toType t)) := ⟨_, Tryz.func182, by kernel_rfl, by kernel_rfl, by kernel_rfl, by kernel_rfl⟩
instance : Ext Tryz.prog 183 (ReflectliteValue.method (ReflectliteValue.valueError "reflectlite.Value.IsNil" 0) ReflectliteValue.isNil) := ⟨_, Tryz.func183, by kernel_rfl, by kernel_rfl, by kernel_rfl, by kernel_rfl⟩
instance : Ext Tryz.prog 210 (ReflectliteValue.method (ReflectliteValue.valueError "reflectlite.Value.Elem" 0) ReflectliteValue.elem) := ⟨_, Tryz.func210, by kernel_rfl, by kernel_rfl, by kernel_rfl, by kernel_rfl⟩
instance : Ext Tryz.prog 211 ReflectliteValue.set := ⟨_, Tryz.func211, by kernel_rfl, by kernel_rfl, by kernel_rfl, by kernel_rfl⟩
instance : Ext Tryz.prog 185 ReflectliteType.typeOf := ⟨_, Tryz.func185, by kernel_rfl, by kernel_rfl, by kernel_rfl, by kernel_rfl⟩
instance : Ext Tryz.prog 284 (ReflectliteType.abiMethod fun t => do pure (.int .u8 (← Rtype.kind t))) := ⟨_, Tryz.func284, by kernel_rfl, by kernel_rfl, by kernel_rfl, by kernel_rfl⟩
instance : Ext Tryz.prog 297 (ReflectliteType.method ReflectliteType.elem) := ⟨_, Tryz.func297, by kernel_rfl, by kernel_rfl, by kernel_rfl, by kernel_rfl⟩
instance : Ext Tryz.prog 298 (ReflectliteType.relation "Implements" ReflectliteType.implements_) := ⟨_, Tryz.func298, by kernel_rfl, by kernel_rfl, by kernel_rfl, by kernel_rfl⟩
instance : Ext Tryz.prog 295 (ReflectliteType.relation "AssignableTo" ReflectliteType.assignableTo) := ⟨_, Tryz.func295, by kernel_rfl, by kernel_rfl, by kernel_rfl, by kernel_rfl⟩
theorem as_v1 (b : Nat) (w : World) : (ReflectliteValue.unpack (.iface 177 (ptr b 0))).run Tryz.prog w = .ok (vIn 177 w.heap.size 150) (w.alloc (.cells #[ptr b 0] 177)) := by kernel_rfl
theorem as_v2 (p : Int) (w : World) : (ReflectliteValue.unpack (.iface 175 (.int .i64 p))).run Tryz.prog w = .ok (vIn 175 w.heap.size 130) (w.alloc (.cells #[.int .i64 p] 175)) := by kernel_rfl
theorem as_ty (b : Nat) (w : World) : (ReflectliteValue.methodAny (ReflectliteValue.valueError "reflectlite.Value.Type" 0) (fun t _ _ _ => ReflectliteType.toType t) #[vIn 177 b 150]).run Tryz.prog w = .ok (rty 177) w := by kernel_rfl
theorem as_mKind (h : Value) (w : World) : (Go.method (Tryz.prog.types.size + Made.depth) 253 (.agg #[h]) "Kind").run Tryz.prog w = .ok (284, h) w := by kernel_rfl
theorem as_mElem (h : Value) (w : World) : (Go.method (Tryz.prog.types.size + Made.depth) 253 (.agg #[h]) "Elem").run Tryz.prog w = .ok (297, .agg #[h]) w := by kernel_rfl
theorem as_mImpl (h : Value) (w : World) : (Go.method (Tryz.prog.types.size + Made.depth) 253 (.agg #[h]) "Implements").run Tryz.prog w = .ok (298, .agg #[h]) w := by kernel_rfl
theorem as_mAss (h : Value) (w : World) : (Go.method (Tryz.prog.types.size + Made.depth) 253 (.agg #[h]) "AssignableTo").run Tryz.prog w = .ok (295, .agg #[h]) w := by kernel_rfl
theorem as_mUnw (p : Int) (w : World) : (Go.method (Tryz.prog.types.size + Made.depth) 228 (.agg #[.int .i64 p]) "Unwrap").run Tryz.prog w = .ok (293, .agg #[.int .i64 p]) w := by kernel_rfl
theorem as_kP (w : World) : ((ReflectliteType.abiMethod fun t => do pure (.int .u8 (← Rtype.kind t))) #[hnd 177]).run Tryz.prog w = .ok (.int .u8 22) w := by kernel_rfl
theorem as_kI (w : World) : ((ReflectliteType.abiMethod fun t => do pure (.int .u8 (← Rtype.kind t))) #[hnd 175]).run Tryz.prog w = .ok (.int .u8 2) w := by kernel_rfl
theorem as_el (w : World) : (ReflectliteType.method ReflectliteType.elem #[.agg #[hnd 177]]).run Tryz.prog w = .ok (rty 175) w := by kernel_rfl
theorem as_im (w : World) : (ReflectliteType.relation "Implements" ReflectliteType.implements_ #[.agg #[hnd 175], rty 153]).run Tryz.prog w = .ok (.bool true) w := by kernel_rfl
theorem as_to1 (v : Value) (w : World) : (ReflectliteType.typeOf #[.iface 228 v]).run Tryz.prog w = .ok (rty 228) w := by kernel_rfl
theorem as_to2 (v : Value) (w : World) : (ReflectliteType.typeOf #[.iface 175 v]).run Tryz.prog w = .ok (rty 175) w := by kernel_rfl
theorem as_as1 (w : World) : (ReflectliteType.relation "AssignableTo" ReflectliteType.assignableTo #[.agg #[hnd 228], rty 175]).run Tryz.prog w = .ok (.bool false) w := by kernel_rfl
theorem as_as2 (w : World) : (ReflectliteType.relation "AssignableTo" ReflectliteType.assignableTo #[.agg #[hnd 175], rty 175]).run Tryz.prog w = .ok (.bool true) w := by kernel_rfl
theorem as_ta1 (v : Value) (w : World) : (Instr.typeAssert (.iface 228 v) 153 257 true).run Tryz.prog w = .ok (.tuple #[.nilIface, .bool false]) w :=
 run_typeAssert_lacksB Tryz.underlying257 (by kernel_rfl) (by kernel_rfl) v _ w
theorem as_ta2 (v : Value) (w : World) : (Instr.typeAssert (.iface 228 v) 153 260 true).run Tryz.prog w = .ok (.tuple #[.iface 228 v, .bool true]) w :=
 run_typeAssert_hasB Tryz.underlying260 (by kernel_rfl) v _ w
theorem rlm (z : Sem Value) (f : TypeId → Addr → Nat → Nat → Sem Value) (v : Value) :
  ReflectliteValue.method z f #[v] = (do match ← ReflectliteValue.parts v with | none => z | some (t, a, fl) => f t a fl (fl % 32)) := rfl
theorem as_pP (b : Nat) (w : World) : (ReflectliteValue.parts (vIn 177 b 150)).run Tryz.prog w = .ok (some (177, ⟨b, 0, none⟩, 150)) w := by kernel_rfl
theorem as_pD (b : Nat) (w : World) : (ReflectliteValue.parts (vIn 175 b 386)).run Tryz.prog w = .ok (some (175, ⟨b, 0, none⟩, 386)) w := by kernel_rfl
theorem as_pS (b : Nat) (w : World) : (ReflectliteValue.parts (vIn 175 b 130)).run Tryz.prog w = .ok (some (175, ⟨b, 0, none⟩, 130)) w := by kernel_rfl
theorem as_nil (b : Nat) (v b' : Nat) (w : World) (h : w.cell? ⟨b, 0, none⟩ = some (ptr b' v)) :
  (ReflectliteValue.method (ReflectliteValue.valueError "reflectlite.Value.IsNil" 0) ReflectliteValue.isNil #[vIn 177 b 150]).run Tryz.prog w = .ok (.bool false) w := by
 rw [rlm]
 simp only [Sem.run_bind, as_pP, Result.andThen]
 simp [ReflectliteValue.isNil, loadVar, isAgg, underlying, Tryz.underlying177, h, Result.andThen]
theorem as_eO (w : World) : (Rtype.elem? 177).run Tryz.prog w = .ok (some 175) w := by kernel_rfl
theorem as_mk (b : Nat) (w : World) : (ReflectliteValue.mk 175 ⟨b, 0, none⟩ ReflectliteValue.flagAddr).run Tryz.prog w = .ok (vIn 175 b 386) w := by kernel_rfl
theorem as_elV (b b' : Nat) (w : World) (h : w.cell? ⟨b, 0, none⟩ = some (ptr b' 0)) :
  (ReflectliteValue.method (ReflectliteValue.valueError "reflectlite.Value.Elem" 0) ReflectliteValue.elem #[vIn 177 b 150]).run Tryz.prog w = .ok (vIn 175 b' 386) w := by
 rw [rlm]
 simp only [Sem.run_bind, as_pP, Result.andThen]
 simp [ReflectliteValue.elem, loadVar, isAgg, underlying, Tryz.underlying177, h, Result.andThen, as_eO, as_mk]
theorem rls (v x : Value) : ReflectliteValue.set #[v, x] = (do
  let (some (dst, a, fl), some (src, b, _)) := (← ReflectliteValue.parts v, ← ReflectliteValue.parts x)
   | unsupported (.noEntry "extern/(internal/reflectlite.Value).Set.zeroValue")
  if fl / ReflectliteValue.flagAddr % 2 == 0 then unsupported (.noEntry "extern/(internal/reflectlite.Value).Set.unaddressable")
  let val ← loadVar src b
  if ← Rtype.directlyAssignable dst src then storeVar dst a val
  else if ← Rtype.implements dst src then
   if (← Rtype.kind src) == 20 then
    match val with
    | .nilIface => unsupported (.noEntry "extern/reflectlite: a nil value of one interface type handed on as a value of another")
    | _ => storeVar dst a val
   else storeVar dst a (.iface src val)
  else panicString ("reflectlite.Set: value of type " ++ (← Rtype.spelt src) ++ " is not assignable to type " ++ (← Rtype.spelt dst))
  pure (.tuple #[])) := rfl
theorem as_dir (w : World) : (Rtype.directlyAssignable 175 175).run Tryz.prog w = .ok true w := by kernel_rfl
theorem as_sz : (Tryz.prog.info? 175).map (·.size) = some 1 := by kernel_rfl
theorem as_set (b s T : Nat) (p q : Int) (w : World) (hs : w.cell? ⟨s, 0, none⟩ = some (.int .i64 p)) (hb : w.heap[b]? = some (.cells #[.int .i64 q] T (0, 0))) :
  (ReflectliteValue.set #[vIn 175 b 386, vIn 175 s 130]).run Tryz.prog w = .ok (.tuple #[]) (w.setRow b #[.int .i64 p]) := by
 have hst := storeVar_run (P := Tryz.prog) (T := 175) (b := b) (off := 0) (sz := 1) (T0 := T) (cs := [.int .i64 q]) (vs := [.int .i64 p]) (cs' := [.int .i64 p]) (v := .int .i64 p) as_sz rfl rfl rfl rfl w hb
 rw [rls]
 simp only [Sem.run_bind, as_pD, as_pS, Result.andThen]
 simp [ReflectliteValue.flagAddr, loadVar, isAgg, underlying, Tryz.underlying175, hs, Result.andThen, as_dir, hst]
end Go.Proofs.YtpjehhnaojjanaaGreatDoor
-- sum 8e50cd7938dd63b9

/- errors.As at readtype's errors: the walk. -/
namespace Go.Proofs.YtpjehhnaojjanaaGreatDoor
open Go Go.Eng Go.Th Go.Proofs Go.Extern Go.RowKit
set_option maxRecDepth 10000
set_option maxHeartbeats 4000000
attribute [local irreducible] wpList Code.wp Run bodyPost Go.Eng.Ends Exit.then Exit.inBlock Again Wq Kq
def ErrT (g : Ghost) : Prop := g 0 0 = some (rty 153)
theorem ErrT.mono {g g' : Ghost} (h : ErrT g) (hle : Ghost.le g g') : ErrT g' := hle _ _ _ h
theorem unwrap_spec (g : Ghost) (p : Int) : Pure Tryz.prog 293 [.agg #[.int .i64 p]] g (.iface 175 (.int .i64 p)) := by
 refine spec_of_run Tryz.func293 rfl Tryz.ntmps293 rfl fun E hE => ?_
 refine r_sr <| r_box rfl rfl rfl (fun b => ?_); refine r_ev rfl rfl <| r_nn <| r_sr <| r_fieldAddr rfl rfl <| r_loadB1 0 rfl rfl rfl rfl <| r_mkIface rfl rfl <| r_ev rfl rfl <| r_nn <| r_retc ?_
 exact r_ret1 [] rfl rfl (by simp) ⟨rfl, rfl, rfl⟩
abbrev posB (b : Nat) (p : Int) : Res := .blk b 175 [.int .i64 p]
theorem eas_spec (g : Ghost) (p q : Int) (b b5 : Nat) : Eng.Spec Tryz.prog 184 [failV p, .iface 177 (ptr b 0), vIn 177 b5 150, rty 175] g [posB b q, .blk b5 177 [ptr b 0]] fun v g' own' => v = .bool true ∧ g' = g ∧ own' = [posB b p, .blk b5 177 [ptr b 0]] := by
 refine spec_of_run Tryz.func184 rfl Tryz.ntmps184 rfl fun E hE => ?_
 refine r_sr ?_
 refine r_box rfl rfl rfl (fun b6 => ?_)
 refine r_ev rfl rfl <| r_nn <| r_block ?_
 -- STOP1
 refine r_loop (ι := Bool) (fun c => [(0, if c then .iface 175 (.int .i64 p) else failV p), (1, .iface 177 (ptr b 0)), (3, rty 175), (6, ptr b6 0)]) (fun _ => g)
  (fun _ => [.blk b6 208 [hnd 177, ptr b5 0, .int .u64 150], posB b q, .blk b5 177 [ptr b 0]]) (fun _ => True) (fun c => if c then 0 else 1) false trivial ⟨rfl, rfl, rfl, rfl, trivial⟩ rfl rfl ?_
 rintro c -
 cases c with
 | false =>
  show Run E _ [(0, failV p), (1, .iface 177 (ptr b 0)), (3, rty 175), (6, ptr b6 0)] g [.blk b6 208 [hnd 177, ptr b5 0, .int .u64 150], posB b q, .blk b5 177 [ptr b 0]] _
  unfold failV
  refine r_block <| r_seq <| r_sr <| r_ev rfl rfl ?_
  -- STOP2
  refine r_v rfl (val_ext rfl (as_to1 _)) ?_
  refine r_ev rfl rfl ?_
  refine r_v rfl (val_invoke rfl rfl (as_mAss _) as_as1) ?_
  refine r_nn <| r_cond_false rfl <| r_skip <| r_then_normal <| r_seq <| r_sr <| r_ev rfl rfl ?_
  refine r_v rfl (val_tassert rfl (as_ta1 _)) ?_
  refine r_ev rfl rfl <| r_ev rfl rfl <| r_ev rfl rfl <| r_ev rfl rfl <| r_ev rfl rfl <| r_nn <| r_sr <| r_ev rfl rfl <| r_ev rfl rfl <| r_pass rfl rfl rfl <| r_pass rfl rfl rfl <| r_pass rfl rfl rfl <| r_ev rfl rfl <| r_nn ?_; refine r_cond_false rfl <| r_skip <| r_then_normal <| r_sr <| r_ev rfl rfl <| r_nn <| r_block <| r_sr ?_
  refine r_v rfl (val_tassert rfl (as_ta2 _)) ?_
  refine r_ev rfl rfl <| r_ev rfl rfl <| r_nn <| r_cond_true rfl <| r_sr <| r_ev rfl rfl <| r_nn <| r_sr <| r_ev rfl rfl ?_
  refine r_invokeP rfl rfl rfl (as_mUnw p) (unwrap_spec g p) ?_
  refine r_ev rfl rfl <| r_nn <| r_sr <| r_ev rfl rfl <| r_eql_nil_held rfl rfl <| r_nn <| r_cond_false rfl <| r_skip <| r_in_normal <| r_in_normal <| r_then_normal ?_
  exact r_again true trivial (by decide) ⟨rfl, rfl, rfl, rfl, trivial⟩ rfl rfl
 | true =>
  show Run E _ [(0, .iface 175 (.int .i64 p)), (1, .iface 177 (ptr b 0)), (3, rty 175), (6, ptr b6 0)] g [.blk b6 208 [hnd 177, ptr b5 0, .int .u64 150], posB b q, .blk b5 177 [ptr b 0]] _
  refine r_block <| r_seq <| r_sr <| r_ev rfl rfl ?_
  refine r_v rfl (val_ext rfl (as_to2 _)) ?_
  refine r_ev rfl rfl ?_
  refine r_v rfl (val_invoke rfl rfl (as_mAss _) as_as2) ?_
  refine r_nn <| r_cond_true rfl <| r_sr <| r_loadB 0 rfl rfl rfl (by rfl) ?_
  refine r_v rfl (val_extI rfl (fun w hI => as_elV b5 b w (blk_cell (i := 2) hI rfl rfl))) ?_
  refine r_ev rfl rfl ?_
  refine r_extA (mk := fun s => vIn 175 s 130) rfl rfl (as_v2 p) (fun b7 => ?_)
  skip
  refine r_extW (b := b) 2 rfl rfl rfl (fun w hI => as_set b b7 _ p q w (blk_cell (i := 0) hI rfl rfl) (sat_at (i := 2) hI rfl)) ?_
  refine r_nn <| r_sr <| r_ev rfl rfl <| r_nn <| r_retc <| r_then_ret <| r_in_ret <| r_then_ret <| r_in_ret ?_
  exact r_ret1 [_, _] rfl rfl (.cons _ (.cons _ (List.Sublist.refl _))) ⟨rfl, rfl, rfl⟩
theorem eAs_nil (g : Ghost) (v : Value) : Pure Tryz.prog 148 [.nilIface, v] g (.bool false) := by
 refine spec_of_run Tryz.func148 rfl Tryz.ntmps148 rfl fun E hE => ?_
 refine r_sr <| r_ev rfl rfl <| r_nn <| r_seq <| r_sr <| r_ev rfl rfl <| r_eql_nil_nil rfl rfl <| r_nn <| r_cond_true rfl <| r_sr <| r_ev rfl rfl <| r_nn <| r_retc <| r_then_ret ?_
 exact r_ret1 [] rfl rfl (by simp) ⟨rfl, rfl, rfl⟩
theorem eAs_spec (g : Ghost) (hg : ErrT g) (p q : Int) (b : Nat) : SpecL Tryz.prog 148 [failV p, .iface 177 (ptr b 0)] g (posB b q) fun v g' r' => v = .bool true ∧ g' = g ∧ r' = posB b p := by
 refine spec_of_run Tryz.func148 rfl Tryz.ntmps148 rfl fun E hE => ?_
 unfold failV
 refine r_sr <| r_ev rfl rfl <| r_nn <| r_seq <| r_sr <| r_ev rfl rfl <| r_eql_nil_held rfl rfl <| r_nn <| r_cond_false rfl <| r_skip <| r_then_normal <| r_seq <| r_sr <| r_ev rfl rfl ?_; refine r_eql_nil_held rfl rfl <| r_nn <| r_cond_false rfl <| r_skip <| r_then_normal <| r_sr <| r_ev rfl rfl ?_
 refine r_extA (mk := fun s => vIn 177 s 150) rfl rfl (as_v1 b) (fun b5 => ?_)
 skip
 refine r_alloc rfl (fun b4 => ?_)
 refine r_storeA 0 rfl rfl rfl rfl (by rfl) (by repeat' (first | exact rfl | assumption | refine all_cons ?_ ?_)) rfl ?_; refine r_nn <| r_sr <| r_loadB 0 rfl rfl rfl (by rfl) ?_
 -- STOP3
 refine r_v rfl (val_ext rfl (as_ty b5)) ?_
 refine r_ev rfl rfl <| r_nn <| r_seq <| r_sr <| r_ev rfl rfl ?_
 refine r_v rfl (val_invoke rfl rfl (as_mKind _) as_kP) ?_
 refine r_ev rfl rfl <| r_ev rfl rfl <| r_take rfl <| r_loadB 0 rfl rfl rfl (by rfl) ?_; refine r_take rfl ?_
 refine r_v rfl (val_extI rfl (fun w hI => as_nil b5 0 b w (blk_cell (i := 1) hI rfl rfl))) ?_
 refine r_ev rfl rfl <| r_nn <| r_cond_false rfl <| r_skip <| r_then_normal <| r_sr <| r_ev rfl rfl ?_
 refine r_v rfl (val_invoke rfl rfl (as_mElem _) as_el) ?_
 refine r_ev rfl rfl <| r_nn <| r_seq <| r_sr <| r_ev rfl rfl ?_
 refine r_v rfl (val_invoke rfl rfl (as_mKind _) as_kI) ?_
 refine r_ev rfl rfl <| r_ev rfl rfl <| r_tev rfl rfl rfl <| r_take rfl ?_
 refine r_load1 rfl rfl (rd_g1 hg) ?_
 refine r_take rfl ?_
 refine r_v rfl (val_invoke rfl rfl (as_mImpl _) as_im) ?_
 refine r_tev rfl rfl rfl <| r_ev rfl rfl <| r_nn <| r_cond_false rfl <| r_skip <| r_then_normal <| r_sr <| r_ev rfl rfl <| r_ev rfl rfl <| r_loadB 0 rfl rfl rfl (by rfl) ?_; refine r_ev rfl rfl ?_
 refine r_call' (lent := [posB b q, .blk b5 177 [ptr b 0]]) (kept := [.blk b4 208 [hnd 177, ptr b5 0, .int .u64 150]]) rfl rfl (List.Perm.trans (List.Perm.cons _ (List.Perm.swap _ _ _)) (List.perm_append_comm (l₁ := [_]) (l₂ := [_, _]))) (eas_spec g p q b b5) ?_
 rintro v g' own' ⟨rfl, rfl, rfl⟩ _
 refine r_ev rfl rfl <| r_nn <| r_retc ?_
 exact r_ret1 [_] rfl rfl (.cons_cons _ (List.nil_sublist _)) ⟨_, rfl, rfl, rfl, rfl⟩
end Go.Proofs.YtpjehhnaojjanaaGreatDoor
-- sum c8ed6402a81048ba

/- readtype.Type, Atom and the reference's: both answer what the plain grammar reads. -/
namespace Go.Proofs.YtpjehhnaojjanaaGreatDoor
open Go Go.Eng Go.Th Go.Proofs
set_option maxRecDepth 10000
set_option maxHeartbeats 4000000
attribute [local irreducible] wpList Code.wp Run bodyPost Go.Eng.Ends Exit.then Exit.inBlock Again Wq Kq
def ansT : TR → Ty
 | .ok (t, _) => t
 | .error _ => noT
def ansI : TR → Int
 | .ok (_, j) => j
 | .error _ => 0
def ansE : TR → Int
 | .ok _ => 0
 | .error _ => 3
def ansP : TR → Int
 | .ok _ => 0
 | .error p => p
def ansPost (r : TR) (v : Value) (g' : Ghost) : Prop := ∃ tv, v = .tuple #[tv, .int .i64 (ansI r), .agg #[.int .i64 (ansE r), .int .i64 (ansP r)]] ∧ TyV g' tv (ansT r)
theorem result_ok (g : Ghost) (tv : Value) (t : Ty) (j : Int) (ht : TyV g tv t) : SpecN Tryz.prog 113 [tv, .int .i64 j, .nilIface] g fun v g' => v = .tuple #[tv, .int .i64 j, .agg #[.int .i64 0, .int .i64 0]] ∧ g' = g := by
 obtain ⟨a, m', c, rfl, ht⟩ := ht.cells5
 refine spec_of_run Tryz.func113 rfl Tryz.ntmps113 rfl fun E hE => ?_
 refine r_sr ?_
 refine r_box rfl rfl rfl (fun b3 => ?_)
 refine r_alloc rfl (fun b6 => ?_)
 refine r_ev rfl rfl ?_
 refine r_alloc rfl (fun b8 => ?_)
 refine r_nn <| r_sr ?_
 refine r_alloc rfl (fun b9 => ?_)
 refine r_nn <| r_seq <| r_sr <| r_ev rfl rfl <| r_mkIface rfl rfl ?_
 refine r_callP rfl rfl (eAs_nil g _) ?_
 refine r_nn <| r_cond_false rfl <| r_skip <| r_then_normal <| r_sr <| r_loadB 3 rfl rfl rfl (by rfl) ?_; refine r_ev rfl rfl <| r_build rfl rfl (by rfl) ?_; refine r_storeA 2 rfl rfl rfl rfl (by rfl) (by repeat' (first | exact rfl | assumption | refine all_cons ?_ ?_)) rfl ?_; refine r_ev rfl rfl <| r_storeA 1 rfl rfl rfl rfl (by rfl) (by repeat' (first | exact rfl | assumption | refine all_cons ?_ ?_)) rfl ?_; refine r_nn <| r_retc ?_
 exact r_ret3 [] rfl (res_blk 2 rfl rfl (by rfl)) (.tmp rfl) (res_blk 1 rfl rfl (by rfl)) (by simp) ⟨⟨rfl, rfl⟩, rfl⟩
theorem result_err (g : Ghost) (hg : ErrT g) (tv : Value) (t : Ty) (j p : Int) (ht : TyV g tv t) : SpecN Tryz.prog 113 [tv, .int .i64 j, failV p] g fun v g' => v = .tuple #[.agg #[.int .i64 0, str [], .int .i64 0, .int .i64 0, .slice none 0 0], .int .i64 0, .agg #[.int .i64 3, .int .i64 p]] ∧ g' = g := by
 obtain ⟨a, m', c, rfl, ht⟩ := ht.cells5
 refine spec_of_run Tryz.func113 rfl Tryz.ntmps113 rfl fun E hE => ?_
 refine r_sr ?_
 refine r_box rfl rfl rfl (fun b3 => ?_)
 refine r_alloc rfl (fun b6 => ?_)
 refine r_ev rfl rfl ?_
 refine r_alloc rfl (fun b8 => ?_)
 refine r_nn <| r_sr ?_
 refine r_alloc rfl (fun b9 => ?_)
 refine r_nn <| r_seq <| r_sr <| r_ev rfl rfl <| r_mkIface rfl rfl ?_
 refine r_callL 0 rfl rfl rfl (eAs_spec g hg p 0 b9) ?_
 rintro v g' r' ⟨rfl, rfl, rfl⟩ _
 refine r_nn <| r_cond_true rfl <| r_seq ?_
 -- STOP1
 refine h_beginE [2, 1] mixed (fun hG => ?_)
 refine h_takeXA 0 rfl (by kernel_rfl) rfl hG ?_; refine ⟨_, (val_build rfl (by rfl)), ?_⟩; refine h_takeXA 1 rfl (by kernel_rfl) rfl hG ?_; refine ⟨_, (val_loadB1 0 rfl rfl rfl), ?_⟩; refine h_takeXA 2 rfl (by kernel_rfl) rfl hG ?_; refine ⟨_, (val_build rfl (by rfl)), ?_⟩
 refine h_one 3 (by kernel_rfl) rfl ?_
 refine r_storeA 2 rfl rfl rfl rfl (by rfl) (by repeat' (first | exact rfl | assumption | refine all_cons ?_ ?_)) rfl ?_; refine r_nn ?_
 refine h_keptA hG ?_
 refine h_one 4 (by kernel_rfl) rfl ?_
 refine r_ev rfl rfl <| r_nn ?_
 refine h_keptA hG ?_
 refine h_one 5 (by kernel_rfl) rfl ?_
 refine r_storeA 1 rfl rfl rfl rfl (by rfl) (by repeat' (first | exact rfl | assumption | refine all_cons ?_ ?_)) rfl ?_; refine r_nn ?_
 refine h_keptA hG ?_
 refine h_done (by kernel_rfl) ?_
 refine r_then_normal <| r_retc <| r_then_ret ?_
 exact r_ret3 [] rfl (res_blk 2 rfl rfl (by rfl)) (.tmp rfl) (res_blk 1 rfl rfl (by rfl)) (by simp) ⟨⟨rfl, rfl⟩, rfl⟩
theorem rType_spec {l : List Tok} (hb : TB l) (g : Ghost) (hg : ErrT g) (v : Value) (i : Int) (hs : ToksAt g v l) : SpecN Tryz.prog 67 [v, .int .i64 i] g (ansPost (tread l .whole (idxOf l.length i))) := by
 have hi : idxOf l.length i ≤ l.length := by unfold idxOf; split <;> omega
 refine spec_of_run Tryz.func67 rfl Tryz.ntmps67 rfl fun E hE => ?_
 refine r_sr ?_
 refine r_alloc rfl (fun b4 => ?_)
 refine r_ev rfl rfl ?_
 refine r_alloc rfl (fun b6 => ?_)
 refine r_nn <| r_sr <| r_ev rfl rfl <| r_ev rfl rfl <| r_ev rfl rfl ?_
 refine r_callP rfl rfl (index_spec g v l hs i) ?_
 skip
 refine r_callN rfl rfl (whole_spec hb g v _ hs hi) ?_
 rintro w g1 hw hle
 have hg1 := hg.mono hle
 cases hq : tread l .whole (idxOf l.length i) with
 | error p =>
  rw [hq] at hw
  obtain ⟨tv, j, t, rfl, hty, hj⟩ := hw
  unfold failV
  refine r_ev rfl rfl <| r_ev rfl rfl <| r_ev rfl rfl ?_
  refine r_callN rfl rfl (result_err g1 hg1 tv t j p hty) ?_
  rintro w g2 ⟨rfl, rfl⟩ _
  refine r_ev rfl rfl <| r_ev rfl rfl <| r_ev rfl rfl <| r_storeA 1 rfl rfl rfl rfl (by rfl) (by repeat' (first | exact rfl | assumption | refine all_cons ?_ ?_)) rfl ?_; refine r_ev rfl rfl <| r_storeA 0 rfl rfl rfl rfl (by rfl) (by repeat' (first | exact rfl | assumption | refine all_cons ?_ ?_)) rfl ?_; refine r_nn <| r_retc ?_
  exact r_ret3 [] rfl (res_blk 1 rfl rfl (by rfl)) (.tmp rfl) (res_blk 0 rfl rfl (by rfl)) (by simp) ⟨⟨_, rfl, noT_V _⟩, rfl⟩
 | ok q =>
  obtain ⟨t, j⟩ := q
  rw [hq] at hw
  obtain ⟨tv, rfl, hty, hj1, hj2⟩ := hw
  refine r_ev rfl rfl <| r_ev rfl rfl <| r_ev rfl rfl ?_
  refine r_callN rfl rfl (result_ok g1 tv t j hty) ?_
  rintro w g2 ⟨rfl, rfl⟩ _
  obtain ⟨a, m', c, rfl, ht⟩ := hty.cells5
  refine r_ev rfl rfl <| r_ev rfl rfl <| r_ev rfl rfl <| r_storeA 1 rfl rfl rfl rfl (by rfl) (by repeat' (first | exact rfl | assumption | refine all_cons ?_ ?_)) rfl ?_; refine r_ev rfl rfl <| r_storeA 0 rfl rfl rfl rfl (by rfl) (by repeat' (first | exact rfl | assumption | refine all_cons ?_ ?_)) rfl ?_; refine r_nn <| r_retc ?_
  exact r_ret3 [] rfl (res_blk 1 rfl rfl (by rfl)) (.tmp rfl) (res_blk 0 rfl rfl (by rfl)) (by simp) ⟨⟨_, rfl, ⟨_, rfl, ht⟩⟩, rfl⟩
end Go.Proofs.YtpjehhnaojjanaaGreatDoor
-- sum 1fb859c8bca01423

/- The walks of package readexpr: function, let, arm, analysis. -/
namespace Go.Th
def armRes (l : List Tok) (j : Nat) : Except Int (Ar × Nat) := match nameAt l j 2 with
 | none => .error (failPos l j)
 | some c => if markAt l (j + 1 + (lowers (l.drop (j + 1))).length) [46] then match eread l .expr (j + 1 + (lowers (l.drop (j + 1))).length + 1) with
   | .error p => .error p
   | .ok (b, m) => .ok (.mk (posOf l j) c (lowers (l.drop (j + 1))) b, m)
  else .error (failPos l (j + 1 + (lowers (l.drop (j + 1))).length))
theorem arms_eq (l : List Tok) (p : Int) (e : Ex) (acc : List Ar) (i : Nat) : eread l (.arms p e acc) i = match armRes l i with
  | .error q => .error q
  | .ok (a, m) => if markAt l m [124] then eread l (.arms p e (acc ++ [a])) (m + 1) else if wordAt l m endB then .ok (caseE p e (acc ++ [a]), m + 1) else .error (failPos l m) := by
 rw [eread_step]
 unfold armRes
 simp only [estep]
 cases nameAt l i 2 with
 | none => rfl
 | some c =>
  simp only
  cases markAt l (i + 1 + (lowers (l.drop (i + 1))).length) [46] with
  | false => rfl
  | true =>
   simp only [if_true]
   cases eread l .expr (i + 1 + (lowers (l.drop (i + 1))).length + 1) with
   | error q => rfl
   | ok x => rfl
def funRes (l : List Tok) (pos : Int) (i : Nat) : ER := match nameAt l i 1 with
 | none => .error (failPos l i)
 | some n => if markAt l (i + 1) [46] then match eread l .expr (i + 2) with
   | .error p => .error p
   | .ok (b, k) => .ok (kidsE 4 pos n [b], k)
  else .error (failPos l (i + 1))
end Go.Th
namespace Go.Proofs.YtpjehhnaojjanaaGreatDoor
open Go Go.Eng Go.Th Go.Proofs
set_option maxRecDepth 10000
set_option maxHeartbeats 4000000
attribute [local irreducible] wpList Code.wp Run bodyPost Go.Eng.Ends Exit.then Exit.inBlock Again Wq Kq
def ErrV (v : Value) : Prop := ∃ t u, v = .iface t u ∧ ((t = 282 ∧ ∃ w, u = .agg #[str w]) ∨ (t = 183 ∧ u = .agg #[]))
theorem errV_miss (w : Bytes) : ErrV (missV w) := ⟨_, _, rfl, .inl ⟨rfl, w, rfl⟩⟩
def postE (l : List Tok) (i : Nat) (b : Nat) (lv : Value) (r : ER) (v : Value) (g' : Ghost) (r' : Res) : Prop := match r with
 | .ok (e, j) => ∃ ev, v = .tuple #[ev, .nilIface] ∧ ExV g' ev e ∧ r' = rdE b lv j 0 ∧ i < j ∧ j ≤ l.length
 | .error p => ∃ ev e er, v = .tuple #[ev, er] ∧ ExV g' ev e ∧ ErrV er ∧ ∃ j, j ≤ l.length ∧ r' = rdE b lv j p
theorem nameAt_lt {l : List Tok} {i : Nat} {k : Int} {n : Bytes} (h : nameAt l i k = some n) : i < l.length := by
 by_cases hi : i < l.length
 ·exact hi
 ·rw [nameAt_end hi] at h; cases h
abbrev newEv (k p : Int) : Value := .agg #[.int .i64 k, .int .i64 p, str [], .int .i64 0, .slice none 0 0, .slice none 0 0, .int .i64 0, str [], .int .i64 0, .int .i64 0, .slice none 0 0]
section
variable {l : List Tok} (hb : TB l) (m : Nat) (lv : Value) (b : Nat)
 (hX : ∀ g i, ErrT g → ToksAt g lv l → i ≤ l.length → l.length - i < m → SpecL Tryz.prog 118 [ptr b 0] g (rdE b lv i 0) (postE l i b lv (eread l .expr i)))
include hb hX
theorem efunction_step (g : Ghost) (i : Nat) (hg : ErrT g) (hs : ToksAt g lv l) (_hi : i ≤ l.length) (hm : l.length - i < m + 1) (pos : Int) :
  SpecL Tryz.prog 155 [ptr b 0, newEv 4 pos] g (rdE b lv i 0) (postE l i b lv (funRes l pos i)) := by
 have hb1 := hb.1
 refine spec_of_run Tryz.func155 rfl Tryz.ntmps155 rfl fun E hE => ?_
 refine r_sr ?_
 refine r_box rfl rfl rfl (fun b3 => ?_)
 refine r_alloc rfl (fun b4 => ?_)
 refine r_ev rfl rfl <| r_nn <| r_sr <| r_ev rfl rfl <| r_nn <| r_seq <| r_sr <| r_ev rfl rfl ?_
 refine r_callL 2 rfl rfl rfl (ename_spec g l hb lv hs b i 1) ?_
 rintro v g1 r' ⟨rfl, hv⟩ _
 obtain ⟨cr, hr⟩ : ∃ cr, cr = funRes l pos i := ⟨_, rfl⟩
 rw [← hr]
 unfold funRes at hr
 cases hn : nameAt l i 1 with
 | none =>
  rw [hn] at hv hr
  obtain ⟨rfl, rfl⟩ := hv
  refine r_ev rfl rfl <| r_ev rfl rfl <| r_ev rfl rfl <| r_fieldAddr rfl rfl <| r_store1 1 rfl rfl rfl rfl rfl rfl <| r_ev rfl rfl <| r_nn <| r_sr <| r_ev rfl rfl <| r_neq_nil_held rfl rfl <| r_nn <| r_cond_true rfl <| r_sr <| r_loadB 1 rfl rfl rfl (by rfl) ?_; refine r_ev rfl rfl <| r_storeA 0 rfl rfl rfl rfl (by rfl) (by repeat' (first | exact rfl | assumption | refine all_cons ?_ ?_)) rfl ?_; refine r_ev rfl rfl <| r_nn <| r_retc <| r_then_ret ?_
  refine r_ret2 [_] rfl (res_blk 0 rfl rfl (by rfl)) (.tmp rfl) (.cons _ (.cons _ (List.Sublist.refl _))) ⟨_, rfl, ?_⟩
  rw [hr]
  exact ⟨_, _, _, rfl, leafE_V g1 4 pos [] 0, errV_miss _, i, _hi, rfl⟩
 | some n =>
  rw [hn] at hv hr
  simp only at hr
  obtain ⟨rfl, rfl⟩ := hv
  have hlt := nameAt_lt hn
  refine r_ev rfl rfl <| r_ev rfl rfl <| r_ev rfl rfl <| r_fieldAddr rfl rfl <| r_store1 1 rfl rfl rfl rfl rfl rfl <| r_ev rfl rfl <| r_nn <| r_sr <| r_ev rfl rfl <| r_neq_nil_nil rfl rfl <| r_nn <| r_cond_false rfl <| r_skip <| r_then_normal ?_; refine r_seq <| r_sr <| r_ev rfl rfl ?_
  refine r_callL 2 rfl rfl rfl (ewant_spec g1 l hb lv hs b (i + 1) 5 [46]) ?_
  rintro v g2 r' ⟨rfl, hv⟩ _
  rcases hv with ⟨hk, rfl, rfl⟩ | ⟨hk, rfl, rfl⟩
  ·have hlt2 := tokAt_lt hk
   refine r_ev rfl rfl <| r_nn <| r_sr <| r_ev rfl rfl <| r_neq_nil_nil rfl rfl <| r_nn <| r_cond_false rfl <| r_skip <| r_then_normal <| r_sr <| r_ev rfl rfl ?_
   refine r_callL 2 rfl rfl rfl (hX g2 (i + 2) hg hs (by omega) (by omega)) ?_
   rintro v g3 r' hw hle
   rw [show markAt l _ _ = true from hk] at hr
   simp only [if_true] at hr
   cases hq : eread l .expr (i + 2) with
   | error p =>
    rw [hq] at hw hr
    obtain ⟨ev, e, er, rfl, he, ⟨t, u, rfl, her⟩, j, hj, rfl⟩ := hw
    obtain ⟨a1, m1, c1, a2, m2, c2, a3, m3, c3, rfl, he'⟩ := he.form
    refine r_ev rfl rfl <| r_ev rfl rfl <| r_ev rfl rfl ?_
    refine r_alloc rfl (fun b7 => ?_)
    refine r_storeA 0 rfl rfl rfl rfl (by rfl) (by repeat' (first | exact rfl | assumption | refine all_cons ?_ ?_)) rfl ?_; refine r_ev rfl rfl <| r_nn <| r_sr <| r_loadB 0 rfl rfl rfl (by rfl) ?_
    refine r_buildSlice rfl rfl (by rfl) (by rfl) (by rfl) (by rfl) (by rfl) (fun b8 => ?_)
    refine r_publishRow (fun g4 hg4 hs4 => ?_)
    refine r_fieldAddr rfl rfl <| r_store1 2 rfl rfl rfl rfl rfl rfl <| r_nn <| r_sr <| r_loadB 2 rfl rfl rfl (by rfl) ?_; refine r_ev rfl rfl <| r_storeA 1 rfl rfl rfl rfl (by rfl) (by repeat' (first | exact rfl | assumption | refine all_cons ?_ ?_)) rfl ?_; refine r_ev rfl rfl <| r_nn <| r_retc ?_
    refine r_ret2 [_] rfl (res_blk 1 rfl rfl (by rfl)) (.tmp rfl) (.cons _ (.cons _ (.cons _ (List.Sublist.refl _)))) ⟨_, rfl, ?_⟩
    rw [hr]
    exact ⟨_, _, _, rfl, kidsE_V (ks := [e]) g4 4 pos n hs4 (exs1 (he'.mono hg4)), ⟨t, u, rfl, her⟩, j, hj, rfl⟩
   | ok q =>
    obtain ⟨e, j⟩ := q
    rw [hq] at hw hr
    obtain ⟨ev, rfl, he, rfl, hj1, hj2⟩ := hw
    obtain ⟨a1, m1, c1, a2, m2, c2, a3, m3, c3, rfl, he'⟩ := he.form
    refine r_ev rfl rfl <| r_ev rfl rfl <| r_ev rfl rfl ?_
    refine r_alloc rfl (fun b7 => ?_)
    refine r_storeA 0 rfl rfl rfl rfl (by rfl) (by repeat' (first | exact rfl | assumption | refine all_cons ?_ ?_)) rfl ?_; refine r_ev rfl rfl <| r_nn <| r_sr <| r_loadB 0 rfl rfl rfl (by rfl) ?_
    refine r_buildSlice rfl rfl (by rfl) (by rfl) (by rfl) (by rfl) (by rfl) (fun b8 => ?_)
    refine r_publishRow (fun g4 hg4 hs4 => ?_)
    refine r_fieldAddr rfl rfl <| r_store1 2 rfl rfl rfl rfl rfl rfl <| r_nn <| r_sr <| r_loadB 2 rfl rfl rfl (by rfl) ?_; refine r_ev rfl rfl <| r_storeA 1 rfl rfl rfl rfl (by rfl) (by repeat' (first | exact rfl | assumption | refine all_cons ?_ ?_)) rfl ?_; refine r_ev rfl rfl <| r_nn <| r_retc ?_
    refine r_ret2 [_] rfl (res_blk 1 rfl rfl (by rfl)) (.tmp rfl) (.cons _ (.cons _ (.cons _ (List.Sublist.refl _)))) ⟨_, rfl, ?_⟩
    rw [hr]
    exact ⟨_, rfl, kidsE_V g4 4 pos n hs4 (exs1 (he'.mono hg4)), rfl, by omega, hj2⟩
  ·rw [show markAt l _ _ = false from hk] at hr
   simp only [Bool.false_eq_true, if_false] at hr
   refine r_ev rfl rfl <| r_nn <| r_sr <| r_ev rfl rfl <| r_neq_nil_held rfl rfl <| r_nn <| r_cond_true rfl <| r_sr <| r_loadB 1 rfl rfl rfl (by rfl) ?_; refine r_ev rfl rfl <| r_storeA 0 rfl rfl rfl rfl (by rfl) (by repeat' (first | exact rfl | assumption | refine all_cons ?_ ?_)) rfl ?_; refine r_ev rfl rfl <| r_nn <| r_retc <| r_then_ret ?_
   refine r_ret2 [_] rfl (res_blk 0 rfl rfl (by rfl)) (.tmp rfl) (.cons _ (.cons _ (List.Sublist.refl _))) ⟨_, rfl, ?_⟩
   rw [hr]
   exact ⟨_, _, _, rfl, leafE_V g2 4 pos n 0, errV_miss _, i + 1, hlt, rfl⟩
theorem elet_step (g : Ghost) (i : Nat) (hg : ErrT g) (hs : ToksAt g lv l) (_hi : i ≤ l.length) (hm : l.length - i < m + 1) (kd pos : Int) :
  SpecL Tryz.prog 156 [ptr b 0, newEv kd pos] g (rdE b lv i 0) (postE l i b lv (letStep l (eread l) kd pos i)) := by
 have hb1 := hb.1
 refine spec_of_run Tryz.func156 rfl Tryz.ntmps156 rfl fun E hE => ?_
 refine r_sr ?_
 refine r_box rfl rfl rfl (fun b3 => ?_)
 refine r_alloc rfl (fun b4 => ?_)
 refine r_ev rfl rfl <| r_nn <| r_sr <| r_ev rfl rfl <| r_nn <| r_seq <| r_sr <| r_ev rfl rfl ?_
 refine r_callL 2 rfl rfl rfl (ename_spec g l hb lv hs b i 1) ?_
 rintro v g1 r' ⟨rfl, hv⟩ _
 obtain ⟨cr, hr⟩ : ∃ cr, cr = letStep l (eread l) kd pos i := ⟨_, rfl⟩
 rw [← hr]
 unfold letStep at hr
 cases hn : nameAt l i 1 with
 | none =>
  rw [hn] at hv hr
  obtain ⟨rfl, rfl⟩ := hv
  refine r_ev rfl rfl <| r_ev rfl rfl <| r_ev rfl rfl <| r_fieldAddr rfl rfl <| r_store1 1 rfl rfl rfl rfl rfl rfl <| r_ev rfl rfl <| r_nn <| r_sr <| r_ev rfl rfl <| r_neq_nil_held rfl rfl <| r_nn <| r_cond_true rfl <| r_sr <| r_loadB 1 rfl rfl rfl (by rfl) ?_; refine r_ev rfl rfl <| r_storeA 0 rfl rfl rfl rfl (by rfl) (by repeat' (first | exact rfl | assumption | refine all_cons ?_ ?_)) rfl ?_; refine r_ev rfl rfl <| r_nn <| r_retc <| r_then_ret ?_
  refine r_ret2 [_] rfl (res_blk 0 rfl rfl (by rfl)) (.tmp rfl) (.cons _ (.cons _ (List.Sublist.refl _))) ⟨_, rfl, ?_⟩
  rw [hr]
  exact ⟨_, _, _, rfl, leafE_V g1 kd pos [] 0, errV_miss _, i, _hi, rfl⟩
 | some n =>
  rw [hn] at hv hr
  simp only at hr
  obtain ⟨rfl, rfl⟩ := hv
  have hlt := nameAt_lt hn
  refine r_ev rfl rfl <| r_ev rfl rfl <| r_ev rfl rfl <| r_fieldAddr rfl rfl <| r_store1 1 rfl rfl rfl rfl rfl rfl <| r_ev rfl rfl <| r_nn <| r_sr <| r_ev rfl rfl <| r_neq_nil_nil rfl rfl <| r_nn <| r_cond_false rfl <| r_skip <| r_then_normal ?_; refine r_seq <| r_sr <| r_ev rfl rfl ?_
  refine r_callL 2 rfl rfl rfl (ewant_spec g1 l hb lv hs b (i + 1) 5 [61]) ?_
  rintro v g2 r' ⟨rfl, hv⟩ _
  rcases hv with ⟨hk, rfl, rfl⟩ | ⟨hk, rfl, rfl⟩
  ·have hlt2 := tokAt_lt hk
   refine r_ev rfl rfl <| r_nn <| r_sr <| r_ev rfl rfl <| r_neq_nil_nil rfl rfl <| r_nn <| r_cond_false rfl <| r_skip <| r_then_normal <| r_sr <| r_ev rfl rfl ?_
   refine r_callL 2 rfl rfl rfl (hX g2 (i + 2) hg hs (by omega) (by omega)) ?_
   rintro v g3 r' hw hle
   have hg3 := hg.mono hle
   have hs3 := hs.mono hle
   rw [show markAt l _ _ = true from hk] at hr
   simp only [if_true] at hr
   cases hq : eread l .expr (i + 2) with
   | error p =>
    rw [hq] at hw hr
    obtain ⟨ev, e, er, rfl, he, ⟨t, u, rfl, her⟩, j, hj, rfl⟩ := hw
    obtain ⟨a1, m1, c1, a2, m2, c2, a3, m3, c3, rfl, he'⟩ := he.form
    refine r_ev rfl rfl <| r_ev rfl rfl <| r_ev rfl rfl ?_
    refine r_alloc rfl (fun b7 => ?_)
    refine r_storeA 0 rfl rfl rfl rfl (by rfl) (by repeat' (first | exact rfl | assumption | refine all_cons ?_ ?_)) rfl ?_; refine r_ev rfl rfl <| r_nn <| r_seq <| r_sr <| r_ev rfl rfl <| r_neq_nil_held rfl rfl <| r_nn <| r_cond_true rfl <| r_sr <| r_loadB 2 rfl rfl rfl (by rfl) ?_; refine r_ev rfl rfl <| r_storeA 1 rfl rfl rfl rfl (by rfl) (by repeat' (first | exact rfl | assumption | refine all_cons ?_ ?_)) rfl ?_; refine r_ev rfl rfl <| r_nn <| r_retc <| r_then_ret ?_
    refine r_ret2 [_] rfl (res_blk 1 rfl rfl (by rfl)) (.tmp rfl) (.cons _ (.cons _ (.cons _ (List.Sublist.refl _)))) ⟨_, rfl, ?_⟩
    rw [hr]
    exact ⟨_, _, _, rfl, leafE_V g3 kd pos n 0, ⟨t, u, rfl, her⟩, j, hj, rfl⟩
   | ok q =>
    obtain ⟨e, j⟩ := q
    rw [hq] at hw hr
    obtain ⟨ev, rfl, he, rfl, hj1, hj2⟩ := hw
    obtain ⟨a1, m1, c1, a2, m2, c2, a3, m3, c3, rfl, he'⟩ := he.form
    simp only at hr
    refine r_ev rfl rfl <| r_ev rfl rfl <| r_ev rfl rfl ?_
    refine r_alloc rfl (fun b7 => ?_)
    refine r_storeA 0 rfl rfl rfl rfl (by rfl) (by repeat' (first | exact rfl | assumption | refine all_cons ?_ ?_)) rfl ?_; refine r_ev rfl rfl <| r_nn <| r_seq <| r_sr <| r_ev rfl rfl <| r_neq_nil_nil rfl rfl <| r_nn <| r_cond_false rfl <| r_skip <| r_then_normal <| r_seq <| r_sr <| r_ev rfl rfl ?_
    refine r_callL 3 rfl rfl rfl (ewant_spec g3 l hb lv hs3 b j 4 inB) ?_
    rintro v g4 r' ⟨rfl, hv⟩ _
    rcases hv with ⟨hk2, rfl, rfl⟩ | ⟨hk2, rfl, rfl⟩
    ·have hlt3 := tokAt_lt hk2
     refine r_ev rfl rfl <| r_nn <| r_sr <| r_ev rfl rfl <| r_neq_nil_nil rfl rfl <| r_nn <| r_cond_false rfl <| r_skip <| r_then_normal <| r_sr <| r_ev rfl rfl ?_
     refine r_callL 3 rfl rfl rfl (hX g4 (j + 1) hg3 hs3 (by omega) (by omega)) ?_
     rintro v g5 r' hw hle5
     rw [show wordAt l _ _ = true from hk2] at hr
     simp only [if_true] at hr
     cases hq2 : eread l .expr (j + 1) with
     | error p =>
      rw [hq2] at hw hr
      obtain ⟨ev, e2, er, rfl, he2, ⟨t, u, rfl, her⟩, j2, hj2', rfl⟩ := hw
      obtain ⟨d1, n1, o1, d2, n2, o2, d3, n3, o3, rfl, he2'⟩ := he2.form
      refine r_ev rfl rfl <| r_ev rfl rfl <| r_ev rfl rfl ?_
      refine r_alloc rfl (fun b8 => ?_)
      refine r_storeA 0 rfl rfl rfl rfl (by rfl) (by repeat' (first | exact rfl | assumption | refine all_cons ?_ ?_)) rfl ?_; refine r_ev rfl rfl <| r_nn <| r_sr <| r_loadB 1 rfl rfl rfl (by rfl) ?_; refine r_loadB 0 rfl rfl rfl (by rfl) ?_
      refine r_buildSlice rfl rfl (by rfl) (by rfl) (by rfl) (by rfl) (by rfl) (fun b9 => ?_)
      refine r_publishRow (fun g6 hg6 hs6 => ?_)
      refine r_fieldAddr rfl rfl <| r_store1 3 rfl rfl rfl rfl rfl rfl <| r_nn <| r_sr <| r_loadB 3 rfl rfl rfl (by rfl) ?_; refine r_ev rfl rfl <| r_storeA 2 rfl rfl rfl rfl (by rfl) (by repeat' (first | exact rfl | assumption | refine all_cons ?_ ?_)) rfl ?_; refine r_ev rfl rfl <| r_nn <| r_retc ?_
      refine r_ret2 [_] rfl (res_blk 2 rfl rfl (by rfl)) (.tmp rfl) (.cons _ (.cons _ (.cons _ (.cons _ (List.Sublist.refl _))))) ⟨_, rfl, ?_⟩
      rw [hr]
      exact ⟨_, _, _, rfl, kidsE_V (ks := [e, e2]) g6 kd pos n hs6 (exs2 ((he'.mono hle5).mono hg6) (he2'.mono hg6)), ⟨t, u, rfl, her⟩, j2, hj2', rfl⟩
     | ok q =>
      obtain ⟨e2, j2⟩ := q
      rw [hq2] at hw hr
      obtain ⟨ev, rfl, he2, rfl, hk1, hk2'⟩ := hw
      obtain ⟨d1, n1, o1, d2, n2, o2, d3, n3, o3, rfl, he2'⟩ := he2.form
      refine r_ev rfl rfl <| r_ev rfl rfl <| r_ev rfl rfl ?_
      refine r_alloc rfl (fun b8 => ?_)
      refine r_storeA 0 rfl rfl rfl rfl (by rfl) (by repeat' (first | exact rfl | assumption | refine all_cons ?_ ?_)) rfl ?_; refine r_ev rfl rfl <| r_nn <| r_sr <| r_loadB 1 rfl rfl rfl (by rfl) ?_; refine r_loadB 0 rfl rfl rfl (by rfl) ?_
      refine r_buildSlice rfl rfl (by rfl) (by rfl) (by rfl) (by rfl) (by rfl) (fun b9 => ?_)
      refine r_publishRow (fun g6 hg6 hs6 => ?_)
      refine r_fieldAddr rfl rfl <| r_store1 3 rfl rfl rfl rfl rfl rfl <| r_nn <| r_sr <| r_loadB 3 rfl rfl rfl (by rfl) ?_; refine r_ev rfl rfl <| r_storeA 2 rfl rfl rfl rfl (by rfl) (by repeat' (first | exact rfl | assumption | refine all_cons ?_ ?_)) rfl ?_; refine r_ev rfl rfl <| r_nn <| r_retc ?_
      refine r_ret2 [_] rfl (res_blk 2 rfl rfl (by rfl)) (.tmp rfl) (.cons _ (.cons _ (.cons _ (.cons _ (List.Sublist.refl _))))) ⟨_, rfl, ?_⟩
      rw [hr]
      exact ⟨_, rfl, kidsE_V g6 kd pos n hs6 (exs2 ((he'.mono hle5).mono hg6) (he2'.mono hg6)), rfl, by omega, hk2'⟩
    ·rw [show wordAt l _ _ = false from hk2] at hr
     simp only [Bool.false_eq_true, if_false] at hr
     refine r_ev rfl rfl <| r_nn <| r_sr <| r_ev rfl rfl <| r_neq_nil_held rfl rfl <| r_nn <| r_cond_true rfl <| r_sr <| r_loadB 2 rfl rfl rfl (by rfl) ?_; refine r_ev rfl rfl <| r_storeA 1 rfl rfl rfl rfl (by rfl) (by repeat' (first | exact rfl | assumption | refine all_cons ?_ ?_)) rfl ?_; refine r_ev rfl rfl <| r_nn <| r_retc <| r_then_ret ?_
     refine r_ret2 [_] rfl (res_blk 1 rfl rfl (by rfl)) (.tmp rfl) (.cons _ (.cons _ (.cons _ (List.Sublist.refl _)))) ⟨_, rfl, ?_⟩
     rw [hr]
     exact ⟨_, _, _, rfl, leafE_V g4 kd pos n 0, errV_miss _, j, hj2, rfl⟩
  ·rw [show markAt l _ _ = false from hk] at hr
   simp only [Bool.false_eq_true, if_false] at hr
   refine r_ev rfl rfl <| r_nn <| r_sr <| r_ev rfl rfl <| r_neq_nil_held rfl rfl <| r_nn <| r_cond_true rfl <| r_sr <| r_loadB 1 rfl rfl rfl (by rfl) ?_; refine r_ev rfl rfl <| r_storeA 0 rfl rfl rfl rfl (by rfl) (by repeat' (first | exact rfl | assumption | refine all_cons ?_ ?_)) rfl ?_; refine r_ev rfl rfl <| r_nn <| r_retc <| r_then_ret ?_
   refine r_ret2 [_] rfl (res_blk 0 rfl rfl (by rfl)) (.tmp rfl) (.cons _ (.cons _ (List.Sublist.refl _))) ⟨_, rfl, ?_⟩
   rw [hr]
   exact ⟨_, _, _, rfl, leafE_V g2 kd pos n 0, errV_miss _, i + 1, hlt, rfl⟩
end
end Go.Proofs.YtpjehhnaojjanaaGreatDoor
-- sum d66b9549ef83f7fc


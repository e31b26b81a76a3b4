/- errors.As at readtype's two kinds of error: the stand-ins that it calls, as closed facts. -/
import Derived.Stop.Asserts
import Derived.Test.YtlnjfkfojkgiiaaGreatDoorK12
open Go Go.aZ Go.Th Go.Proofs Tryz
set_option maxRecDepth 10000
set_option maxHeartbeats 4000000
attribute [local irreducible] wpList Code.wp ah bodyPost Go.aZ.Ends Exit.then Exit.inBlock dJ Wq Kq
namespace Go.Proofs.YtlnjfkfojkgiiaaGreatDoor
open Go Go.aZ Go.Th Go.Proofs Go.Extern Go.RowKit
noncomputable abbrev jY (t : Nat) : Value := typeHandle prog t
noncomputable abbrev nA (t : Nat) : Value := .iface 241 (.agg #[jY t])
noncomputable abbrev lK (t b fl : Nat) : Value := .agg #[jY t, ptr b 0, .int .u64 fl]
instance : Ext prog 138 (fun args => ReflectliteValue.unpack (args.getD 0 (.tuple #[]))) := ⟨_, func138, kR, kR, kR, kR⟩
instance : Ext prog 139 (ReflectliteValue.methodAny (ReflectliteValue.valueError "reflectlite.Value.Type" 0) (fun t _ _ _ => ReflectliteType.toType t)) := ⟨_, func139, kR, kR, kR, kR⟩
instance : Ext prog 140 (ReflectliteValue.method (ReflectliteValue.valueError "reflectlite.Value.IsNil" 0) ReflectliteValue.isNil) := ⟨_, func140, kR, kR, kR, kR⟩
instance : Ext prog 173 (ReflectliteValue.method (ReflectliteValue.valueError "reflectlite.Value.Elem" 0) ReflectliteValue.elem) := ⟨_, func173, kR, kR, kR, kR⟩
instance : Ext prog 174 ReflectliteValue.set := ⟨_, func174, kR, kR, kR, kR⟩
instance : Ext prog 164 ReflectliteType.typeOf := ⟨_, func164, kR, kR, kR, kR⟩
instance : Ext prog 272 (ReflectliteType.abiMethod fun t => do pure (.int .u8 (← Rtype.kind t))) := ⟨_, func272, kR, kR, kR, kR⟩
instance : Ext prog 285 (ReflectliteType.method ReflectliteType.elem) := ⟨_, func285, kR, kR, kR, kR⟩
instance : Ext prog 286 (ReflectliteType.relation "Implements" ReflectliteType.implements_) := ⟨_, func286, kR, kR, kR, kR⟩
instance : Ext prog 283 (ReflectliteType.relation "AssignableTo" ReflectliteType.assignableTo) := ⟨_, func283, kR, kR, kR, kR⟩
theorem UE (b : Nat) (w : World) : (ReflectliteValue.unpack (.iface 157 (ptr b 0))).run prog w = .ok (lK 157 w.heap.size 150) (w.alloc (.cells #[ptr b 0] 157)) := by kernel_rfl
theorem UF (p : Int) (w : World) : (ReflectliteValue.unpack (.iface 155 (.int .i64 p))).run prog w = .ok (lK 155 w.heap.size 130) (w.alloc (.cells #[.int .i64 p] 155)) := by kernel_rfl
theorem UG (b : Nat) (w : World) : (ReflectliteValue.methodAny (ReflectliteValue.valueError "reflectlite.Value.Type" 0) (fun t _ _ _ => ReflectliteType.toType t) #[lK 157 b 150]).run prog w = .ok (nA 157) w := by kernel_rfl
theorem LR (h : Value) (w : World) : (Go.method (prog.types.size + Made.depth) 241 (.agg #[h]) "Kind").run prog w = .ok (272, h) w := by kernel_rfl
theorem UH (h : Value) (w : World) : (Go.method (prog.types.size + Made.depth) 241 (.agg #[h]) "Elem").run prog w = .ok (285, .agg #[h]) w := by kernel_rfl
theorem UI (h : Value) (w : World) : (Go.method (prog.types.size + Made.depth) 241 (.agg #[h]) "Implements").run prog w = .ok (286, .agg #[h]) w := by kernel_rfl
theorem LS (h : Value) (w : World) : (Go.method (prog.types.size + Made.depth) 241 (.agg #[h]) "AssignableTo").run prog w = .ok (283, .agg #[h]) w := by kernel_rfl
theorem UJ (p : Int) (w : World) : (Go.method (prog.types.size + Made.depth) 230 (.agg #[.int .i64 p]) "Unwrap").run prog w = .ok (281, .agg #[.int .i64 p]) w := by kernel_rfl
theorem UK (w : World) : ((ReflectliteType.abiMethod fun t => do pure (.int .u8 (← Rtype.kind t))) #[jY 157]).run prog w = .ok (.int .u8 22) w := by kernel_rfl
theorem UL (w : World) : ((ReflectliteType.abiMethod fun t => do pure (.int .u8 (← Rtype.kind t))) #[jY 155]).run prog w = .ok (.int .u8 2) w := by kernel_rfl
theorem UM (w : World) : (ReflectliteType.method ReflectliteType.elem #[.agg #[jY 157]]).run prog w = .ok (nA 155) w := by kernel_rfl
theorem UN (w : World) : (ReflectliteType.relation "Implements" ReflectliteType.implements_ #[.agg #[jY 155], nA 131]).run prog w = .ok (.bool true) w := by kernel_rfl
theorem UO (v : Value) (w : World) : (ReflectliteType.typeOf #[.iface 230 v]).run prog w = .ok (nA 230) w := by kernel_rfl
theorem UP (v : Value) (w : World) : (ReflectliteType.typeOf #[.iface 155 v]).run prog w = .ok (nA 155) w := by kernel_rfl
theorem UQ (w : World) : (ReflectliteType.relation "AssignableTo" ReflectliteType.assignableTo #[.agg #[jY 230], nA 155]).run prog w = .ok (.bool false) w := by kernel_rfl
theorem UR (w : World) : (ReflectliteType.relation "AssignableTo" ReflectliteType.assignableTo #[.agg #[jY 155], nA 155]).run prog w = .ok (.bool true) w := by kernel_rfl
theorem US (v : Value) (w : World) : (Instr.typeAssert (.iface 230 v) 131 245 true).run prog w = .ok (.tuple #[.nilIface, .bool false]) w :=
 run_typeAssert_lacksB underlying245 kR kR v _ w
theorem UT (v : Value) (w : World) : (Instr.typeAssert (.iface 230 v) 131 248 true).run prog w = .ok (.tuple #[.iface 230 v, .bool true]) w :=
 run_typeAssert_hasB underlying248 kR v _ w
theorem LU (z : Sem Value) (f : TypeId → Addr → Nat → Nat → Sem Value) (v : Value) :
  ReflectliteValue.method z f #[v] = (do match ← ReflectliteValue.parts v with | none => z | some (t, a, fl) => f t a fl (fl % 32)) := rfl
theorem LV (b : Nat) (w : World) : (ReflectliteValue.parts (lK 157 b 150)).run prog w = .ok (some (157, ⟨b, 0, none⟩, 150)) w := by kernel_rfl
theorem UU (b : Nat) (w : World) : (ReflectliteValue.parts (lK 155 b 386)).run prog w = .ok (some (155, ⟨b, 0, none⟩, 386)) w := by kernel_rfl
theorem UW (b : Nat) (w : World) : (ReflectliteValue.parts (lK 155 b 130)).run prog w = .ok (some (155, ⟨b, 0, none⟩, 130)) w := by kernel_rfl
theorem UX (b : Nat) (v b' : Nat) (w : World) (h : w.cell? ⟨b, 0, none⟩ = some (ptr b' v)) :
  (ReflectliteValue.method (ReflectliteValue.valueError "reflectlite.Value.IsNil" 0) ReflectliteValue.isNil #[lK 157 b 150]).run prog w = .ok (.bool false) w := by
 rw [LU]
 simp only [Sem.run_bind, LV, Result.andThen]
 simp [ReflectliteValue.isNil, loadVar, isAgg, underlying, underlying157, h, Result.andThen]
theorem UY (w : World) : (Rtype.elem? 157).run prog w = .ok (some 155) w := by kernel_rfl
theorem UZ (b : Nat) (w : World) : (ReflectliteValue.mk 155 ⟨b, 0, none⟩ ReflectliteValue.flagAddr).run prog w = .ok (lK 155 b 386) w := by kernel_rfl
theorem U0 (b b' : Nat) (w : World) (h : w.cell? ⟨b, 0, none⟩ = some (ptr b' 0)) :
  (ReflectliteValue.method (ReflectliteValue.valueError "reflectlite.Value.Elem" 0) ReflectliteValue.elem #[lK 157 b 150]).run prog w = .ok (lK 155 b' 386) w := by
 rw [LU]
 simp only [Sem.run_bind, LV, Result.andThen]
 simp [ReflectliteValue.elem, loadVar, isAgg, underlying, underlying157, h, Result.andThen, UY, UZ]
theorem U1 (v x : Value) : ReflectliteValue.set #[v, x] = (do
  let (some (dst, a, fl), some (src, b, _)) := (← ReflectliteValue.parts v, ← ReflectliteValue.parts x)
   | unsupported (.noEntry "extern/(internal/reflectlite.Value).Set.zeroValue")
  if fl / ReflectliteValue.flagAddr % 2 == 0 then unsupported (.noEntry "extern/(internal/reflectlite.Value).Set.unaddressable")
  let val ← loadVar src b
  if ← Rtype.directlyAssignable dst src then storeVar dst a val
  else if ← Rtype.implements dst src then
   if (← Rtype.kind src) == 20 then
    match val with
    | .nilIface => unsupported (.noEntry "extern/reflectlite: a nil value of one interface type handed on as a value of another")
    | _ => storeVar dst a val
   else storeVar dst a (.iface src val)
  else panicString ("reflectlite.Set: value of type " ++ (← Rtype.spelt src) ++ " is not assignable to type " ++ (← Rtype.spelt dst))
  pure (.tuple #[])) := rfl
theorem U2 (w : World) : (Rtype.directlyAssignable 155 155).run prog w = .ok true w := by kernel_rfl
theorem U3 : (prog.info? 155).map (·.size) = some 1 := by kernel_rfl
theorem U4 (b s T : Nat) (p q : Int) (w : World) (hs : w.cell? ⟨s, 0, none⟩ = some (.int .i64 p)) (hb : w.heap[b]? = some (.cells #[.int .i64 q] T (0, 0))) :
  (ReflectliteValue.set #[lK 155 b 386, lK 155 s 130]).run prog w = .ok (.tuple #[]) (w.setRow b #[.int .i64 p]) := by
 have bG := LW (P := prog) (T := 155) (b := b) (off := 0) (sz := 1) (T0 := T) (cs := [.int .i64 q]) (vs := [.int .i64 p]) (cs' := [.int .i64 p]) (v := .int .i64 p) U3 rfl rfl rfl rfl w hb
 rw [U1]
 simp only [Sem.run_bind, UU, UW, Result.andThen]
 simp [ReflectliteValue.flagAddr, loadVar, isAgg, underlying, underlying155, hs, Result.andThen, U2, bG]
open Go Go.aZ Go.Th Go.Proofs Go.Extern Go.RowKit
def fN (g : ab) : Prop := g 0 0 = some (nA 131)
theorem fN.mono {g g' : ab} (h : fN g) (hle : ab.le g g') : fN g' := hle _ _ _ h
theorem U5 (g : ab) (p : Int) : Pure prog 281 [.agg #[.int .i64 p]] g (.iface 155 (.int .i64 p)) := by
 refine aw func281 rfl ntmps281 rfl fun E hE => ?_
 refine aS <| aP rfl rfl rfl (fun b => ?_); refine wz.i.b.a.Bh.v.g.c.b.a.z ?_
 exact ao [] rfl rfl sM ⟨rfl, rfl, rfl⟩
abbrev uQ (b : Nat) (p : Int) : aA := .ae b 155 [.int .i64 p]
theorem U6 (g : ab) (p q : Int) (b b5 : Nat) : aZ.Spec prog 141 [lL p, .iface 157 (ptr b 0), lK 157 b5 150, nA 155] g [uQ b q, .ae b5 157 [ptr b 0]] fun v g' own' => v = .bool true ∧ g' = g ∧ own' = [uQ b p, .ae b5 157 [ptr b 0]] := by
 refine aw func141 rfl ntmps141 rfl fun E hE => ?_
 refine aS ?_
 refine aP rfl rfl rfl (fun b6 => ?_)
 refine wz.p.b.a.z ?_
 refine aX (ι := Bool) (fun c => [(0, if c then .iface 155 (.int .i64 p) else lL p), (1, .iface 157 (ptr b 0)), (3, nA 155), (6, ptr b6 0)]) (fun _ => g)
  (fun _ => [.ae b6 189 [jY 157, ptr b5 0, .int .u64 150], uQ b q, .ae b5 157 [ptr b 0]]) (fun _ => True) (fun c => if c then 0 else 1) false trivial ⟨rfl, rfl, rfl, rfl, trivial⟩ rfl rfl ?_
 rintro c -
 cases c with
 | false =>
  try dsimp only
  unfold lL
  refine wz.a.c.e.p.z ?_
  refine cX rfl (uF rfl (UO _)) ?_; refine wz.a.z ?_; refine cX rfl (qV rfl rfl (LS _) UQ) ?_; refine wz.a.c.e.d.j.o.b.z ?_; refine cX rfl (zQ rfl (US _)) ?_; refine wz.c.p.b.a.c.d.j.o.b.a.h.h.h.a.a.c.b.a.a.a.a.a.z ?_; refine cX rfl (zQ rfl (UT _)) ?_; refine wz.a.c.b.a.c.t.b.a.a.z ?_
  refine LX rfl rfl rfl (UJ p) (U5 g p) ?_
  refine wz.d.y.y.j.o.b.Bt.a.c.b.a.z ?_
  exact aM true trivial dC ⟨rfl, rfl, rfl, rfl, trivial⟩ rfl rfl
 | true =>
  try dsimp only
  refine wz.a.c.e.p.z ?_; refine cX rfl (uF rfl (UP _)) ?_; refine wz.a.z ?_; refine cX rfl (qV rfl rfl (LS _) UR) ?_; refine wz.G.c.t.b.z ?_
  refine cX rfl (LY rfl (fun w hI => U0 b5 b w (zR (i := 2) hI rfl rfl))) ?_
  refine wz.a.z ?_
  refine LZ (mk := fun s => lK 155 s 130) rfl rfl (UF p) (fun b7 => ?_)
  skip
  refine U7 (b := b) 2 rfl rfl rfl (fun w hI => U4 b b7 _ p q w (zR (i := 0) hI rfl rfl) (mq (i := 2) hI rfl)) ?_
  refine wz.x.l.x.l.i.b.a.c.b.z ?_
  exact ao [_, _] rfl rfl sB ⟨rfl, rfl, rfl⟩
theorem U8 (g : ab) (v : Value) : Pure prog 105 [.nilIface, v] g (.bool false) := by
 refine aw func105 rfl ntmps105 rfl fun E hE => ?_
 refine wz.a.c.e.b.a.c.z ?_; refine zS rfl rfl <| wz.l.i.b.a.c.t.b.z ?_
 exact ao [] rfl rfl sM ⟨rfl, rfl, rfl⟩
theorem U9 (g : ab) (hg : fN g) (p q : Int) (b : Nat) : cR prog 105 [lL p, .iface 157 (ptr b 0)] g (uQ b q) fun v g' r' => v = .bool true ∧ g' = g ∧ r' = uQ b p := by
 refine aw func105 rfl ntmps105 rfl fun E hE => ?_
 unfold lL
 refine wz.a.c.d.j.o.b.Bt.a.c.e.d.j.o.b.Bt.a.c.e.b.a.c.z ?_
 refine LZ (mk := fun s => lK 157 s 150) rfl rfl (UE b) (fun b5 => ?_)
 skip
 refine aj rfl (fun b4 => ?_)
 refine wz.G.c.b.q.z ?_
 refine cX rfl (uF rfl (UG b5)) ?_
 refine wz.a.c.e.b.a.z ?_; refine cX rfl (qV rfl rfl (LR _) UK) ?_; refine wz.k.G.k.a.a.z ?_
 refine cX rfl (LY rfl (fun w hI => UX b5 0 b w (zR (i := 1) hI rfl rfl))) ?_
 refine wz.a.c.d.j.o.b.a.z ?_; refine cX rfl (qV rfl rfl (UH _) UM) ?_; refine wz.a.c.e.b.a.z ?_; refine cX rfl (qV rfl rfl (LR _) UL) ?_; refine wz.k.u.a.a.z ?_; refine cj rfl rfl (eT hg) ?_; refine wz.k.z ?_; refine cX rfl (qV rfl rfl (UI _) UN) ?_; refine wz.a.G.a.a.c.d.j.o.b.a.u.z ?_
 refine jN (lent := [uQ b q, .ae b5 157 [ptr b 0]]) (kept := [.ae b4 189 [jY 157, ptr b5 0, .int .u64 150]]) rfl rfl (List.Perm.trans (List.Perm.cons _ (List.Perm.swap _ _ _)) (List.perm_append_comm (l₁ := [_]) (l₂ := [_, _]))) (U6 g p q b b5) ?_
 rintro v g' own' ⟨rfl, rfl, rfl⟩ _
 refine wz.i.b.a.z ?_
 exact ao [_] rfl rfl (.cons_cons _ sZ) ⟨_, rfl, rfl, rfl, rfl⟩
def mb : TR → Ty
 | .ok (t, _) => t
 | .error _ => bX
def sW : TR → Int
 | .ok (_, j) => j
 | .error _ => 0
def sX : TR → Int
 | .ok _ => 0
 | .error _ => 3
def sY : TR → Int
 | .ok _ => 0
 | .error p => p
def FP (r : TR) (v : Value) (g' : ab) : Prop := ∃ tv, v = .tuple #[tv, .int .i64 (sW r), .agg #[.int .i64 (sX r), .int .i64 (sY r)]] ∧ aQ g' tv (mb r)
theorem L0 (g : ab) (tv : Value) (t : Ty) (j : Int) (ht : aQ g tv t) : bK prog 77 [tv, .int .i64 j, .nilIface] g fun v g' => v = .tuple #[tv, .int .i64 j, .agg #[.int .i64 0, .int .i64 0]] ∧ g' = g := by
 obtain ⟨a, m', c, rfl, ht⟩ := ht.bA
 refine aw func77 rfl ntmps77 rfl fun E hE => ?_
 refine aS ?_
 refine aP rfl rfl rfl (fun b3 => ?_)
 refine aj rfl (fun b6 => ?_)
 refine wz.a.z ?_
 refine aj rfl (fun b8 => ?_)
 refine wz.c.b.z ?_
 refine aj rfl (fun b9 => ?_)
 refine wz.Bh.a.c.e.b.z ?_
 refine aO rfl rfl (U8 g _) ?_
 refine wz.i.b.B.a.V.K.a.Y.c.d.j.o.b.z ?_
 exact eO [] rfl (ay 2 rfl rfl rL) (.tmp rfl) (ay 1 rfl rfl rL) sM ⟨⟨rfl, rfl⟩, rfl⟩
theorem L1 (g : ab) (hg : fN g) (tv : Value) (t : Ty) (j p : Int) (ht : aQ g tv t) : bK prog 77 [tv, .int .i64 j, lL p] g fun v g' => v = .tuple #[.agg #[.int .i64 0, str [], .int .i64 0, .int .i64 0, .slice none 0 0], .int .i64 0, .agg #[.int .i64 3, .int .i64 p]] ∧ g' = g := by
 obtain ⟨a, m', c, rfl, ht⟩ := ht.bA
 refine aw func77 rfl ntmps77 rfl fun E hE => ?_
 refine aS ?_
 refine aP rfl rfl rfl (fun b3 => ?_)
 refine aj rfl (fun b6 => ?_)
 refine wz.a.z ?_
 refine aj rfl (fun b8 => ?_)
 refine wz.c.b.z ?_
 refine aj rfl (fun b9 => ?_)
 refine wz.Bh.a.c.e.b.z ?_
 refine aG 0 rfl rfl rfl (U9 g hg p 0 b9) ?_
 rintro v g' r' ⟨rfl, rfl, rfl⟩ _
 refine wz.e.t.b.z ?_
 refine bO [2, 1] mixed (fun hG => ?_)
 refine wz.P.z ?_; refine ⟨_, (et rfl rL), ?_⟩; refine wz.R.z ?_; refine ⟨_, (a7 0 rfl rfl rfl), ?_⟩; refine wz.S.z ?_; refine ⟨_, (et rfl rL), ?_⟩
 refine wz.l.i.d.F.f.b.B.Aq.f.b.a.AH.f.b.V.Aw.z ?_
 exact eO [] rfl (ay 2 rfl rfl rL) (.tmp rfl) (ay 1 rfl rfl rL) sM ⟨⟨rfl, rfl⟩, rfl⟩
theorem n_ {l : List Tok} (hb : TB l) (g : ab) (hg : fN g) (v : Value) (i : Int) (hs : cg g v l) : bK prog 37 [v, .int .i64 i] g (FP (a_ l .whole (idxOf l.length i))) := by
 have hi : idxOf l.length i ≤ l.length := by unfold idxOf; split <;> omega
 refine aw func37 rfl ntmps37 rfl fun E hE => ?_
 refine aS ?_
 refine aj rfl (fun b4 => ?_)
 refine wz.a.z ?_
 refine aj rfl (fun b6 => ?_)
 refine wz.a.a.a.c.b.z ?_
 refine aO rfl rfl (index_spec g v l hs i) ?_
 skip
 refine aB rfl rfl (U_ hb g v _ hs hi) ?_
 rintro w g1 hw hle
 have cG := hg.mono hle
 cases hq : a_ l .whole (idxOf l.length i) with
 | error p =>
  rw [hq] at hw
  obtain ⟨tv, j, t, rfl, cO, hj⟩ := hw
  unfold lL
  refine wz.a.a.a.z ?_
  refine aB rfl rfl (L1 g1 cG tv t j p cO) ?_
  rintro w g2 ⟨rfl, rfl⟩ _
  refine wz.i.b.q.a.B.a.a.a.z ?_
  exact eO [] rfl (ay 1 rfl rfl rL) (.tmp rfl) (ay 0 rfl rfl rL) sM ⟨⟨_, rfl, pZ _⟩, rfl⟩
 | ok q =>
  obtain ⟨t, j⟩ := q
  rw [hq] at hw
  obtain ⟨tv, rfl, cO, ik, cE⟩ := hw
  refine wz.a.a.a.z ?_
  refine aB rfl rfl (L0 g1 tv t j cO) ?_
  rintro w g2 ⟨rfl, rfl⟩ _
  obtain ⟨a, m', c, rfl, ht⟩ := cO.bA
  refine wz.i.b.q.a.B.a.a.a.z ?_
  exact eO [] rfl (ay 1 rfl rfl rL) (.tmp rfl) (ay 0 rfl rfl rL) sM ⟨⟨_, rfl, ⟨_, rfl, ht⟩⟩, rfl⟩
end Go.Proofs.YtlnjfkfojkgiiaaGreatDoor
namespace Go.Th
def uR (l : List Tok) (j : Nat) : Except Int (Ar × Nat) := match nameAt l j 2 with
 | none => .error (bH l j)
 | some c => if bB l (j + 1 + (lowers (l.drop (j + 1))).length) [46] then match bt l .expr (j + 1 + (lowers (l.drop (j + 1))).length + 1) with
   | .error p => .error p
   | .ok (b, m) => .ok (.mk (posOf l j) c (lowers (l.drop (j + 1))) b, m)
  else .error (bH l (j + 1 + (lowers (l.drop (j + 1))).length))
theorem Va (l : List Tok) (p : Int) (e : Ex) (acc : List Ar) (i : Nat) : bt l (.aK p e acc) i = match uR l i with
  | .error q => .error q
  | .ok (a, m) => if bB l m [124] then bt l (.aK p e (acc ++ [a])) (m + 1) else if cA l m iD then .ok (eS p e (acc ++ [a]), m + 1) else .error (bH l m) := by
 rw [jy]
 unfold uR
 simp only [dM]
 cases nameAt l i 2 with
 | none => rfl
 | some c =>
  simp only
  cases bB l (i + 1 + (lowers (l.drop (i + 1))).length) [46] with
  | false => rfl
  | true =>
   simp only [if_true]
   cases bt l .expr (i + 1 + (lowers (l.drop (i + 1))).length + 1) with
   | error q => rfl
   | ok x => rfl
def zT (l : List Tok) (pos : Int) (i : Nat) : ER := match nameAt l i 1 with
 | none => .error (bH l i)
 | some n => if bB l (i + 1) [46] then match bt l .expr (i + 2) with
   | .error p => .error p
   | .ok (b, k) => .ok (bC 4 pos n [b], k)
  else .error (bH l (i + 1))
end Go.Th
namespace Go.Proofs.YtlnjfkfojkgiiaaGreatDoor
def p_ (v : Value) : Prop := ∃ t u, v = .iface t u ∧ ((t = 292 ∧ ∃ w, u = .agg #[str w]) ∨ (t = 182 ∧ u = .agg #[]))
theorem mc (w : Bytes) : p_ (uE w) := ⟨_, _, rfl, .inl ⟨rfl, w, rfl⟩⟩
def lM (l : List Tok) (i : Nat) (b : Nat) (lv : Value) (r : ER) (v : Value) (g' : ab) (r' : aA) : Prop := match r with
 | .ok (e, j) => ∃ ev, v = .tuple #[ev, .nilIface] ∧ cT g' ev e ∧ r' = dS b lv j 0 ∧ i < j ∧ j ≤ l.length
 | .error p => ∃ ev e er, v = .tuple #[ev, er] ∧ cT g' ev e ∧ p_ er ∧ ∃ j, j ≤ l.length ∧ r' = dS b lv j p
theorem FQ {l : List Tok} {i : Nat} {k : Int} {n : Bytes} (h : nameAt l i k = some n) : i < l.length := by
 by_cases hi : i < l.length
 ·exact hi
 ·rw [KM hi] at h; cases h
abbrev FR (k p : Int) : Value := .agg #[.int .i64 k, .int .i64 p, str [], .int .i64 0, .slice none 0 0, .slice none 0 0, .int .i64 0, str [], .int .i64 0, .int .i64 0, .slice none 0 0]
section
variable {l : List Tok} (hb : TB l) (m : Nat) (lv : Value) (b : Nat)
 (hX : ∀ g i, fN g → cg g lv l → i ≤ l.length → l.length - i < m → cR prog 100 [ptr b 0] g (dS b lv i 0) (lM l i b lv (bt l .expr i)))
include hb hX
theorem Vb (g : ab) (i : Nat) (hg : fN g) (hs : cg g lv l) (_hi : i ≤ l.length) (hm : l.length - i < m + 1) (pos : Int) :
  cR prog 132 [ptr b 0, FR 4 pos] g (dS b lv i 0) (lM l i b lv (zT l pos i)) := by
 have dh := hb.1
 refine aw func132 rfl ntmps132 rfl fun E hE => ?_
 refine aS ?_
 refine aP rfl rfl rfl (fun b3 => ?_)
 refine aj rfl (fun b4 => ?_)
 refine wz.a.c.e.b.a.c.b.a.z ?_
 refine aG 2 rfl rfl rfl (Fv g l hb lv hs b i 1) ?_
 rintro v g1 r' ⟨rfl, hv⟩ _
 obtain ⟨cr, hr⟩ : ∃ cr, cr = zT l pos i := ⟨_, rfl⟩
 rw [← hr]
 unfold zT at hr
 cases hn : nameAt l i 1 with
 | none =>
  rw [hn] at hv hr
  obtain ⟨rfl, rfl⟩ := hv
  refine wz.BO.l.i.b.a.q.a.O.c.t.b.AZ.a.c.b.a.Ah.g.a.a.a.z ?_
  rw [hr]
  exact ⟨_, _, _, rfl, je g1 4 pos [] 0, mc _, i, _hi, rfl⟩
 | some n =>
  rw [hn] at hv hr
  simp only at hr
  obtain ⟨rfl, rfl⟩ := hv
  have hlt := FQ hn
  refine wz.a.c.e.d.j.o.b.Ba.a.c.b.a.Ah.g.a.a.a.z ?_
  refine aG 2 rfl rfl rfl (pU g1 l hb lv hs b (i + 1) 5 [46]) ?_
  rintro v g2 r' ⟨rfl, hv⟩ _
  rcases hv with ⟨hk, rfl, rfl⟩ | ⟨hk, rfl, rfl⟩
  ·have dk := cF hk
   refine wz.a.c.d.j.o.b.Ba.a.c.b.a.z ?_
   refine aG 2 rfl rfl rfl (hX g2 (i + 2) hg hs oM oM) ?_
   rintro v g3 r' hw hle
   rw [show bB l _ _ = true from hk] at hr
   simp only [if_true] at hr
   cases hq : bt l .expr (i + 2) with
   | error p =>
    rw [hq] at hw hr
    obtain ⟨ev, e, er, rfl, he, ⟨t, u, rfl, gh⟩, j, hj, rfl⟩ := hw
    obtain ⟨a1, m1, c1, a2, m2, c2, a3, m3, c3, rfl, b_⟩ := he.form
    refine wz.a.a.a.z ?_
    refine aj rfl (fun b7 => ?_)
    refine wz.G.c.b.a.q.z ?_
    refine bu rfl rfl rL rL rL rL rL (fun b8 => ?_)
    refine bg (fun g4 eW eG => ?_)
    refine wz.BH.i.b.a.B.a.Af.c.b.Bj.g.z ?_
    rw [hr]
    exact ⟨_, _, _, rfl, jR (ks := [e]) g4 4 pos n eG (na (b_.mono eW)), ⟨t, u, rfl, gh⟩, j, hj, rfl⟩
   | ok q =>
    obtain ⟨e, j⟩ := q
    rw [hq] at hw hr
    obtain ⟨ev, rfl, he, rfl, ik, cE⟩ := hw
    obtain ⟨a1, m1, c1, a2, m2, c2, a3, m3, c3, rfl, b_⟩ := he.form
    refine wz.a.a.a.z ?_
    refine aj rfl (fun b7 => ?_)
    refine wz.G.c.b.a.q.z ?_
    refine bu rfl rfl rL rL rL rL rL (fun b8 => ?_)
    refine bg (fun g4 eW eG => ?_)
    refine wz.BH.i.b.a.B.a.Af.c.b.Bj.g.z ?_
    rw [hr]
    exact ⟨_, rfl, jR g4 4 pos n eG (na (b_.mono eW)), rfl, oM, cE⟩
  ·rw [show bB l _ _ = false from hk] at hr
   simp only [Bool.false_eq_true, if_false] at hr
   refine wz.BO.l.i.b.a.q.a.O.c.t.b.AZ.a.c.b.a.z ?_
   rw [hr]
   exact ⟨_, _, _, rfl, je g2 4 pos n 0, mc _, i + 1, hlt, rfl⟩
theorem L2 (g : ab) (i : Nat) (hg : fN g) (hs : cg g lv l) (_hi : i ≤ l.length) (hm : l.length - i < m + 1) (kd pos : Int) :
  cR prog 133 [ptr b 0, FR kd pos] g (dS b lv i 0) (lM l i b lv (j8 l (bt l) kd pos i)) := by
 have dh := hb.1
 refine aw func133 rfl ntmps133 rfl fun E hE => ?_
 refine aS ?_
 refine aP rfl rfl rfl (fun b3 => ?_)
 refine aj rfl (fun b4 => ?_)
 refine wz.a.c.e.b.a.c.b.a.z ?_
 refine aG 2 rfl rfl rfl (Fv g l hb lv hs b i 1) ?_
 rintro v g1 r' ⟨rfl, hv⟩ _
 obtain ⟨cr, hr⟩ : ∃ cr, cr = j8 l (bt l) kd pos i := ⟨_, rfl⟩
 rw [← hr]
 unfold j8 at hr
 cases hn : nameAt l i 1 with
 | none =>
  rw [hn] at hv hr
  obtain ⟨rfl, rfl⟩ := hv
  refine wz.BO.l.i.b.a.q.a.O.c.t.b.AZ.a.c.b.a.Ah.g.a.a.a.z ?_
  rw [hr]
  exact ⟨_, _, _, rfl, je g1 kd pos [] 0, mc _, i, _hi, rfl⟩
 | some n =>
  rw [hn] at hv hr
  simp only at hr
  obtain ⟨rfl, rfl⟩ := hv
  have hlt := FQ hn
  refine wz.a.c.e.d.j.o.b.Ba.a.c.b.a.Ah.g.a.a.a.z ?_
  refine aG 2 rfl rfl rfl (pU g1 l hb lv hs b (i + 1) 5 [61]) ?_
  rintro v g2 r' ⟨rfl, hv⟩ _
  rcases hv with ⟨hk, rfl, rfl⟩ | ⟨hk, rfl, rfl⟩
  ·have dk := cF hk
   refine wz.a.c.d.j.o.b.Ba.a.c.b.a.z ?_
   refine aG 2 rfl rfl rfl (hX g2 (i + 2) hg hs oM oM) ?_
   rintro v g3 r' hw hle
   have d_ := hg.mono hle
   have bY := hs.mono hle
   rw [show bB l _ _ = true from hk] at hr
   simp only [if_true] at hr
   cases hq : bt l .expr (i + 2) with
   | error p =>
    rw [hq] at hw hr
    obtain ⟨ev, e, er, rfl, he, ⟨t, u, rfl, gh⟩, j, hj, rfl⟩ := hw
    obtain ⟨a1, m1, c1, a2, m2, c2, a3, m3, c3, rfl, b_⟩ := he.form
    refine wz.a.a.a.z ?_
    refine aj rfl (fun b7 => ?_)
    refine wz.BH.l.i.b.a.B.a.Af.c.t.b.AZ.a.c.e.b.a.q.z ?_
    rw [hr]
    exact ⟨_, _, _, rfl, je g3 kd pos n 0, ⟨t, u, rfl, gh⟩, j, hj, rfl⟩
   | ok q =>
    obtain ⟨e, j⟩ := q
    rw [hq] at hw hr
    obtain ⟨ev, rfl, he, rfl, ik, cE⟩ := hw
    obtain ⟨a1, m1, c1, a2, m2, c2, a3, m3, c3, rfl, b_⟩ := he.form
    simp only at hr
    refine wz.a.a.a.z ?_
    refine aj rfl (fun b7 => ?_)
    refine wz.a.c.e.d.j.o.b.Ba.a.c.e.b.a.q.z ?_
    refine aG 3 rfl rfl rfl (pU g3 l hb lv bY b j 4 iC) ?_
    rintro v g4 r' ⟨rfl, hv⟩ _
    rcases hv with ⟨fb, rfl, rfl⟩ | ⟨fb, rfl, rfl⟩
    ·have iM := cF fb
     refine wz.a.c.d.j.o.b.Ba.a.c.b.a.z ?_
     refine aG 3 rfl rfl rfl (hX g4 (j + 1) d_ bY oM oM) ?_
     rintro v g5 r' hw cC
     rw [show cA l _ _ = true from fb] at hr
     simp only [if_true] at hr
     cases ep : bt l .expr (j + 1) with
     | error p =>
      rw [ep] at hw hr
      obtain ⟨ev, e2, er, rfl, uS, ⟨t, u, rfl, gh⟩, j2, ph, rfl⟩ := hw
      obtain ⟨d1, n1, o1, d2, n2, o2, d3, n3, o3, rfl, FT⟩ := uS.form
      refine wz.a.a.a.z ?_
      refine aj rfl (fun b8 => ?_)
      refine wz.G.O.c.b.a.q.z ?_
      refine bu rfl rfl rL rL rL rL rL (fun b9 => ?_)
      refine bg (fun g6 wS mE => ?_)
      refine wz.Dj.i.b.a.V.a.Y.c.b.Bl.g.z ?_
      rw [hr]
      exact ⟨_, _, _, rfl, jR (ks := [e, e2]) g6 kd pos n mE (o8 ((b_.mono cC).mono wS) (FT.mono wS)), ⟨t, u, rfl, gh⟩, j2, ph, rfl⟩
     | ok q =>
      obtain ⟨e2, j2⟩ := q
      rw [ep] at hw hr
      obtain ⟨ev, rfl, uS, rfl, gW, Vc⟩ := hw
      obtain ⟨d1, n1, o1, d2, n2, o2, d3, n3, o3, rfl, FT⟩ := uS.form
      refine wz.a.a.a.z ?_
      refine aj rfl (fun b8 => ?_)
      refine wz.G.O.c.b.a.q.z ?_
      refine bu rfl rfl rL rL rL rL rL (fun b9 => ?_)
      refine bg (fun g6 wS mE => ?_)
      refine wz.Dj.i.b.a.V.a.Y.c.b.Bl.g.z ?_
      rw [hr]
      exact ⟨_, rfl, jR g6 kd pos n mE (o8 ((b_.mono cC).mono wS) (FT.mono wS)), rfl, oM, Vc⟩
    ·rw [show cA l _ _ = false from fb] at hr
     simp only [Bool.false_eq_true, if_false] at hr
     refine wz.BH.l.i.b.a.B.a.Af.c.t.b.AZ.a.c.b.a.z ?_
     rw [hr]
     exact ⟨_, _, _, rfl, je g4 kd pos n 0, mc _, j, cE, rfl⟩
  ·rw [show bB l _ _ = false from hk] at hr
   simp only [Bool.false_eq_true, if_false] at hr
   refine wz.BO.l.i.b.a.q.a.O.c.t.b.AZ.a.c.b.a.z ?_
   rw [hr]
   exact ⟨_, _, _, rfl, je g2 kd pos n 0, mc _, i + 1, hlt, rfl⟩
end
def wT (g : ab) (v : Value) (a : Ar) : Prop := ∃ cs, v = .agg cs.toArray ∧ gG g a cs
theorem wT.form {g : ab} {v : Value} {a : Ar} (h : wT g v a) : ∃ (a0 : Option Addr) (m0 c0 : Nat) (a1 : Option Addr) (m1 c1 : Nat) (a2 : Option Addr) (m2 c2 : Nat) (a3 : Option Addr) (m3 c3 : Nat),
  v = .agg #[.int .i64 a.pos, str a.bQ, .slice a0 m0 c0, .int .i64 a.body.kind, .int .i64 a.body.pos, str a.body.name, .int .i64 a.body.num, .slice a1 m1 c1, .slice a2 m2 c2, .int .i64 a.body.ty.kind, str a.body.ty.name, .int .i64 a.body.ty.id, .int .i64 a.body.ty.home, .slice a3 m3 c3] ∧
  gG g a [.int .i64 a.pos, str a.bQ, .slice a0 m0 c0, .int .i64 a.body.kind, .int .i64 a.body.pos, str a.body.name, .int .i64 a.body.num, .slice a1 m1 c1, .slice a2 m2 c2, .int .i64 a.body.ty.kind, str a.body.ty.name, .int .i64 a.body.ty.id, .int .i64 a.body.ty.home, .slice a3 m3 c3] := by
 obtain ⟨cs, rfl, h⟩ := h
 cases a with
 | mk p c vs e =>
  have h' := h
  unfold gG at h'
  obtain ⟨fG, bc, rfl, h1, h2⟩ := h'
  obtain ⟨a1, m1, c1, a2, m2, c2, a3, m3, c3, xk, xa, rfl, _⟩ := h2.form
  obtain ⟨a0, m0, c0, rfl⟩ := au.form h1
  exact ⟨a0, m0, c0, a1, m1, c1, a2, m2, c2, a3, m3, c3, rfl, h⟩
theorem L3 (g : ab) : cJ g pQ dK := cJ.mk (e := pQ) (cP g 11) (zf g) (cP g 14) (qE g) (bx.mk (t := bX) (cP g 5) (cQ g))
theorem zU {g : ab} {p : Int} {c : Bytes} {vs : List Bytes} {e : Ex} {sv : Value} {bc : List Value} (h1 : au g 1 sv vs.length (vs.map str)) (h2 : cJ g e bc) : wT g (.agg (kp p c sv bc).toArray) (.mk p c vs e) := by
 refine ⟨_, rfl, ?_⟩
 unfold gG
 exact ⟨sv, bc, rfl, h1, h2⟩
theorem Vd {g : ab} {acc : List Ar} {xa cs : List Value} {a : Ar} (h : fw g acc xa) (h1 : gG g a cs) : fw g (acc ++ [a]) (xa ++ cs) := nK.2 (aL.snoc h1 (nK.1 h))
def Ve (l : List Tok) (i : Nat) (b : Nat) (lv : Value) (r : Except Int (Ar × Nat)) (v : Value) (g' : ab) (r' : aA) : Prop := match r with
 | .ok (e, j) => ∃ ev, v = .tuple #[ev, .nilIface] ∧ wT g' ev e ∧ r' = dS b lv j 0 ∧ i < j ∧ j ≤ l.length
 | .error p => ∃ ev e er, v = .tuple #[ev, er] ∧ wT g' ev e ∧ p_ er ∧ ∃ j, j ≤ l.length ∧ r' = dS b lv j p
theorem Vf {l : List Tok} {j : Nat} (h : j < l.length) (hk : l[j].kind = 1) : lowers (l.drop j) = l[j].text :: lowers (l.drop (j + 1)) := by
 rw [List.drop_eq_getElem_cons h]
 simp [lowers, hk]
theorem Vg {l : List Tok} {j : Nat} (h : j < l.length) (hk : ¬ l[j].kind = 1) : lowers (l.drop j) = [] := by
 rw [List.drop_eq_getElem_cons h]
 simp [lowers, hk]
section
variable {l : List Tok} (hb : TB l) (m : Nat) (lv : Value) (b : Nat)
 (hX : ∀ g i, fN g → cg g lv l → i ≤ l.length → l.length - i < m → cR prog 100 [ptr b 0] g (dS b lv i 0) (lM l i b lv (bt l .expr i)))
include hb hX
theorem Vh (g : ab) (i : Nat) (hg : fN g) (hs : cg g lv l) (hi : i ≤ l.length) (hm : l.length - i < m + 1) :
  cR prog 169 [ptr b 0] g (dS b lv i 0) (Ve l i b lv (uR l i)) := by
 have dh := hb.1
 refine aw func169 rfl ntmps169 rfl fun E hE => ?_
 refine aS ?_
 refine aj rfl (fun b2 => ?_)
 refine wz.a.c.b.a.z ?_
 refine eo 1 rfl rfl rfl (KL g l lv hs b i 0) ?_
 refine wz.K.z ?_
 refine aj rfl (fun b4 => ?_)
 refine wz.a.c.e.b.a.c.b.q.z ?_
 refine aG 2 rfl rfl rfl (Fv g l hb lv hs b i 2) ?_
 rintro v g1 r' ⟨rfl, hv⟩ _
 obtain ⟨cr, hr⟩ : ∃ cr, cr = uR l i := ⟨_, rfl⟩
 rw [← hr]
 unfold uR at hr
 cases hn : nameAt l i 2 with
 | none =>
  rw [hn] at hv hr
  obtain ⟨rfl, rfl⟩ := hv
  refine wz.Bc.l.i.b.a.B.a.G.c.t.b.AZ.a.c.b.a.Ac.g.a.a.a.z ?_
  rw [hr]
  exact ⟨_, _, _, rfl, zU (vs := []) (cP g1 1) (L3 g1), mc _, i, hi, rfl⟩
 | some c =>
  rw [hn] at hv hr
  simp only at hr
  obtain ⟨rfl, rfl⟩ := hv
  have hlt := FQ hn
  refine wz.d.j.o.b.Ba.a.c.b.a.Ac.g.a.a.a.z ?_
  have pS : i + 1 ≤ l.length := hlt
  refine cD (ι := List Bytes × Value) (fun p => [(0, ptr b 0), (2, ptr b2 0), (4, ptr b4 0)]) (fun _ => g1)
   (fun p => [.row 9 1 p.2 p.1.length (p.1.map str), .ae b4 111 (kp (posOf l i) c p.2 dK), .ae b2 111 (kp 0 [] (.slice none 0 0) dK), dS b lv (i + 1 + p.1.length) 0])
   (fun p => (∃ a m c, p.2 = .slice a m c) ∧ lowers (l.drop (i + 1)) = p.1 ∧ i + 1 + p.1.length ≤ l.length) ?_ ?_
  ·rintro ⟨vs, vv⟩ ⟨⟨va, vm, vc, q1⟩, q2, q3⟩
   simp only at q1 q2 q3
   subst q1
   rw [q2] at hr
   try dsimp only
   refine bg (fun g2 dy gY => ?_)
   have FU := hg.mono dy
   have bj := hs.mono dy
   refine wz.a.c.e.z ?_
   refine aG 2 rfl rfl rfl (pU g2 l hb lv bj b (i + 1 + vs.length) 5 [46]) ?_
   rintro v fj r' ⟨rfl, hv⟩ _
   rcases hv with ⟨hk, rfl, rfl⟩ | ⟨hk, rfl, rfl⟩
   ·have dk := cF hk
    refine wz.a.c.d.j.o.b.Ba.a.c.b.a.z ?_
    refine aG 2 rfl rfl rfl (hX fj (i + 1 + vs.length + 1) FU bj oM oM) ?_
    rintro v g3 r' hw hle
    rw [show bB l _ _ = true from hk] at hr
    simp only [if_true] at hr
    cases hq : bt l .expr (i + 1 + vs.length + 1) with
    | error p =>
     rw [hq] at hw hr
     obtain ⟨ev, e, er, rfl, he, ⟨t, u, rfl, gh⟩, j, hj, rfl⟩ := hw
     obtain ⟨a1, m1, c1, a2, m2, c2, a3, m3, c3, rfl, b_⟩ := he.form
     refine wz.Bc.i.b.a.B.a.G.c.b.a.q.g.a.a.a.z ?_
     rw [hr]
     exact ⟨_, _, _, rfl, zU (p := posOf l i) (c := c) (gY.mono hle) b_, ⟨t, u, rfl, gh⟩, j, hj, rfl⟩
    | ok q =>
     obtain ⟨e, j⟩ := q
     rw [hq] at hw hr
     obtain ⟨ev, rfl, he, rfl, ik, cE⟩ := hw
     obtain ⟨a1, m1, c1, a2, m2, c2, a3, m3, c3, rfl, b_⟩ := he.form
     refine wz.Bc.i.b.a.B.a.G.c.b.a.q.g.a.a.a.z ?_
     rw [hr]
     exact ⟨_, rfl, zU (gY.mono hle) b_, rfl, oM, cE⟩
   ·rw [show bB l _ _ = false from hk] at hr
    simp only [Bool.false_eq_true, if_false] at hr
    refine wz.Bc.l.i.b.a.B.a.G.c.t.b.AZ.a.c.b.a.z ?_
    rw [hr]
    exact ⟨_, _, _, rfl, zU (p := posOf l i) (c := c) gY (L3 fj), mc _, _, q3, rfl⟩
  ·intro K hK
   refine wz.BG.p.z ?_
   refine aX (ι := List Bytes × Value) (fun p => [(0, ptr b 0), (2, ptr b2 0), (4, ptr b4 0)]) (fun _ => g1)
    (fun p => [.row 9 1 p.2 p.1.length (p.1.map str), .ae b4 111 (kp (posOf l i) c p.2 dK), .ae b2 111 (kp 0 [] (.slice none 0 0) dK), dS b lv (i + 1 + p.1.length) 0])
    (fun p => (∃ a m c, p.2 = .slice a m c) ∧ lowers (l.drop (i + 1)) = p.1 ++ lowers (l.drop (i + 1 + p.1.length)) ∧ i + 1 + p.1.length ≤ l.length) (fun p => l.length - p.1.length) ([], .slice none 0 0) ⟨⟨_, _, _, rfl⟩, rfl, pS⟩ ⟨rfl, rfl, rfl, trivial⟩ rfl rfl ?_
   rintro ⟨vs, vv⟩ ⟨⟨va, vm, vc, q1⟩, q2, q3⟩
   simp only at q1 q2 q3
   subst q1
   try dsimp only
   obtain ⟨la, lc, rfl⟩ := aU hs
   refine wz.e.e.z ?_
   refine bO [] mixed (fun hG => ?_)
   refine wz.P.z ?_; refine ⟨_, (ag rfl), ?_⟩; refine wz.R.z ?_; refine ⟨_, (ag rfl), ?_⟩; refine wz.S.z ?_; refine ⟨_, (aI rfl), ?_⟩; refine wz.X.z ?_; refine ⟨_, (a7 3 rfl rfl rfl), ?_⟩; refine wz.Z.z ?_; refine ⟨_, (ag rfl), ?_⟩; refine wz.Ad.z ?_; refine ⟨_, (ag rfl), ?_⟩; refine wz.Ak.z ?_; refine ⟨_, (aI rfl), ?_⟩; refine wz.Aa.z ?_; refine ⟨_, (a7 3 rfl rfl rfl), ?_⟩; refine wz.AV.z ?_; refine ⟨_, (jQ rfl), ?_⟩; refine wz.Av.z ?_; refine ⟨_, (ag rfl), ?_⟩; refine wz.Al.z ?_; refine ⟨_, (ag rfl), ?_⟩
   refine iJ 29 rfl (fun eK => ?_) (fun eK => ?_)
   ·have mI : i + 1 + vs.length < l.length := by omega
    obtain ⟨b0, off, cap, aq, iX⟩ := hs.held mI
    cases aq
    refine wz.BZ.z ?_; refine ⟨_, (ag rfl), ?_⟩; refine wz.Cl.z ?_; refine ⟨_, (ag rfl), ?_⟩; refine wz.CS.z ?_; refine ⟨_, (aI rfl), ?_⟩; refine dX 14 rfl rfl kR rfl hG ?_; refine ⟨_, (a7 3 rfl rfl rfl), ?_⟩; refine wz.Cm.z ?_; refine ⟨_, (ag rfl), ?_⟩; refine wz.Cn.z ?_; refine ⟨_, (ag rfl), ?_⟩; refine wz.CT.z ?_; refine ⟨_, (aI rfl), ?_⟩; refine wz.Ca.z ?_; refine ⟨_, (a7 3 rfl rfl rfl), ?_⟩
    refine dX 19 rfl rfl kR rfl hG ⟨_, (bU (j := i + 1 + vs.length) rfl rfl rfl mI), ?_⟩
    refine wz.Co.z ?_; refine ⟨_, (aI rfl), ?_⟩
    refine dX 21 rfl rfl kR rfl hG ⟨_, (cU rfl (au.cell eP iX mI 0 rfl)), ?_⟩
    refine wz.CU.z ?_; refine ⟨_, (ag rfl), ?_⟩; refine wz.Cp.z ?_; refine ⟨_, (ag rfl), ?_⟩
    refine wz.d.F.z ?_
    refine an rfl (fun gW => ?_) (fun gW => ?_)
    ·have bG := Vf mI gW
     refine wz.e.p.d.j.z ?_
     refine fQ 15 [0] mixed kR (fun hG => ?_)
     refine wz.Ar.z ?_; refine ⟨_, (aI rfl), ?_⟩; refine wz.Ax.z ?_; refine ⟨_, (a7 0 rfl rfl rfl), ?_⟩; refine wz.Ay.z ?_; refine ⟨_, (ag rfl), ?_⟩; refine wz.AS.z ?_; refine ⟨_, (ag rfl), ?_⟩; refine wz.AT.z ?_; refine ⟨_, (aI rfl), ?_⟩; refine wz.Be.z ?_; refine ⟨_, (a7 2 rfl rfl rfl), ?_⟩; refine wz.Bs.z ?_; refine ⟨_, (ag rfl), ?_⟩; refine wz.Bo.z ?_; refine ⟨_, (ag rfl), ?_⟩; refine wz.Cq.z ?_; refine ⟨_, (aI rfl), ?_⟩; refine wz.BI.z ?_; refine ⟨_, (a7 2 rfl rfl rfl), ?_⟩
     refine di 10 rfl kR rfl hG ⟨_, (bU (j := i + 1 + vs.length) rfl rfl rfl mI), ?_⟩
     refine wz.Cb.z ?_; refine ⟨_, (aI rfl), ?_⟩
     refine di 12 rfl kR rfl hG ⟨_, (cU rfl (au.cell eP iX mI 1 rfl)), ?_⟩
     refine iP 13 kR rfl rfl ?_
     refine bu rfl rfl rL rL rL rL rL (fun fX => ?_)
     refine wz.f.b.z ?_; refine iP 14 kR rfl rfl ?_
     refine cV 1 0 rfl rfl rfl rfl rfl rL rL rfl mL oM (fun v' eD => ?_)
     refine gT 1 rfl ?_
     rintro ⟨ya, ym, yc, rfl⟩
     refine wz.d.y.N.Bl.g.a.E.AN.g.a.a.r.b.Ah.g.Bb.Am.f.b.z ?_
     refine aM (vs ++ [l[i + 1 + vs.length].text], .slice ya ym yc) ⟨⟨_, _, _, rfl⟩, ?_, ?_⟩ nM ⟨rfl, rfl, rfl, trivial⟩ rfl ?_
     ·simp only
      rw [q2, bG]
      simp [Nat.add_assoc]
     ·simp only [List.length_append, List.length_cons, List.length_nil]
      omega
     ·simp [kp, dO]
      omega
    ·have bG := Vg mI gW
     refine wz.d.D.m.m.C.z ?_
     exact hK (vs, .slice va vm vc) _ ⟨⟨_, _, _, rfl⟩, by simp only; rw [q2, bG, List.append_nil], q3⟩ ⟨rfl, rfl, rfl, trivial⟩
   ·have bG : lowers (l.drop (i + 1 + vs.length)) = [] := by rw [List.drop_eq_nil_of_le oM]; rfl
    refine wz.CV.Cr.z ?_; refine fI 13 rfl rfl rfl kR rfl hG ?_; refine fI 14 rfl rfl rfl kR rfl hG ?_; refine wz.Cp.Cz.Cy.Cx.Cw.Cv.Cu.Ct.Cs.z ?_; refine ⟨_, (ag rfl), ?_⟩
    refine wz.d.D.m.m.C.o.d.F.z ?_
    exact hK (vs, .slice va vm vc) _ ⟨⟨_, _, _, rfl⟩, by simp only; rw [q2, bG, List.append_nil], q3⟩ ⟨rfl, rfl, rfl, trivial⟩
end
def zV (l : List Tok) (pos : Int) (x0 : Ex) (acc : List Ar) (j : Nat) : ER := if cA l j iD then .ok (eS pos x0 acc, j + 1) else .error (bH l j)
section
variable {l : List Tok} (hb : TB l) (m : Nat) (lv : Value) (b : Nat)
 (hX : ∀ g i, fN g → cg g lv l → i ≤ l.length → l.length - i < m → cR prog 100 [ptr b 0] g (dS b lv i 0) (lM l i b lv (bt l .expr i)))
include hb hX
theorem Vi (g : ab) (i : Nat) (hg : fN g) (hs : cg g lv l) (hi : i ≤ l.length) (hm : l.length - i < m) (pos : Int) :
  cR prog 134 [ptr b 0, FR 8 pos] g (dS b lv i 0) (lM l i b lv (m_ l pos i)) := by
 have dh := hb.1
 refine aw func134 rfl ntmps134 rfl fun E hE => ?_
 refine aS ?_
 refine aP rfl rfl rfl (fun b3 => ?_)
 refine aj rfl (fun b4 => ?_)
 refine wz.a.c.b.a.z ?_
 refine aG 2 rfl rfl rfl (hX g i hg hs hi hm) ?_
 rintro v g1 r' hw hle
 have cG := hg.mono hle
 have aJ := hs.mono hle
 cases hq : bt l .expr i with
 | error p =>
  rw [hq] at hw
  obtain ⟨ev, e, er, rfl, he, ⟨t, u, rfl, gh⟩, j, hj, rfl⟩ := hw
  obtain ⟨a1, m1, c1, a2, m2, c2, a3, m3, c3, rfl, b_⟩ := he.form
  have hr : m_ l pos i = .error p := by unfold m_; rw [hq]
  rw [hr]
  refine wz.a.a.a.z ?_
  refine aj rfl (fun b6 => ?_)
  refine wz.BH.l.i.b.a.B.a.Af.c.t.b.AZ.a.c.e.b.a.q.z ?_
  exact ⟨_, _, _, rfl, je g1 8 pos [] 0, ⟨t, u, rfl, gh⟩, j, hj, rfl⟩
 | ok q =>
  obtain ⟨x0, j⟩ := q
  rw [hq] at hw
  obtain ⟨ev, rfl, he, rfl, ik, cE⟩ := hw
  obtain ⟨a1, m1, c1, a2, m2, c2, a3, m3, c3, rfl, b_⟩ := he.form
  refine wz.a.a.a.z ?_
  refine aj rfl (fun b6 => ?_)
  refine wz.G.c.d.j.o.b.Ba.a.c.e.b.a.q.z ?_
  refine bu rfl rfl rL rL rL rL rL (fun b7 => ?_)
  refine bg (fun g2 dy iE => ?_)
  have FU := cG.mono dy
  have bj := aJ.mono dy
  have jd := b_.mono dy
  refine wz.a.c.e.b.Bj.g.z ?_
  refine aG 3 rfl rfl rfl (pU g2 l hb lv bj b j 4 kP) ?_
  rintro v fj r' ⟨rfl, hv⟩ _
  rcases hv with ⟨hk, rfl, rfl⟩ | ⟨hk, rfl, rfl⟩
  ·have hlt := cF hk
   have hr : m_ l pos i = bt l (.aK pos x0 []) (j + 1) := by
    unfold m_
    rw [hq]
    simp only
    rw [show cA l j kP = true from hk]
    rfl
   have gk : ∀ {e : Ex} {j : Nat}, m_ l pos i = .ok (e, j) → i < j := fun h => SA h
   generalize m_ l pos i = cr at hr gk ⊢
   refine wz.Bp.d.j.o.b.Ba.a.c.b.a.z ?_
   refine cD (ι := List Ar × Value × Nat × ab) (fun p => [(0, ptr b 0), (3, ptr b3 0), (4, ptr b4 0)]) (fun p => p.2.2.2)
    (fun p => [.ae b4 47 dK, .ae b3 47 (rR pos (.slice (some ⟨b7, 0, none⟩) 1 1) p.2.1), dS b lv p.2.2.1 0])
    (fun p => ab.le fj p.2.2.2 ∧ (∃ xa, au p.2.2.2 14 p.2.1 p.1.length xa ∧ fw p.2.2.2 p.1 xa) ∧ p.2.2.1 ≤ l.length ∧ cr = zV l pos x0 p.1 p.2.2.1) ?_ ?_
   ·rintro ⟨acc, sv, j', g3⟩ ⟨k1, ⟨xa, k2, k3⟩, k4, k5⟩
    simp only at k1 k2 k3 k4 k5
    obtain ⟨sa, sm, sc, rfl⟩ := au.form k2
    have bY := bj.mono k1
    have pj := zb (pos := pos) (iE.mono k1) (jd.mono k1) k2 k3
    try dsimp only
    refine kM ?_
    refine bO [2, 0] mixed (fun hG => ?_)
    refine wz.P.z ?_; refine ⟨_, (bP 0 rfl rfl rL), ?_⟩; refine wz.R.z ?_; refine ⟨_, (ag rfl), ?_⟩
    refine wz.AL.z ?_
    refine aG 2 rfl rfl rfl (pU g3 l hb lv bY b j' 4 iD) ?_
    rintro v g4 r' ⟨rfl, hv⟩ _
    rcases hv with ⟨fb, rfl, rfl⟩ | ⟨fb, rfl, rfl⟩
    ·refine wz.BO.i.d.F.f.b.a.AH.f.b.q.Aw.f.b.z ?_
     have h2 : cr = .ok (eS pos x0 acc, j' + 1) := by rw [k5]; unfold zV; rw [show cA l j' iD = true from fb]; rfl
     rw [h2]
     exact ⟨_, rfl, ⟨_, rfl, pj⟩, rfl, gk h2, cF fb⟩
    ·refine wz.BO.i.d.F.f.b.a.AH.f.b.q.Aw.f.b.z ?_
     have h2 : cr = .error (bH l j') := by rw [k5]; unfold zV; rw [show cA l j' iD = false from fb]; rfl
     rw [h2]
     exact ⟨_, _, _, rfl, ⟨_, rfl, pj⟩, mc _, j', k4, rfl⟩
   ·intro K hK
    refine wz.CA.p.b.a.c.z ?_
    refine aX (ι := Bool × Nat × List Ar × Value × List Value × ab) (fun p => [(0, ptr b 0), (3, ptr b3 0), (4, ptr b4 0), (8, .bool p.1)]) (fun p => p.2.2.2.2.2)
     (fun p => [.row 111 14 p.2.2.2.1 p.2.2.1.length p.2.2.2.2.1, .ae b4 47 dK, .ae b3 47 (rR pos (.slice (some ⟨b7, 0, none⟩) 1 1) p.2.2.2.1), dS b lv p.2.1 0])
     (fun p => ab.le fj p.2.2.2.2.2 ∧ (∃ a m c, p.2.2.2.1 = .slice a m c) ∧ i < p.2.1 ∧ p.2.1 ≤ l.length ∧ p.2.2.1.length ≤ p.2.1 ∧ fw p.2.2.2.2.2 p.2.2.1 p.2.2.2.2.1 ∧ cr = if p.1 then bt l (.aK pos x0 p.2.2.1) p.2.1 else zV l pos x0 p.2.2.1 p.2.1)
     (fun p => l.length - p.2.1 + (if p.1 then 1 else 0)) (true, j + 1, [], .slice none 0 0, [], fj)
     ⟨ab.le_refl _, ⟨_, _, _, rfl⟩, uM, hlt, sM, qE _, by simp only [if_true]; exact hr⟩ ⟨rfl, rfl, rfl, rfl, trivial⟩ rfl rfl ?_
    rintro ⟨more, j', acc, sv, xa, g3⟩ ⟨k1, ⟨sa, sm, sc, k2⟩, k3, k4, k5, k6, k7⟩
    simp only at k1 k2 k3 k4 k5 k6 k7
    subst k2
    have bY := bj.mono k1
    have Vj := FU.mono k1
    try dsimp only
    cases more with
    | false =>
     refine wz.d.D.m.m.C.o.b.a.c.e.z ?_
     refine bg (fun g4 eW nP => ?_)
     exact hK (acc, .slice sa sm sc, j', g4) _ ⟨ab.le_trans k1 eW, ⟨xa, nP, k6.mono eW⟩, k4, by simpa using k7⟩ ⟨rfl, rfl, rfl, trivial⟩
    | true =>
     simp only [if_true] at k7
     rw [Va] at k7
     refine wz.a.c.p.e.d.j.t.b.a.c.e.z ?_
     refine aG 3 rfl rfl rfl (Vh hb m lv b hX g3 j' Vj bY k4 oM) ?_
     rintro v g4 r' fZ aR
     have eG := bY.mono aR
     cases wN : uR l j' with
     | error p =>
      rw [wN] at fZ k7
      obtain ⟨av, a, er, rfl, ha, ⟨t, u, rfl, gh⟩, j2, ph, rfl⟩ := fZ
      obtain ⟨d0, n0, o0, d1, n1, o1, d2, n2, o2, d3, n3, o3, rfl, s8⟩ := ha.form
      refine bg (fun g5 pO wh => ?_)
      have wU := ab.le_trans aR pO
      have pj := zb (pos := pos) ((iE.mono k1).mono wU) ((jd.mono k1).mono wU) wh (k6.mono wU)
      refine wz.a.a.a.z ?_
      refine aj rfl (fun b9 => ?_)
      refine wz.BH.l.x.l.l.x.l.i.b.a.B.a.Af.c.t.b.AZ.a.c.e.b.a.q.z ?_
      rw [k7]
      exact ⟨_, _, _, rfl, ⟨_, rfl, pj⟩, ⟨t, u, rfl, gh⟩, j2, ph, rfl⟩
     | ok q =>
      obtain ⟨a, m'⟩ := q
      rw [wN] at fZ k7
      simp only at k7
      obtain ⟨av, rfl, ha, rfl, zW, wV⟩ := fZ
      obtain ⟨d0, n0, o0, d1, n1, o1, d2, n2, o2, d3, n3, o3, rfl, s8⟩ := ha.form
      have wQ := Vd (k6.mono aR) s8
      refine wz.a.a.a.z ?_
      refine aj rfl (fun b9 => ?_)
      refine wz.G.AN.g.r.d.j.o.b.Ba.a.c.e.b.a.q.z ?_
      refine bu rfl rfl rL rL rL rL rL (fun fX => ?_)
      refine cV 2 0 rfl rfl rfl rfl rfl rL rL rfl mL oM (fun v' eD => ?_)
      refine gT 2 rfl ?_
      rintro ⟨ya, ym, yc, rfl⟩
      refine wz.a.r.d.y.N.Bj.g.BN.z ?_
      refine aG 3 rfl rfl rfl (sG g4 l hb lv eG b m' 0 5 [124]) ?_
      rintro v g5 r' ⟨rfl, rfl, rfl⟩ _
      refine wz.b.a.z ?_
      refine aM (bB l m' [124], if bB l m' [124] then m' + 1 else m', acc ++ [a], .slice ya ym yc, _, g5) ⟨ab.le_trans k1 aR, ⟨_, _, _, rfl⟩, ?_, ?_, ?_, wQ, ?_⟩ ?_ ⟨rfl, rfl, rfl, rfl, trivial⟩ rfl ?_
      ·simp only; split <;> omega
      ·simp only
       split
       ·rename_i c_; exact cF c_
       ·exact wV
      ·simp only [List.length_append, List.length_cons, List.length_nil]
       split <;> omega
      ·simp only
       rw [k7]
       cases bB l m' [124] <;> rfl
      ·simp only
       split <;> simp only [if_true] <;> omega
      ·simp [dO]
       exact ⟨rfl, rfl⟩
  ·have hr : m_ l pos i = .error (bH l j) := by
    unfold m_
    rw [hq]
    simp only
    rw [show cA l j kP = false from hk]
    rfl
   rw [hr]
   refine wz.BH.l.i.b.a.B.a.Af.c.t.b.AZ.a.c.b.a.z ?_
   exact ⟨_, _, _, rfl, jR (ks := [x0]) fj 8 pos [] iE (na jd), mc _, j, cE, rfl⟩
end
end Go.Proofs.YtlnjfkfojkgiiaaGreatDoor

/- The walking engine, second part: one rule for each operation of the model, and the contract 'Spec' of a function; over any program. -/
import Derived.Test.YtlnjfkfojkgiiaaGreatDoorK1
namespace Go.aZ
open Go Go.RowKit

@[reducible] def str (l : List UInt8) : Value := .string ⟨⟨l⟩⟩
@[reducible] def ptr (b : Nat) (o : Nat) : Value := .pointer (some ⟨b, o, none⟩)

/-! Facts on types, each found by instance. -/
def M1 (P : Program) (T : TypeId) : Bool := match P.underlying T with
 | some (.struct _) => true
 | some (.array _ _) => true
 | _ => false
class iG (P : Program) (T : TypeId) (k : outParam Nat) : Prop where
 u : M1 P T = true
 s : (P.info? T).map (·.size) = some k
def M3 (P : Program) (T : TypeId) : Bool := match P.underlying T with
 | some (.struct _) => false
 | some (.array _ _) => false
 | some _ => true
 | none => false
class One (P : Program) (T : TypeId) : Prop where
 u : M3 P T = true
 s : (P.info? T).map (·.size) = some 1
class Zero (P : Program) (T : TypeId) (zs : outParam (List Value)) : Prop where
 z : ((P.info? T).bind (·.zero)).map (fun z => z.cells.toList) = some zs
def M4 (P : Program) (T : TypeId) (f : Nat) : Option Nat := match P.underlying T with
 | some (.struct fs) => match fs[f]? with
  | some fl => match P.info? fl.type with
   | some i => if i.size = 0 then none else some fl.offset
   | none => none
  | none => none
 | _ => none
class cw (P : Program) (T : TypeId) (f : Nat) (off : outParam Nat) : Prop where
 h : M4 P T f = some off
class fP (P : Program) (T : TypeId) (e : outParam TypeId) (k : outParam Nat) (bytes : outParam Nat) : Prop where
 u : P.underlying T = some (.slice e)
 s : (P.info? e).map (fun i => (i.size, i.bytes)) = some (k, bytes)
class aE2 (P : Program) (T : TypeId) (len : outParam Nat) (e : outParam TypeId) (k : outParam Nat) : Prop where
 u : P.underlying T = some (.array len e)
 s : (P.info? e).map (·.size) = some k
class og (P : Program) (T : TypeId) : Prop where
 u : P.underlying T = some .string
class uX (P : Program) (T : TypeId) (k : outParam IntKind) : Prop where
 u : P.underlying T = some (.int k)
def xv (P : Program) (T : TypeId) : Bool := match P.underlying T with
 | some (.interface _) => true
 | _ => false
class pr (P : Program) (T : TypeId) : Prop where
 u : xv P T = true
def M5 (P : Program) (T : TypeId) : Bool := match P.underlying T with
 | some (.interface _) => false
 | some _ => true
 | none => false
class tn (P : Program) (T : TypeId) : Prop where
 u : M5 P T = true
def uY (P : Program) (f : FuncId) : Bool := match P.funcs[f]? with
 | some fn => fn.body.isSome && !(fn.name == "runtime.NumGoroutine")
 | none => false
class Body (P : Program) (f : FuncId) : Prop where
 h : uY P f = true

/-! Helpers that force what they compute. -/
def takeN : List Value → Nat → Option (List Value)
 | _, 0 => some []
 | [], _ + 1 => none
 | x :: l, k + 1 => match takeN l k with
  | some r => some (x :: r)
  | none => none
theorem A8 : ∀ {l : List Value} {k : Nat} {r : List Value}, takeN l k = some r → r = l.take k ∧ k ≤ l.length
 | l, 0, r, h => by simp [takeN] at h; simp [h]
 | [], k + 1, r, h => by simp [takeN] at h
 | x :: l, k + 1, r, h => by
  simp only [takeN] at h
  split at h
  ·rename_i r' hr
   obtain ⟨h1, h2⟩ := A8 hr
   simp only [Option.some.injEq] at h
   subst h
   exact ⟨by simp [h1], nM⟩
  ·cases h

def cellsOf : Value → Option (List Value)
 | .agg c => some c.toList
 | .tuple _ => none
 | .bool b => some [.bool b]
 | .int k n => some [.int k n]
 | .float k n => some [.float k n]
 | .complex k r i => some [.complex k r i]
 | .string s => some [.string s]
 | .pointer a => some [.pointer a]
 | .slice a l c => some [.slice a l c]
 | .map r => some [.map r]
 | .chan r => some [.chan r]
 | .func f x y => some [.func f x y]
 | .nilFunc => some [.nilFunc]
 | .iface t v => some [.iface t v]
 | .nilIface => some [.nilIface]
theorem Gl {v : Value} {cs : List Value} (h : cellsOf v = some cs) : v.cells = cs.toArray := by
 cases v <;> simp_all [cellsOf, Value.cells]
 all_goals (subst h; rfl)

def fx : Value → Bool
 | .agg _ | .tuple _ => false
 | _ => true
theorem M6 {v : Value} (h : fx v = true) : v.oneCell' = true := by
 cases v <;> simp_all [fx, Value.oneCell']
def oh : List Value → Bool
 | [] => true
 | v :: r => match fx v with
  | true => oh r
  | false => false
theorem uZ : ∀ {l : List Value}, oh l = true → ∀ v ∈ l, v.oneCell' = true
 | [], _, v, hv => by cases hv
 | x :: r, h, v, hv => by
  simp only [oh] at h
  split at h
  ·rename_i h1
   rcases List.mem_cons.1 hv with rfl | hv
   ·exact M6 h1
   ·exact uZ h v hv
  ·cases h

def il : List Value → Nat → List Value → Option (List Value)
 | cs, _, [] => some cs
 | [], _, _ :: _ => none
 | c :: cs, off + 1, vs => match il cs off vs with
  | some r => some (c :: r)
  | none => none
 | _ :: cs, 0, v :: vs => match il cs 0 vs with
  | some r => some (v :: r)
  | none => none
theorem A9 : ∀ {cs : List Value} {off : Nat} {vs r : List Value}, il cs off vs = some r → r = cs.take off ++ vs ++ cs.drop (off + vs.length) ∧ (vs = [] ∨ off + vs.length ≤ cs.length)
 | cs, off, [], r, h => by simp [il] at h; simp [h]
 | [], off, _ :: _, r, h => by simp [il] at h
 | c :: cs, off + 1, v :: vs, r, h => by
  simp only [il] at h
  split at h
  ·rename_i r' hr
   obtain ⟨h1, h2⟩ := A9 hr
   simp only [Option.some.injEq] at h
   subst h
   refine ⟨?_, .inr ?_⟩
   ·rw [h1]; simp [Nat.add_right_comm off 1]
   ·rcases h2 with h2 | h2
    ·cases h2
    ·simp at h2 ⊢; omega
  ·cases h
 | c :: cs, 0, v :: vs, r, h => by
  simp only [il] at h
  split at h
  ·rename_i r' hr
   obtain ⟨h1, h2⟩ := A9 hr
   simp only [Option.some.injEq] at h
   subst h
   refine ⟨?_, .inr ?_⟩
   ·rw [h1]; simp
   ·rcases h2 with rfl | h2
    ·simp
    ·simp at h2 ⊢; omega
  ·cases h

theorem pY (b off j : Nat) : (⟨b, off, none⟩ : Addr).add j = ⟨b, off + j, none⟩ := by unfold Addr.add; split <;> simp_all
def Rd (g : ab) (own : List aA) (b off : Nat) (vs : List Value) : Prop := ∀ E w, Inv E g own w → ∀ j x, vs[j]? = some x → w.cell? ⟨b, off + j, none⟩ = some x

theorem nc {g : ab} {own : List aA} {b off : Nat} {vs : List Value} (h : ∀ j x, vs[j]? = some x → g b (off + j) = some x) : Rd g own b off vs :=
 fun _ _ hI j x hx => hI.1.jF _ _ _ (h j x hx)
theorem eT {g : ab} {own : List aA} {b off : Nat} {v : Value} (h : g b off = some v) : Rd g own b off [v] :=
 nc fun j x hx => by
  match j, hx with
  | 0, hx => simp at hx; subst hx; exact h
theorem M7 {g : ab} {own : List aA} {b : Nat} {T : TypeId} {cs vs : List Value} {off k : Nat} (i : Nat) (h : own[i]? = some (.ae b T cs)) (ht : takeN (cs.drop off) k = some vs) : Rd g own b off vs := by
 intro E w hI j x hx
 have hs : w.heap[b]? = some (.cells cs.toArray T (0, 0)) := mq hI h
 obtain ⟨rfl, hk⟩ := A8 ht
 simp only [World.cell?, hs]
 rw [List.getElem?_take] at hx
 split at hx
 ·simpa using hx
 ·cases hx
theorem A_ {g : ab} {own : List aA} {b : Nat} {T : TypeId} {size m cap : Nat} {xs vs : List Value} {off : Nat} (i : Nat) (h : own[i]? = some (.row T size (.slice (some ⟨b, 0, none⟩) m cap) m xs))
  (ht : ∀ j x, vs[j]? = some x → xs[off + j]? = some x) : Rd g own b off vs := by
 intro E w hI j x hx
 have hs : w.ownsRow 0 T size (.slice (some ⟨b, 0, none⟩) m cap) m xs := mq hI h
 have := hs.cells (g := b) rfl (off + j) x (ht j x hx)
 rw [pY] at this; simpa using this
theorem Rd.part {g : ab} {own : List aA} {b off : Nat} {xs vs : List Value} (h : Rd g own b off xs) (d : Nat) (ht : ∀ j x, vs[j]? = some x → xs[d + j]? = some x) : Rd g own b (off + d) vs :=
 fun E w hI j x hx => by
  have := h E w hI (d + j) x (ht j x hx)
  rwa [Nat.add_assoc]

section
variable {P : Program} {E : Env} {n : Nat} {L : dz} {g : ab} {own : List aA} {Q : Exit → Act → World → Prop} {ops : Array Oper} {rest : List Oper}
variable {d : Nat} {ty : TypeId} {pos : String} {after : Array Edge}

/-! Guards. -/
def gd (L : dz) (ops : Array Oper) (j : Nat) : Option Bool := match ops[j]? with
 | some o => match o.dst with
  | some t => match look L t with
   | some (.bool b) => some b
   | _ => none
  | none => none
 | none => none
theorem tq {a : Act} (hF : Fr n L a) {j : Nat} {b : Bool} (h : gd L ops j = some b) : yielded ops a.tmps j = some b := by
 unfold gd at h
 split at h
 ·rename_i o ho
  split at h
  ·rename_i t ht
   split at h
   ·rename_i b' hb
    simp only [Option.some.injEq] at h
    subst h
    have := hF.at_ t _ hb
    simp [yielded, ho, ht, this]
   ·cases h
  ·cases h
 ·cases h

theorem Gm {dst : Option Tmp} {op : Op} {j : Nat} {b : Bool} (hg : gd L ops j = some b)
  (h : ah E n L g own (wpList P ops Q (⟨dst, op, ty, pos, after, none⟩ :: rest))) : ah E n L g own (wpList P ops Q (⟨dst, op, ty, pos, after, some (j, b)⟩ :: rest)) := by
 intro a w hF hI
 have h1 := h a w hF hI
 have hy := tq (ops := ops) hF hg
 unfold wpList at h1 ⊢
 simp only [Region.wanted, if_true] at h1
 simp only [Region.wanted, hy, beq_self_eq_true, if_true]
 exact h1
theorem M8 {op : Op} {j : Nat} {b b' : Bool} (hg : gd L ops j = some b') (hne : (b' == b) = false) (hd : Nat.blt d n = true)
  (h : ah E n ((d, undef) :: L) g own (wpList P ops Q rest)) : ah E n L g own (wpList P ops Q (⟨some d, op, ty, pos, after, some (j, b)⟩ :: rest)) := by
 intro a w hF hI
 have hy := tq (ops := ops) hF hg
 unfold wpList
 have : (some b' == some b) = false := by simpa using hne
 simp only [Region.wanted, hy, this, Bool.false_eq_true, if_false]
 exact h _ w (hF.put hd undef) hI
theorem WD {op : Op} {j : Nat} {b b' : Bool} (hg : gd L ops j = some b') (hne : (b' == b) = false)
  (h : ah E n L g own (wpList P ops Q rest)) : ah E n L g own (wpList P ops Q (⟨none, op, ty, pos, after, some (j, b)⟩ :: rest)) := by
 intro a w hF hI
 have hy := tq (ops := ops) hF hg
 unfold wpList
 have : (some b' == some b) = false := by simpa using hne
 simp only [Region.wanted, hy, this, Bool.false_eq_true, if_false]
 exact h _ w hF hI

/-! The general step. -/
theorem mg {dst : Option Tmp} {op : Op}
  (h : ∀ a w, Fr n L a → Inv E g own w → (⟨dst, op, ty, pos, after, none⟩ : Oper).wp P a w (wpList P ops Q rest) Q) :
  ah E n L g own (wpList P ops Q (⟨dst, op, ty, pos, after, none⟩ :: rest)) := by
 intro a w hF hI
 unfold wpList
 simp only [Region.wanted, if_true]
 exact .inl (h a w hF hI)

theorem WE {op : Op} (v : Value) (hd : Nat.blt d n = true)
  (qg : ∀ a w, Fr n L a → Inv E g own w → (execOp a.eval ⟨some d, op, ty, pos, after, none⟩).run P w = .ok (.value v) w)
  (k : ah E n ((d, v) :: L) g own (wpList P ops Q rest)) : ah E n L g own (wpList P ops Q (⟨some d, op, ty, pos, after, none⟩ :: rest)) :=
 mg fun a w hF hI => by
  unfold Oper.wp
  rw [qg a w hF hI]
  exact k _ w (hF.put hd v) hI

def cH (P : Program) (E : Env) (n : Nat) (L : dz) (g : ab) (own : List aA) (ty : TypeId) (op : Op) (v : Value) : Prop :=
 ∀ a w dst pos after, Fr n L a → Inv E g own w → (execOp a.eval ⟨dst, op, ty, pos, after, none⟩).run P w = .ok (.value v) w
theorem cX {op : Op} {v : Value} (hd : Nat.blt d n = true) (hv : cH P E n L g own ty op v) (k : ah E n ((d, v) :: L) g own (wpList P ops Q rest)) : ah E n L g own (wpList P ops Q (⟨some d, op, ty, pos, after, none⟩ :: rest)) :=
 WE v hd (fun a w hF hI => hv a w _ _ _ hF hI) k

/-! Regions whose order is open, and that only read: one walk in the order of the text. -/
def Wq (P : Program) (ops : Array Oper) (C : World → Prop) (K : Act → Prop) (l : List Oper) : Act → World → Prop := fun a _ => wpQuiet P ops C K l a
def Kq (E : Env) (g : ab) (own : List aA) (X : Act → World → Prop) : Act → Prop := fun a => ∀ w, Inv E g own w → X a w
def u0 (P : Program) : Bool := P.follows .mixedOrders
theorem WG {id : Nat} {l : List Oper} (hm : u0 P = true) (hB : Region.lexB .any l.toArray = true)
  (h : ah E n L g own (Wq P l.toArray (Inv E g own) (Kq E g own (Q .normal)) l)) : ah E n L g own ((Code.region id l.toArray true).wp P Q) := fun a w hF hI =>
 wp_region_quiet (C := Inv E g own) hm hB (Inv.drew hI) (by have h1 := h a w hF hI; unfold Wq Kq at h1; simpa using h1)
theorem M9 {X : Act → World → Prop} (h : ah E n L g own X) : ah E n L g own (Wq P ops (Inv E g own) (Kq E g own X) []) := fun a _ hF _ w hI => h a w hF hI
theorem bR {op : Op} {v : Value} {K : Act → Prop} (hd : Nat.blt d n = true) (hv : cH P E n L g own ty op v) (k : ah E n ((d, v) :: L) g own (Wq P ops (Inv E g own) K rest)) :
  ah E n L g own (Wq P ops (Inv E g own) K (⟨some d, op, ty, pos, after, none⟩ :: rest)) := fun a w hF hI => by
 unfold Wq wpQuiet
 simp only [Region.wanted, if_true]
 refine ⟨v, fun w' jG => ?_, k _ w (hF.put hd v) hI⟩
 unfold Oper.quietAt
 rw [hv a w' _ _ _ hF jG]
 exact ⟨rfl, rfl⟩
theorem Gn {dst : Option Tmp} {op : Op} {j : Nat} {b : Bool} {K : Act → Prop} {C : World → Prop} (hg : gd L ops j = some b)
  (h : ah E n L g own (Wq P ops C K (⟨dst, op, ty, pos, after, none⟩ :: rest))) : ah E n L g own (Wq P ops C K (⟨dst, op, ty, pos, after, some (j, b)⟩ :: rest)) := fun a w hF hI => by
 have h1 := h a w hF hI
 have hy := tq (ops := ops) hF hg
 unfold Wq wpQuiet at h1 ⊢
 simp only [Region.wanted, if_true] at h1
 simp only [Region.wanted, hy, beq_self_eq_true, if_true]
 exact h1
theorem M_ {op : Op} {j : Nat} {b b' : Bool} {K : Act → Prop} {C : World → Prop} (hg : gd L ops j = some b') (hne : (b' == b) = false) (hd : Nat.blt d n = true)
  (h : ah E n ((d, undef) :: L) g own (Wq P ops C K rest)) : ah E n L g own (Wq P ops C K (⟨some d, op, ty, pos, after, some (j, b)⟩ :: rest)) := fun a w hF hI => by
 have hy := tq (ops := ops) hF hg
 unfold Wq wpQuiet
 have : (some b' == some b) = false := by simpa using hne
 simp only [Region.wanted, hy, this, Bool.false_eq_true, if_false]
 exact h _ w (hF.put hd undef) hI

theorem WH {x : Operand} {v : Value} (hx : ev L x = some v) : cH P E n L g own ty (.move x) (v) := fun a w dst pos after hF _ => by simp [execOp, hF.eval hx]
theorem WI {x : Operand} {v : Value} (hx : ev L x = some v) : cH P E n L g own ty (.assign x) (v) := fun a w dst pos after hF _ => by simp [execOp, hF.eval hx]
theorem WJ {c x y : Operand} {v : Value} (hc : ev L c = some (.bool true)) (hx : ev L x = some v) : cH P E n L g own ty (.pick c x y) (v) := fun a w dst pos after hF _ => by simp [execOp, hF.eval hx, hF.eval hc, asBool]
theorem WK {c x y : Operand} {v : Value} (hc : ev L c = some (.bool false)) (hy : ev L y = some v) : cH P E n L g own ty (.pick c x y) (v) := fun a w dst pos after hF _ => by simp [execOp, hF.eval hy, hF.eval hc, asBool]
theorem WL {x : Operand} {ix : Nat} {vs : Array Value} {v : Value} (hx : ev L x = some (.tuple vs)) (hv : vs[ix]? = some v) : cH P E n L g own ty (.extract x ix) (v) := fun a w dst pos after hF _ => by simp [execOp, hF.eval hx, Instr.extract, hv]
/-! Integers. -/
theorem val_add {x y : Operand} {T T' : TypeId} {p q : Int} (hx : ev L x = some (.int .i64 p)) (hy : ev L y = some (.int .i64 q))
  (hb : -9223372036854775808 ≤ p + q ∧ p + q ≤ 9223372036854775807) : cH P E n L g own ty (.binOp .add T x y T') (.int .i64 (p + q)) := fun a w dst pos after hF _ => by simp [execOp, hF.eval hx, hF.eval hy, eqGuard, binOp, Op.intArith, IntWalk.i64_in _ hb]
theorem WM {x y : Operand} {T T' : TypeId} {p q : Int} (hd : Nat.blt d n = true) (hx : ev L x = some (.int .i64 p)) (hy : ev L y = some (.int .i64 q))
  (hb : -9223372036854775808 ≤ p + q ∧ p + q ≤ 9223372036854775807) (k : ah E n ((d, .int .i64 (p + q)) :: L) g own (wpList P ops Q rest)) :
  ah E n L g own (wpList P ops Q (⟨some d, .binOp .add T x y T', ty, pos, after, none⟩ :: rest)) := cX hd (val_add hx hy hb) k
theorem mA {x y : Operand} {T T' : TypeId} {p q : Int} (hx : ev L x = some (.int .i64 p)) (hy : ev L y = some (.int .i64 q))
  (hb : -9223372036854775808 ≤ p - q ∧ p - q ≤ 9223372036854775807) : cH P E n L g own ty (.binOp .sub T x y T') (.int .i64 (p - q)) := fun a w dst pos after hF _ => by simp [execOp, hF.eval hx, hF.eval hy, eqGuard, binOp, Op.intArith, IntWalk.i64_in _ hb]
theorem WN {x y : Operand} {T T' : TypeId} {p q : Int} (hd : Nat.blt d n = true) (hx : ev L x = some (.int .i64 p)) (hy : ev L y = some (.int .i64 q))
  (hb : -9223372036854775808 ≤ p - q ∧ p - q ≤ 9223372036854775807) (k : ah E n ((d, .int .i64 (p - q)) :: L) g own (wpList P ops Q rest)) :
  ah E n L g own (wpList P ops Q (⟨some d, .binOp .sub T x y T', ty, pos, after, none⟩ :: rest)) := cX hd (mA hx hy hb) k
theorem WO {x y : Operand} {T T' : TypeId} {p q : Int} (hx : ev L x = some (.int .i64 p)) (hy : ev L y = some (.int .i64 q))
  (hq : q ≠ 0) : cH P E n L g own ty (.binOp .rem T x y T') (.int .i64 (p.tmod q)) := fun a w dst pos after hF _ => by simp [execOp, hF.eval hx, hF.eval hy, eqGuard, binOp, Op.intDiv, hq]
theorem WQ {x y : Operand} {T T' : TypeId} {p q : Int} (hd : Nat.blt d n = true) (hx : ev L x = some (.int .i64 p)) (hy : ev L y = some (.int .i64 q))
  (hq : q ≠ 0) (k : ah E n ((d, .int .i64 (p.tmod q)) :: L) g own (wpList P ops Q rest)) :
  ah E n L g own (wpList P ops Q (⟨some d, .binOp .rem T x y T', ty, pos, after, none⟩ :: rest)) := cX hd (WO hx hy hq) k
theorem WR {x y : Operand} {T T' : TypeId} {p q : Int} (hx : ev L x = some (.int .i64 p)) (hy : ev L y = some (.int .i64 q))
  (hq : q ≠ 0) (hb : -9223372036854775808 ≤ p.tdiv q ∧ p.tdiv q ≤ 9223372036854775807) : cH P E n L g own ty (.binOp .quo T x y T') (.int .i64 (p.tdiv q)) := fun a w dst pos after hF _ => by simp [execOp, hF.eval hx, hF.eval hy, eqGuard, binOp, Op.intDiv, hq, IntWalk.i64_in _ hb]
theorem KI {x y : Operand} {T T' : TypeId} {p q : Int} (hd : Nat.blt d n = true) (hx : ev L x = some (.int .i64 p)) (hy : ev L y = some (.int .i64 q))
  (hq : q ≠ 0) (hb : -9223372036854775808 ≤ p.tdiv q ∧ p.tdiv q ≤ 9223372036854775807) (k : ah E n ((d, .int .i64 (p.tdiv q)) :: L) g own (wpList P ops Q rest)) :
  ah E n L g own (wpList P ops Q (⟨some d, .binOp .quo T x y T', ty, pos, after, none⟩ :: rest)) := cX hd (WR hx hy hq hb) k
theorem val_neg {x : Operand} {T : TypeId} {p : Int} (hx : ev L x = some (.int .i64 p))
  (hb : -9223372036854775808 ≤ 0 - p ∧ 0 - p ≤ 9223372036854775807) : cH P E n L g own ty (.unOp .neg T x) (.int .i64 (0 - p)) := fun a w dst pos after hF _ => by
  have h1 : IntKind.i64.wrap (0 - p) = 0 - p := IntWalk.i64_in _ hb
  simp only [execOp, hF.eval hx, Op.unary, Op.intArith, h1]; rfl
theorem TU {x : Operand} {T : TypeId} {p : Int} (hd : Nat.blt d n = true) (hx : ev L x = some (.int .i64 p))
  (hb : -9223372036854775808 ≤ 0 - p ∧ 0 - p ≤ 9223372036854775807) (k : ah E n ((d, .int .i64 (0 - p)) :: L) g own (wpList P ops Q rest)) :
  ah E n L g own (wpList P ops Q (⟨some d, .unOp .neg T x, ty, pos, after, none⟩ :: rest)) := cX hd (val_neg hx hb) k
theorem WS {x y : Operand} {T T' : TypeId} {K : IntKind} {p q : Int} (hx : ev L x = some (.int K p)) (hy : ev L y = some (.int K q))
  : cH P E n L g own ty (.binOp .lss T x y T') (.bool (decide (p < q))) := fun a w dst pos after hF _ => by simp [execOp, hF.eval hx, hF.eval hy, eqGuard, binOp, Op.intCmp]
theorem WT {x y : Operand} {T T' : TypeId} {K : IntKind} {p q : Int} (hx : ev L x = some (.int K p)) (hy : ev L y = some (.int K q))
  : cH P E n L g own ty (.binOp .leq T x y T') (.bool (decide (p ≤ q))) := fun a w dst pos after hF _ => by simp [execOp, hF.eval hx, hF.eval hy, eqGuard, binOp, Op.intCmp]
theorem WU {x y : Operand} {T T' : TypeId} {K : IntKind} {p q : Int} (hx : ev L x = some (.int K p)) (hy : ev L y = some (.int K q))
  : cH P E n L g own ty (.binOp .gtr T x y T') (.bool (decide (q < p))) := fun a w dst pos after hF _ => by simp [execOp, hF.eval hx, hF.eval hy, eqGuard, binOp, Op.intCmp]
theorem WV {x y : Operand} {T T' : TypeId} {K : IntKind} {p q : Int} (hx : ev L x = some (.int K p)) (hy : ev L y = some (.int K q))
  : cH P E n L g own ty (.binOp .geq T x y T') (.bool (decide (q ≤ p))) := fun a w dst pos after hF _ => by simp [execOp, hF.eval hx, hF.eval hy, eqGuard, binOp, Op.intCmp]
theorem WW {x y : Operand} {T T' : TypeId} {K : IntKind} {p q : Int} (hx : ev L x = some (.int K p)) (hy : ev L y = some (.int K q))
  : cH P E n L g own ty (.binOp .eql T x y T') (.bool (decide (p = q))) := fun a w dst pos after hF _ => by simp [execOp, hF.eval hx, hF.eval hy, eqGuard, binOp, Op.intCmp]; rfl
theorem WX {x y : Operand} {T T' : TypeId} {K : IntKind} {p q : Int} (hx : ev L x = some (.int K p)) (hy : ev L y = some (.int K q))
  : cH P E n L g own ty (.binOp .neq T x y T') (.bool (decide (p ≠ q))) := fun a w dst pos after hF _ => by simp [execOp, hF.eval hx, hF.eval hy, eqGuard, binOp, Op.intCmp]; rfl
theorem WY {x : Operand} {T : TypeId} {b : Bool} (hx : ev L x = some (.bool b))
  : cH P E n L g own ty (.unOp .not T x) (.bool (!b)) := fun a w dst pos after hF _ => by simp [execOp, hF.eval hx, Op.unary]
theorem Na {x y : Operand} {ts : Array TypeId} {K : IntKind} {p q : Int} (hx : ev L x = some (.int K p)) (hy : ev L y = some (.int K q))
  : cH P E n L g own ty (.call ⟨.builtin .min, #[x, y], ts⟩) (.int K (min p q)) := fun a w dst pos after hF _ => by
  have : (if q < p then q else p) = min p q := by omega
  simp [execOp, resolve, invoke, builtin, Builtin.min_, Builtin.min2, hF.eval hx, hF.eval hy, this]
theorem Nb {x y : Operand} {ts : Array TypeId} {K : IntKind} {p q : Int} (hd : Nat.blt d n = true) (hx : ev L x = some (.int K p)) (hy : ev L y = some (.int K q))
  (k : ah E n ((d, .int K (min p q)) :: L) g own (wpList P ops Q rest)) :
  ah E n L g own (wpList P ops Q (⟨some d, .call ⟨.builtin .min, #[x, y], ts⟩, ty, pos, after, none⟩ :: rest)) := cX hd (Na hx hy) k
theorem Nc {x y : Operand} {ts : Array TypeId} {K : IntKind} {p q : Int} (hx : ev L x = some (.int K p)) (hy : ev L y = some (.int K q))
  : cH P E n L g own ty (.call ⟨.builtin .max, #[x, y], ts⟩) (.int K (max p q)) := fun a w dst pos after hF _ => by
  have : (if p < q then q else p) = max p q := by omega
  simp [execOp, resolve, invoke, builtin, Builtin.max_, Builtin.max2, hF.eval hx, hF.eval hy, this]
theorem Nd {x y : Operand} {ts : Array TypeId} {K : IntKind} {p q : Int} (hd : Nat.blt d n = true) (hx : ev L x = some (.int K p)) (hy : ev L y = some (.int K q))
  (k : ah E n ((d, .int K (max p q)) :: L) g own (wpList P ops Q rest)) :
  ah E n L g own (wpList P ops Q (⟨some d, .call ⟨.builtin .max, #[x, y], ts⟩, ty, pos, after, none⟩ :: rest)) := cX hd (Nc hx hy) k
theorem WZ {f : Fn} {xs ys : Array Operand} {us vs : List Value} (hx : gS L xs.toList = some us) (hy : gS L ys.toList = some vs)
  : cH P E n L g own ty (.makeFunc f xs ys) (.func f us.toArray vs.toArray) := fun a w dst pos after hF _ => by
  have h1 : xs.map a.eval = us.toArray := by apply Array.ext'; simpa using hF.pK hx
  have h2 : ys.map a.eval = vs.toArray := by apply Array.ext'; simpa using hF.pK hy
  simp [execOp, Instr.makeFunc, h1, h2]
theorem Nf {f : Fn} {xs ys : Array Operand} {us vs : List Value} (hd : Nat.blt d n = true) (hx : gS L xs.toList = some us) (hy : gS L ys.toList = some vs)
  (k : ah E n ((d, .func f us.toArray vs.toArray) :: L) g own (wpList P ops Q rest)) :
  ah E n L g own (wpList P ops Q (⟨some d, .makeFunc f xs ys, ty, pos, after, none⟩ :: rest)) := cX hd (WZ hx hy) k
/-! Strings. -/
theorem u_ (l : List UInt8) : (⟨⟨l⟩⟩ : ByteArray).size = l.length := rfl
theorem W0 (x y : List UInt8) : (⟨⟨x⟩⟩ : ByteArray) ++ ⟨⟨y⟩⟩ = ⟨⟨x ++ y⟩⟩ := by
 apply ByteArray.ext
 simp [ByteArray.data_append]
theorem Gp (l : List UInt8) (lo hi : Nat) : (⟨⟨l⟩⟩ : ByteArray).extract lo hi = ⟨⟨(l.take hi).drop lo⟩⟩ := by
 apply ByteArray.ext
 apply Array.ext'
 simp [ByteArray.data_extract, List.extract, List.drop_take]
theorem zF {x : Operand} {T : TypeId} [hT : og P T] {l : List UInt8} (hx : ev L x = some (str l)) : cH P E n L g own ty (.call ⟨.builtin .len, #[x], #[T]⟩) (.int .i64 l.length) := fun a w dst pos after hF _ => by simp [execOp, resolve, invoke, builtin, Builtin.len_, hF.eval hx, run_underlying hT.u, goInt, u_]
theorem Ng {x : Operand} {T : TypeId} [hT : og P T] {l : List UInt8} (hd : Nat.blt d n = true) (hx : ev L x = some (str l)) (k : ah E n ((d, .int .i64 l.length) :: L) g own (wpList P ops Q rest)) :
  ah E n L g own (wpList P ops Q (⟨some d, .call ⟨.builtin .len, #[x], #[T]⟩, ty, pos, after, none⟩ :: rest)) := cX hd (zF hx) k
theorem jQ {x : Operand} {T e : TypeId} {k0 eh : Nat} [hT : fP P T e k0 eh] {base : Option Addr} {len cap : Nat} (hx : ev L x = some (.slice base len cap)) : cH P E n L g own ty (.call ⟨.builtin .len, #[x], #[T]⟩) (.int .i64 len) := fun a w dst pos after hF _ => by simp [execOp, resolve, invoke, builtin, Builtin.len_, hF.eval hx, run_underlying hT.u, goInt]
theorem Nh {x : Operand} {T e : TypeId} {k0 eh : Nat} [hT : fP P T e k0 eh] {base : Option Addr} {len cap : Nat} (hd : Nat.blt d n = true) (hx : ev L x = some (.slice base len cap)) (k : ah E n ((d, .int .i64 len) :: L) g own (wpList P ops Q rest)) :
  ah E n L g own (wpList P ops Q (⟨some d, .call ⟨.builtin .len, #[x], #[T]⟩, ty, pos, after, none⟩ :: rest)) := cX hd (jQ hx) k
theorem W1 {x y : Operand} {T : TypeId} [hT : og P T] {l : List UInt8} {kk : IntKind} {i : Int} {j : Nat} (hx : ev L x = some (str l)) (hy : ev L y = some (.int kk i))
  (hi : i = j) (hj : j < l.length) : cH P E n L g own ty (.index T x y) (.int .u8 (l[j].toNat)) := fun a w dst pos after hF _ => by
  subst hi
  have h1 : (⟨⟨l⟩⟩ : ByteArray)[j]? = some l[j] := by
   rw [ByteArray.getElem?_lt' _ _ (by rw [u_]; exact hj)]
   rfl
  simp [execOp, hF.eval hx, hF.eval hy, Instr.index, asIntOf, run_underlying hT.u, h1]
theorem nd {x y : Operand} {T : TypeId} [hT : og P T] {l : List UInt8} {kk : IntKind} {i : Int} {j : Nat} (hd : Nat.blt d n = true) (hx : ev L x = some (str l)) (hy : ev L y = some (.int kk i))
  (hi : i = j) (hj : j < l.length) (k : ah E n ((d, .int .u8 (l[j].toNat)) :: L) g own (wpList P ops Q rest)) :
  ah E n L g own (wpList P ops Q (⟨some d, .index T x y, ty, pos, after, none⟩ :: rest)) := cX hd (W1 hx hy hi hj) k
theorem W2 {x : Operand} {T : TypeId} [hT : og P T] {l : List UInt8} {lo hi : Option Operand} {p q : Nat} (hx : ev L x = some (str l))
  (kh : match lo with | some y => ∃ K i, ev L y = some (.int K i) ∧ i = p | none => p = 0) (qh : match hi with | some y => ∃ K i, ev L y = some (.int K i) ∧ i = q | none => q = l.length) (h1 : p ≤ q) (h2 : q ≤ l.length)
  : cH P E n L g own ty (.slice T x lo hi none) (str ((l.take q).drop p)) := fun a w dst pos after hF _ => by
  cases lo <;> cases hi <;> simp only at kh qh
  ·subst kh; subst qh
   simp [execOp, hF.eval hx, Instr.sliceAt, Instr.slice, Instr.sliceBounds, run_underlying hT.u]
  ·obtain ⟨K, i, hq, rfl⟩ := qh
   subst kh
   simp [execOp, hF.eval hx, hF.eval hq, Instr.sliceAt, Instr.slice, Instr.sliceBounds, Instr.sliceBound, asIntOf, run_underlying hT.u, u_, Gp, h2]
  ·obtain ⟨K, i, hp, rfl⟩ := kh
   subst qh
   simp [execOp, hF.eval hx, hF.eval hp, Instr.sliceAt, Instr.slice, Instr.sliceBounds, Instr.sliceBound, asIntOf, run_underlying hT.u, u_, Gp, h1]
  ·obtain ⟨K, i, hp, rfl⟩ := kh
   obtain ⟨K', i', hq, rfl⟩ := qh
   simp [execOp, hF.eval hx, hF.eval hp, hF.eval hq, Instr.sliceAt, Instr.slice, Instr.sliceBounds, Instr.sliceBound, asIntOf, run_underlying hT.u, u_, Gp, h1, h2]
theorem nW {x : Operand} {T : TypeId} [hT : og P T] {l : List UInt8} {lo hi : Option Operand} {p q : Nat} (hd : Nat.blt d n = true) (hx : ev L x = some (str l))
  (kh : match lo with | some y => ∃ K i, ev L y = some (.int K i) ∧ i = p | none => p = 0) (qh : match hi with | some y => ∃ K i, ev L y = some (.int K i) ∧ i = q | none => q = l.length) (h1 : p ≤ q) (h2 : q ≤ l.length)
  (k : ah E n ((d, str ((l.take q).drop p)) :: L) g own (wpList P ops Q rest)) :
  ah E n L g own (wpList P ops Q (⟨some d, .slice T x lo hi none, ty, pos, after, none⟩ :: rest)) := cX hd (W2 hx kh qh h1 h2) k
theorem W3 {x y : Operand} {T T' : TypeId} {p q : List UInt8} (hx : ev L x = some (str p)) (hy : ev L y = some (str q))
  : cH P E n L g own ty (.binOp .eql T x y T') (.bool (decide (p = q))) := fun a w dst pos after hF _ => by simp [execOp, hF.eval hx, hF.eval hy, eqGuard, binOp, Op.stringOp]; rw [Bool.eq_iff_iff]; simp
theorem W4 {x y : Operand} {T T' : TypeId} {p q : List UInt8} (hx : ev L x = some (str p)) (hy : ev L y = some (str q))
  : cH P E n L g own ty (.binOp .neq T x y T') (.bool (decide (p ≠ q))) := fun a w dst pos after hF _ => by simp [execOp, hF.eval hx, hF.eval hy, eqGuard, binOp, Op.stringOp]; rw [Bool.eq_iff_iff]; simp
theorem B0 {x y : Operand} {T T' : TypeId} {p q : List UInt8} (hx : ev L x = some (str p)) (hy : ev L y = some (str q)) (hb : p.length + q.length ≤ 9223372036854775807)
  : cH P E n L g own ty (.binOp .add T x y T') (str (p ++ q)) := fun a w dst pos after hF _ => by
  have h1 : ¬ ((9223372036854775807 : Int) < (p.length : Int) + (q.length : Int)) := by omega
  simp [execOp, hF.eval hx, hF.eval hy, eqGuard, binOp, Op.stringOp, u_, IntKind.max, IntKind.signed, IntKind.bits, h1, W0]
theorem Ni {x y : Operand} {T T' : TypeId} {p q : List UInt8} (hd : Nat.blt d n = true) (hx : ev L x = some (str p)) (hy : ev L y = some (str q)) (hb : p.length + q.length ≤ 9223372036854775807)
  (k : ah E n ((d, str (p ++ q)) :: L) g own (wpList P ops Q rest)) :
  ah E n L g own (wpList P ops Q (⟨some d, .binOp .add T x y T', ty, pos, after, none⟩ :: rest)) := cX hd (B0 hx hy hb) k
/-! Interfaces. -/
theorem eval_const (a : Act) (v : Value) : a.eval (.const v) = v := rfl
theorem B1 {T : TypeId} {ms : Array (String × TypeId)} (h : P.underlying T = some (.interface ms)) : P.underlying T = some (.interface (P.methodsAt T)) := by
 simp [Program.methodsAt, h]

theorem W5 {x : Operand} {T T' t : TypeId} [hT : pr P T] {v : Value} (hx : ev L x = some (.iface t v))
  : cH P E n L g own ty (.binOp .neq T x (.const .nilIface) T') (.bool true) := fun a w dst pos after hF _ => by
  have hu := hT.u
  unfold xv at hu
  split at hu
  ·rename_i ms hm
   simp [execOp, hF.eval hx, eval_const, eqGuard, Go.run_neq_held_nil w T t v (B1 hm)]
  ·cases hu
theorem Nj {x : Operand} {T T' t : TypeId} [hT : pr P T] {v : Value} (hd : Nat.blt d n = true) (hx : ev L x = some (.iface t v))
  (k : ah E n ((d, .bool true) :: L) g own (wpList P ops Q rest)) :
  ah E n L g own (wpList P ops Q (⟨some d, .binOp .neq T x (.const .nilIface) T', ty, pos, after, none⟩ :: rest)) := cX hd (W5 hx) k
theorem W6 {x : Operand} {T T' : TypeId} [hT : pr P T] (hx : ev L x = some .nilIface)
  : cH P E n L g own ty (.binOp .neq T x (.const .nilIface) T') (.bool false) := fun a w dst pos after hF _ => by
  have hu := hT.u
  unfold xv at hu
  split at hu
  ·rename_i ms hm
   simp [execOp, hF.eval hx, eval_const, eqGuard, Go.run_neq_nil_nil w T (B1 hm)]
  ·cases hu
theorem Nk {x : Operand} {T T' : TypeId} [hT : pr P T] (hd : Nat.blt d n = true) (hx : ev L x = some .nilIface)
  (k : ah E n ((d, .bool false) :: L) g own (wpList P ops Q rest)) :
  ah E n L g own (wpList P ops Q (⟨some d, .binOp .neq T x (.const .nilIface) T', ty, pos, after, none⟩ :: rest)) := cX hd (W6 hx) k
theorem L5 {x : Operand} {T T' t : TypeId} [hT : pr P T] {v : Value} (hx : ev L x = some (.iface t v))
  : cH P E n L g own ty (.binOp .eql T x (.const .nilIface) T') (.bool false) := fun a w dst pos after hF _ => by
  have hu := hT.u
  unfold xv at hu
  split at hu
  ·rename_i ms hm
   simp [execOp, hF.eval hx, eval_const, eqGuard, Go.run_eql_held_nil w T t v (B1 hm)]
  ·cases hu
theorem Nl {x : Operand} {T T' t : TypeId} [hT : pr P T] {v : Value} (hd : Nat.blt d n = true) (hx : ev L x = some (.iface t v))
  (k : ah E n ((d, .bool false) :: L) g own (wpList P ops Q rest)) :
  ah E n L g own (wpList P ops Q (⟨some d, .binOp .eql T x (.const .nilIface) T', ty, pos, after, none⟩ :: rest)) := cX hd (L5 hx) k
theorem L6 {x : Operand} {T T' : TypeId} [hT : pr P T] (hx : ev L x = some .nilIface)
  : cH P E n L g own ty (.binOp .eql T x (.const .nilIface) T') (.bool true) := fun a w dst pos after hF _ => by
  have hu := hT.u
  unfold xv at hu
  split at hu
  ·rename_i ms hm
   simp [execOp, hF.eval hx, eval_const, eqGuard, Go.run_eql_nil_nil w T (B1 hm)]
  ·cases hu
theorem zS {x : Operand} {T T' : TypeId} [hT : pr P T] (hd : Nat.blt d n = true) (hx : ev L x = some .nilIface)
  (k : ah E n ((d, .bool true) :: L) g own (wpList P ops Q rest)) :
  ah E n L g own (wpList P ops Q (⟨some d, .binOp .eql T x (.const .nilIface) T', ty, pos, after, none⟩ :: rest)) := cX hd (L6 hx) k
theorem W7 {x : Operand} {T : TypeId} [hT : tn P T] {v : Value} (hx : ev L x = some v) : cH P E n L g own ty (.makeInterface T x) (.iface T v) := fun a w dst pos after hF _ => by
  have hu := hT.u
  unfold M5 at hu
  cases hm : P.underlying T with
  | none => rw [hm] at hu; cases hu
  | some dd =>
   rw [hm] at hu
   cases dd <;> first | (cases hu; done) | simp [execOp, hF.eval hx, Instr.makeInterface, run_underlying hm]
theorem Nn {x : Operand} {T : TypeId} [hT : tn P T] {v : Value} (hd : Nat.blt d n = true) (hx : ev L x = some v) (k : ah E n ((d, .iface T v) :: L) g own (wpList P ops Q rest)) :
  ah E n L g own (wpList P ops Q (⟨some d, .makeInterface T x, ty, pos, after, none⟩ :: rest)) := cX hd (W7 hx) k
/-! Memory. -/
theorem No (T : TypeId) {k : Nat} [hT : iG P T k] (w : World) : (isAgg T).run P w = .ok true w := by
 have hu := hT.u
 unfold M1 at hu
 split at hu
 ·rename_i h; simp [isAgg, run_underlying h]
 ·rename_i h; simp [isAgg, run_underlying h]
 ·cases hu
theorem Np (T : TypeId) [hT : One P T] (w : World) : (isAgg T).run P w = .ok false w := by
 have hu := hT.u
 unfold M3 at hu
 cases hm : P.underlying T with
 | none => rw [hm] at hu; cases hu
 | some dd =>
  rw [hm] at hu
  cases dd <;> first | (cases hu; done) | simp [isAgg, run_underlying hm]
theorem tr {T : TypeId} {k : Nat} (h : (P.info? T).map (·.size) = some k) (w : World) : (sizeOf T).run P w = .ok k w := by
 cases hi : P.info? T with
 | none => simp [hi] at h
 | some i => simp [hi] at h; simp [sizeOf, typeInfo, hi, h]


theorem dL {x : Operand} {T : TypeId} {sz : Nat} [hT : iG P T sz] {b off : Nat} {vs : List Value} (hx : ev L x = some (ptr b off)) (hr : Rd g own b off vs) (hl : vs.length = sz)
  : cH P E n L g own ty (.load T x) (.agg vs.toArray) := fun a w dst pos after hF hI => by
  have h1 : (loadCells ⟨b, off, none⟩ sz).run P w = .ok vs.toArray w := by
   rw [← hl]
   exact run_loadCells_list (P := P) w ⟨b, off, none⟩ vs (fun j v hv => by rw [pY]; exact hr E w hI j v hv)
  simp [execOp, hF.eval hx, Instr.loadAt, Instr.sureAddr, loadVar, No, tr hT.s, h1]
theorem eY {x : Operand} {T : TypeId} {sz : Nat} [hT : iG P T sz] {b off : Nat} {vs : List Value} (hd : Nat.blt d n = true) (hx : ev L x = some (ptr b off)) (hr : Rd g own b off vs) (hl : vs.length = sz)
  (k : ah E n ((d, .agg vs.toArray) :: L) g own (wpList P ops Q rest)) :
  ah E n L g own (wpList P ops Q (⟨some d, .load T x, ty, pos, after, none⟩ :: rest)) := cX hd (dL hx hr hl) k
theorem cU {x : Operand} {T : TypeId} [hT : One P T] {b off : Nat} {v : Value} (hx : ev L x = some (ptr b off)) (hr : Rd g own b off [v])
  : cH P E n L g own ty (.load T x) (v) := fun a w dst pos after hF hI => by
  have h1 : w.cell? ⟨b, off, none⟩ = some v := hr E w hI 0 v rfl
  simp [execOp, hF.eval hx, Instr.loadAt, Instr.sureAddr, loadVar, Np, h1]
theorem cj {x : Operand} {T : TypeId} [hT : One P T] {b off : Nat} {v : Value} (hd : Nat.blt d n = true) (hx : ev L x = some (ptr b off)) (hr : Rd g own b off [v])
  (k : ah E n ((d, v) :: L) g own (wpList P ops Q rest)) :
  ah E n L g own (wpList P ops Q (⟨some d, .load T x, ty, pos, after, none⟩ :: rest)) := cX hd (cU hx hr) k
theorem aj {T : TypeId} {zs : List Value} [hT : Zero P T zs] (hd : Nat.blt d n = true)
  (k : ∀ b, ah E n ((d, ptr b 0) :: L) g (.ae b T zs :: own) (wpList P ops Q rest)) : ah E n L g own (wpList P ops Q (⟨some d, .alloc T, ty, pos, after, none⟩ :: rest)) :=
 mg fun a w hF hI => by
  have hz := hT.z
  cases hi : P.info? T with
  | none => simp [hi] at hz
  | some i =>
   cases iS : i.zero with
   | none => simp [hi, iS] at hz
   | some z =>
    simp only [hi, Option.bind_some, iS, Option.map_some, Option.some.injEq] at hz
    have hc : z.cells = zs.toArray := by rw [← hz]
    have h1 : (execOp a.eval ⟨some d, .alloc T, ty, pos, after, none⟩).run P w = .ok (.value (ptr w.heap.size 0)) (w.alloc (.cells zs.toArray T)) := by
     simp [execOp, Instr.alloc, zeroValue, typeInfo, hi, iS, newVar, newRow, hc]
    unfold Oper.wp
    rw [h1]
    exact k _ _ _ (hF.put hd _) (hI.alloc T zs)
theorem aP {x : Operand} {T : TypeId} {v : Value} {cs : List Value} (hd : Nat.blt d n = true) (hx : ev L x = some v) (hc : cellsOf v = some cs)
  (k : ∀ b, ah E n ((d, ptr b 0) :: L) g (.ae b T cs :: own) (wpList P ops Q rest)) : ah E n L g own (wpList P ops Q (⟨some d, .box T x, ty, pos, after, none⟩ :: rest)) :=
 mg fun a w hF hI => by
  have h1 : (execOp a.eval ⟨some d, .box T x, ty, pos, after, none⟩).run P w = .ok (.value (ptr w.heap.size 0)) (w.alloc (.cells cs.toArray T)) := by
   simp [execOp, hF.eval hx, Instr.box, newVar, newRow, Gl hc]
  unfold Oper.wp
  rw [h1]
  exact k _ _ _ (hF.put hd _) (hI.alloc T cs)

theorem LW {T : TypeId} {b off sz : Nat} {T0 : TypeId} {cs vs cs' : List Value} {v : Value} (hs : (P.info? T).map (·.size) = some sz) (hc : cellsOf v = some vs) (hl : vs.length = sz) (h1 : oh vs = true) (gi : il cs off vs = some cs')
  (w : World) (hw : w.heap[b]? = some (.cells cs.toArray T0 (0, 0))) : (storeVar T ⟨b, off, none⟩ v).run P w = .ok () (w.setRow b cs'.toArray) := by
 obtain ⟨rfl, hle⟩ := A9 gi
 have tt := Gl hc
 rcases hle with rfl | hle
 ·have bG := run_storeCells_at P b off T0 [] 0 cs.toArray w hw
  simp [storeVar, tr hs, tt, ← hl, storeCells]
  rw [setRow_self w b cs.toArray T0 (0, 0) hw]
 ·have bG := run_storeCells_at P b off T0 vs 0 cs.toArray w hw (by simpa using hle) (uZ h1)
  simp [storeVar, tr hs, tt, hl, bG]

theorem Nq {x y : Operand} {T T0 : TypeId} {b off : Nat} {v : Value} {sz : Nat} {cs vs cs' : List Value} (i : Nat) (hs : (P.info? T).map (·.size) = some sz) (hx : ev L x = some (ptr b off)) (hy : ev L y = some v)
  (ho : own[i]? = some (.ae b T0 cs)) (hc : cellsOf v = some vs) (hl : vs.length = sz) (h1 : oh vs = true) (gi : il cs off vs = some cs')
  (k : ah E n L g (own.set i (.ae b T0 cs')) (wpList P ops Q rest)) : ah E n L g own (wpList P ops Q (⟨none, .store T x y, ty, pos, after, none⟩ :: rest)) :=
 mg fun a w hF hI => by
  have hw : w.heap[b]? = some (.cells cs.toArray T0 (0, 0)) := mq hI ho
  have hr : (execOp a.eval ⟨none, .store T x y, ty, pos, after, none⟩).run P w = .ok .skip (w.setRow b cs'.toArray) := by
   simp [execOp, hF.eval hx, hF.eval hy, Instr.storeAt, Instr.sureAddr, LW hs hc hl h1 gi w hw]
  unfold Oper.wp
  rw [hr]
  exact k _ _ hF (hI.Jp ho cs')
theorem kE {x y : Operand} {T T0 : TypeId} {sz : Nat} [hT : iG P T sz] {b off : Nat} {v : Value} {cs vs cs' : List Value} (i : Nat) (hx : ev L x = some (ptr b off)) (hy : ev L y = some v)
  (ho : own[i]? = some (.ae b T0 cs)) (hc : cellsOf v = some vs) (hl : vs.length = sz) (h1 : oh vs = true) (gi : il cs off vs = some cs')
  (k : ah E n L g (own.set i (.ae b T0 cs')) (wpList P ops Q rest)) : ah E n L g own (wpList P ops Q (⟨none, .store T x y, ty, pos, after, none⟩ :: rest)) := Nq i hT.s hx hy ho hc hl h1 gi k
theorem mJ {x y : Operand} {T T0 : TypeId} [hT : One P T] {b off : Nat} {v : Value} {cs cs' : List Value} (i : Nat) (hx : ev L x = some (ptr b off)) (hy : ev L y = some v)
  (ho : own[i]? = some (.ae b T0 cs)) (hc : cellsOf v = some [v]) (h1 : oh [v] = true) (gi : il cs off [v] = some cs')
  (k : ah E n L g (own.set i (.ae b T0 cs')) (wpList P ops Q rest)) : ah E n L g own (wpList P ops Q (⟨none, .store T x y, ty, pos, after, none⟩ :: rest)) := Nq i hT.s hx hy ho hc rfl h1 gi k

theorem aI {x : Operand} {T : TypeId} {f off : Nat} [hT : cw P T f off] {b o : Nat} (hx : ev L x = some (ptr b o)) : cH P E n L g own ty (.fieldAddr T x f) (ptr b (o + off)) := fun a w dst pos after hF _ => by
  have hh := hT.h
  unfold M4 at hh
  split at hh
  ·rename_i fs nO
   split at hh
   ·rename_i fl pI
    split at hh
    ·rename_i i hi
     split at hh
     ·cases hh
     ·rename_i hne
      simp only [Option.some.injEq] at hh
      have h1 : (sizeOf fl.type).run P w = .ok i.size w := tr (by simp [hi]) w
      simp [execOp, hF.eval hx, Instr.fieldAt, Instr.sureAddr, fieldPlace, run_underlying nO, pI, h1, hne, pY, hh]
    ·cases hh
   ·cases hh
  ·cases hh
theorem Nr {x : Operand} {T : TypeId} {f off : Nat} [hT : cw P T f off] {b o : Nat} (hd : Nat.blt d n = true) (hx : ev L x = some (ptr b o)) (k : ah E n ((d, ptr b (o + off)) :: L) g own (wpList P ops Q rest)) :
  ah E n L g own (wpList P ops Q (⟨some d, .fieldAddr T x f, ty, pos, after, none⟩ :: rest)) := cX hd (aI hx) k
theorem bU {x y : Operand} {T e : TypeId} {sz eh : Nat} [hT : fP P T e sz eh] {b off len cap : Nat} {kk : IntKind} {i : Int} {j : Nat} (hx : ev L x = some (.slice (some ⟨b, off, none⟩) len cap)) (hy : ev L y = some (.int kk i))
  (hi : i = j) (hj : j < len) : cH P E n L g own ty (.indexAddr T x y) (ptr b (off + j * sz)) := fun a w dst pos after hF _ => by
  subst hi
  have h1 : (sizeOf e).run P w = .ok sz w := by
   refine tr ?_ w
   have := hT.s
   cases hh : P.info? e with
   | none => simp [hh] at this
   | some i => simp [hh] at this; simp [this.1]
  simp [execOp, hF.eval hx, hF.eval hy, Instr.indexAt, asIntOf, run_underlying hT.u, hj, h1, pY]
theorem gV {x y : Operand} {T e : TypeId} {sz eh : Nat} [hT : fP P T e sz eh] {b off len cap : Nat} {kk : IntKind} {i : Int} {j : Nat} (hd : Nat.blt d n = true) (hx : ev L x = some (.slice (some ⟨b, off, none⟩) len cap)) (hy : ev L y = some (.int kk i))
  (hi : i = j) (hj : j < len) (k : ah E n ((d, ptr b (off + j * sz)) :: L) g own (wpList P ops Q rest)) :
  ah E n L g own (wpList P ops Q (⟨some d, .indexAddr T x y, ty, pos, after, none⟩ :: rest)) := cX hd (bU hx hy hi hj) k
/-! Slices of one's own. -/
theorem fW {X : Act → World → Prop} (T : TypeId) (size : Nat) (h : ah E n L g (.row T size (.slice none 0 0) 0 [] :: own) X) : ah E n L g own X := by
 intro a w hF hI
 refine h a w hF ?_
 have := Inv.move (g' := g) (lent := []) (got := [.row T size (.slice none 0 0) 0 []]) (kept := own) (w' := w) hI (Nat.le_refl _) rfl rfl rfl (fun _ _ _ => rfl) (ab.le_refl g) hI.1.jF (fun _ _ h => absurd rfl h) ?_ ?_ ?_ ?_
 ·exact this
 ·intro r hr; simp only [List.mem_singleton] at hr; subst hr; exact World.ownsRow_nil w 0 T size
 ·simp [cI, aA.ew, Value.ownBlock]
 ·simp [cI, aA.ew, Value.ownBlock]
 ·simp [cI, aA.ew, Value.ownBlock]

theorem vd {T e : TypeId} {sz eh : Nat} (hT : fP P T e sz eh) : ∃ i, P.info? e = some i ∧ i.size = sz ∧ i.bytes = eh := by
 have := hT.s
 cases hh : P.info? e with
 | none => simp [hh] at this
 | some i => simp [hh] at this; exact ⟨i, rfl, this.1, this.2⟩

theorem W8 {T ty e : TypeId} {inf : TypeInfo} {z : Value} {sz eh : Nat} (hu : P.underlying T = some (.slice e)) (hi : P.info? e = some inf) (hz : inf.zero = some z) (qi : inf.size = sz) (ve : inf.bytes = eh)
  (rf : z.cells.size = sz) (bN : 0 < sz) {w w' : World} {v v' : Value} {m m' c' : Nat} {xs news : List Value} {ad : Addr} (hown : w.ownsRow 0 e sz v m xs) (hl : news.length = m' * sz)
  (vf : ∀ j u, news[j]? = some u → w.cell? (ad.add j) = some u) (h1 : ∀ u ∈ news, u.oneCell' = true) (dh : m + m' ≤ maxLen) (eL : (m + m') * eh ≤ 140737488355328)
  (qg : (Builtin.append_ #[T, T] ty #[v, .slice (some ad) m' c']).run P w = .ok v' w') : ∀ b, v'.ownBlock = some b → v.ownBlock = some b ∨ w.heap.size ≤ b := by
 intro b hb
 rcases hown.2 with ⟨hv, W9⟩ | ⟨gb, cap, cur, hv, _, hg, qC, hcm, hcs, _⟩
 ·subst hv; subst W9
  have hx : xs = [] := List.eq_nil_of_length_eq_zero (by simpa using hown.1)
  subst hx
  obtain ⟨v2, w2, h2, tu, _⟩ := run_append_own (P := P) w w.heap.size T ty e inf z sz eh hu hi hz qi ve rf bN _ 0 [] (World.ownsRow_nil w _ e sz) ad m' c' news hl vf h1 dh eL (Nat.le_refl _)
  rw [qg] at h2
  simp only [Result.ok.injEq] at h2
  rw [h2.1] at hb
  exact .inr (World.ownsRow.lt tu b hb).1
 ·subst hv
  by_cases Ns : m + m' ≤ cap
  ·have W_ : m * inf.size + news.length ≤ cur.size := by rw [hl, hcs, qi, ← Nat.add_mul]; exact Nat.mul_le_mul_right _ Ns
   have h2 := run_append_room (P := P) w T ty e inf hu hi gb m cap cur hg ad m' c' news (by rw [qi]; exact hl) vf h1 Ns W_
   rw [qg] at h2
   simp only [Result.ok.injEq] at h2
   rw [h2.1] at hb
   exact .inl hb
  ·have h2 := run_append_grow (P := P) w T ty e inf z hu hi hz ⟨gb, 0, none⟩ m cap xs (by rw [qi]; exact hown.1) (hown.cells (g := gb) rfl) ad m' c' news (by rw [qi]; exact hl) vf oM
    (by simp only [maxLen] at dh; omega) (growslice_fits oM (by rw [ve]; exact eL))
   rw [qg] at h2
   simp only [Result.ok.injEq] at h2
   rw [h2.1] at hb
   simp only [Value.ownBlock, Option.some.injEq] at hb
   exact .inr oM

theorem Nt {x y : Operand} {T e : TypeId} {sz eh : Nat} [hT : fP P T e sz eh] {zs : List Value} [hZ : Zero P e zs] {v : Value} {m : Nat} {xs : List Value} {base : Option Addr} {m' c' : Nat} {news : List Value} (i : Nat)
  (hd : Nat.blt d n = true) (hx : ev L x = some v) (hy : ev L y = some (.slice base m' c')) (ho : own[i]? = some (.row e sz v m xs)) (qj : zs.length = sz) (bN : 0 < sz)
  (hl : news.length = m' * sz) (hr : (base = none ∧ m' = 0 ∧ c' = 0) ∨ ∃ b off, base = some ⟨b, off, none⟩ ∧ Rd g own b off news) (h1 : ∀ u ∈ news, fx u = true)
  (dh : m + m' ≤ maxLen) (eL : (m + m') * eh ≤ 140737488355328)
  (k : ∀ v', (v' = .slice none 0 0 ↔ v = .slice none 0 0 ∧ m' = 0) → ah E n ((d, v') :: L) g (own.set i (.row e sz v' (m + m') (xs ++ news))) (wpList P ops Q rest)) :
  ah E n L g own (wpList P ops Q (⟨some d, .call ⟨.builtin .append, #[x, y], #[T, T]⟩, ty, pos, after, none⟩ :: rest)) :=
 mg fun a w hF hI => by
  obtain ⟨inf, hi, qi, ve⟩ := vd hT
  obtain ⟨z, kX, om⟩ : ∃ z, inf.zero = some z ∧ z.cells.size = sz := by
   have := hZ.z
   rw [hi] at this
   cases hz : inf.zero with
   | none => simp [hz] at this
   | some z =>
    simp [hz] at this
    exact ⟨z, rfl, by rw [← qj, ← this]; simp⟩
  have hown : w.ownsRow 0 e sz v m xs := mq hI ho
  have key : ∃ v' w', (Builtin.append_ #[T, T] ty #[v, .slice base m' c']).run P w = .ok v' w' ∧ w'.ownsRow 0 e sz v' (m + m') (xs ++ news) ∧ w.grownBy w' v.ownBlock ∧ (v' = .slice none 0 0 ↔ v = .slice none 0 0 ∧ m' = 0) ∧ ∀ b, v'.ownBlock = some b → v.ownBlock = some b ∨ w.heap.size ≤ b := by
   rcases hr with ⟨rfl, rfl, rfl⟩ | ⟨b, off, rfl, jb⟩
   ·have hn : news = [] := List.eq_nil_of_length_eq_zero (by simpa using hl)
    subst hn
    refine ⟨v, w, ?_, by simpa using hown, ⟨rfl, rfl, rfl, Nat.le_refl _, fun _ _ _ => rfl⟩, sM, fun b hb => .inl hb⟩
    obtain ⟨kF, hown⟩ := hown
    rcases hown with ⟨rfl, rfl⟩ | ⟨gb, cap, cur, rfl, _, hg, qC, hcm, hcs, _⟩
    ·simp [Builtin.append_, run_underlying hT.u, sizeOf, typeInfo, hi, Builtin.lenOf, Builtin.firstCells]
    ·simp [Builtin.append_, run_underlying hT.u, sizeOf, typeInfo, hi, Builtin.lenOf, Builtin.firstCells, qC, storeCells]
   ·have vf : ∀ j u, news[j]? = some u → w.cell? ((⟨b, off, none⟩ : Addr).add j) = some u := fun j u hu => by rw [pY]; exact jb E w hI j u hu
    have oq : ∀ u ∈ news, u.oneCell' = true := fun u hu => M6 (h1 u hu)
    obtain ⟨v', w', a1, a2, a3, a4⟩ := run_append_own (P := P) w 0 T ty e inf z sz eh hT.u hi kX qi ve om bN v m xs hown ⟨b, off, none⟩ m' c' news hl vf oq dh eL (Nat.zero_le _)
    exact ⟨v', w', a1, a2, a3, a4, W8 hT.u hi kX qi ve om bN hown hl vf oq dh eL a1⟩
  obtain ⟨v', w', qg, Xa, xw, Gq, Xb⟩ := key
  have hr : (execOp a.eval ⟨some d, .call ⟨.builtin .append, #[x, y], #[T, T]⟩, ty, pos, after, none⟩).run P w = .ok (.value v') w' := by
   simp [execOp, resolve, invoke, builtin, hF.eval hx, hF.eval hy, qg]
  unfold Oper.wp
  rw [hr]
  refine k v' Gq _ _ (hF.put hd v') ?_
  obtain ⟨pre, post, qd, lQ⟩ := Jo ho
  rw [lQ]
  rw [qd] at hI
  refine Inv.swap hI xw.size xw.tape xw.os xw.output (fun b hb Xc => xw.block b hb (fun e => Xc ?_)) Xa ?_ ?_
  ·simp only [aA.ew, Option.mem_toList]; exact e.symm
  ·cases hv : v'.ownBlock <;> simp [aA.ew, hv]
  ·intro b Nu
   simp only [aA.ew, Option.mem_toList] at Nu ⊢
   rcases Xb b Nu with h | h
   ·exact .inr h
   ·exact .inl h

/-! Contracts. -/
def Ends (E : Env) (ej : Value → ab → List aA → Prop) : Ending → World → Prop := fun e w' => ∃ v g' own', e = .returned v ∧ ej v g' own' ∧ Inv E g' own' w'
def Spec (P : Program) (f : FuncId) (args : List Value) (g : ab) (own : List aA) (ej : Value → ab → List aA → Prop) : Prop :=
 ∀ w, Holds g own w → Calls P f args.toArray w (Ends ⟨w, cI own, g⟩ ej)

theorem Inv.start {g : ab} {own : List aA} {w : World} (h : Holds g own w) : Inv ⟨w, cI own, g⟩ g own w :=
 ⟨h, ⟨Nat.le_refl _, fun _ _ _ => rfl, rfl, rfl, rfl, ab.le_refl g, fun _ _ h => absurd rfl h, fun _ hb => .inr hb⟩⟩

theorem Spec.mono {f : FuncId} {args : List Value} {ej Nv : Value → ab → List aA → Prop} (h : Spec P f args g own ej) (hp : ∀ v g' own', ej v g' own' → Nv v g' own') : Spec P f args g own Nv :=
 fun w hH => (h w hH).mono fun _ _ ⟨v, g', own', h1, h2, h3⟩ => ⟨v, g', own', h1, hp _ _ _ h2, h3⟩

def xx : List Value → Nat → dz
 | [], _ => []
 | v :: r, i => (i, v) :: xx r (i + 1)
theorem Nw : ∀ (l : List Value) (i k : Nat) (v : Value), look (xx l i) k = some v → i ≤ k ∧ l[k - i]? = some v
 | [], _, _, _, h => by simp [xx, look] at h
 | x :: r, i, k, v, h => by
  simp only [xx, look] at h
  cases hb : Nat.beq i k with
  | true =>
   rw [hb] at h
   have : i = k := Nat.eq_of_beq_eq_true hb
   subst this
   simpa using h
  | false =>
   rw [hb] at h
   obtain ⟨h1, h2⟩ := Nw r (i + 1) k v h
   refine ⟨oM, ?_⟩
   rw [show k - i = (k - (i + 1)) + 1 by omega]
   simpa using h2

theorem aw {f : FuncId} {fn : Func} {c : Code} {args : List Value} {ej : Value → ab → List aA → Prop} (hf : P.funcs[f]? = some fn) (hb : fn.body = some c) (hn : fn.ntmps = n) (hle : Nat.ble args.length n = true)
  (h : ∀ E : Env, E.g0 = g → ah E n (xx args 0) g own (c.wp P (bodyPost P fn (Ends E ej)))) : Spec P f args g own ej := by
 intro w hH
 refine calls_of_wp hf hb ?_
 refine h ⟨w, cI own, g⟩ rfl _ w ⟨rfl, ?_, ?_⟩ (Inv.start hH)
 ·have := Nat.le_of_ble_eq_true hle
  simp [hn]; omega
 ·intro k v hk
  obtain ⟨_, h2⟩ := Nw args 0 k v hk
  have hlt : k < args.length := by
   rcases Nat.lt_or_ge k args.length with h | h
   ·exact h
   ·simp [List.getElem?_eq_none h] at h2
  simp only [Nat.sub_zero] at h2
  rw [Array.getElem?_append_left (by simpa using hlt)]
  simpa using h2

theorem jN {f : FuncId} {xs : Array Operand} {ts : Array TypeId} {cq : List Value} {lent kept : List aA} [hB : Body P f] {ej : Value → ab → List aA → Prop} (hd : Nat.blt d n = true) (hx : gS L xs.toList = some cq)
  (hp : own.Perm (lent ++ kept)) (hs : Spec P f cq g lent ej)
  (k : ∀ v g' own', ej v g' own' → ab.le g g' → ah E n ((d, v) :: L) g' (own' ++ kept) (wpList P ops Q rest)) :
  ah E n L g own (wpList P ops Q (⟨some d, .call ⟨.value (.func f), xs, ts⟩, ty, pos, after, none⟩ :: rest)) :=
 mg fun a w hF hI => by
  have hb := hB.h
  unfold uY at hb
  split at hb
  ·rename_i fn kz
   simp only [Bool.and_eq_true, Bool.not_eq_true', beq_eq_false_iff_ne, ne_eq] at hb
   have ji : (xs.map a.eval) = cq.toArray := by
    have := hF.pK hx
    apply Array.ext'
    simpa using this
   have iq : fn.body ≠ none := fun h => by simp [h] at hb
   have h1 : (execOp a.eval ⟨some d, .call ⟨.value (.func f), xs, ts⟩, ty, pos, after, none⟩).run P w = .ok (.enter f cq.toArray) w := by
    simp [execOp, resolve, Act.eval, Deferred.ofValue, invoke, callFunc, kz, hb.2, iq, ji]
   unfold Oper.wp
   rw [h1]
   have jG : Inv E g (lent ++ kept) w := hI.perm hp
   have hH : Holds g lent w := (jG.drop (List.sublist_append_left _ _)).1
   refine (hs w hH).mono ?_
   rintro e w' ⟨v, g', own', rfl, Gr, gM, c6⟩
   refine k v g' own' Gr c6.mX _ _ (hF.put hd v) ?_
   exact Inv.move jG c6.size c6.tape c6.os c6.output c6.kept c6.mX gM.jF c6.oS gM.sat gM.mW gM.gn c6.lW
  ·cases hb

theorem uy {f : FuncId} {xs : Array Operand} {ts : Array TypeId} {cq : List Value} [hB : Body P f] {ej : Value → ab → List aA → Prop} (hd : Nat.blt d n = true) (hx : gS L xs.toList = some cq)
  (hs : Spec P f cq g [] ej) (k : ∀ v g' own', ej v g' own' → ab.le g g' → ah E n ((d, v) :: L) g' (own' ++ own) (wpList P ops Q rest)) :
  ah E n L g own (wpList P ops Q (⟨some d, .call ⟨.value (.func f), xs, ts⟩, ty, pos, after, none⟩ :: rest)) :=
 jN (lent := []) (kept := own) hd hx (List.Perm.refl _) hs k

def Pure (P : Program) (f : FuncId) (args : List Value) (g : ab) (v : Value) : Prop := Spec P f args g [] fun v' g' own' => v' = v ∧ g' = g ∧ own' = []
theorem aO {f : FuncId} {xs : Array Operand} {ts : Array TypeId} {cq : List Value} [hB : Body P f] {v : Value} (hd : Nat.blt d n = true) (hx : gS L xs.toList = some cq)
  (hs : Pure P f cq g v) (k : ah E n ((d, v) :: L) g own (wpList P ops Q rest)) :
  ah E n L g own (wpList P ops Q (⟨some d, .call ⟨.value (.func f), xs, ts⟩, ty, pos, after, none⟩ :: rest)) :=
 uy hd hx hs fun _ _ _ ⟨h1, h2, h3⟩ _ => by subst h1; subst h2; subst h3; exact k

theorem iy {f : FuncId} {xs : Array Operand} {ts : Array TypeId} {cq : List Value} [hB : Body P f] {v : Value} {K : Act → Prop} (hd : Nat.blt d n = true) (hx : gS L xs.toList = some cq)
  (hs : Pure P f cq g v) (k : ah E n ((d, v) :: L) g own (Wq P ops (Inv E g own) K rest)) :
  ah E n L g own (Wq P ops (Inv E g own) K (⟨some d, .call ⟨.value (.func f), xs, ts⟩, ty, pos, after, none⟩ :: rest)) := fun a w hF hI => by
 have hb := hB.h
 unfold uY at hb
 split at hb
 ·rename_i fn kz
  simp only [Bool.and_eq_true, Bool.not_eq_true', beq_eq_false_iff_ne, ne_eq] at hb
  have ji : (xs.map a.eval) = cq.toArray := by
   have := hF.pK hx
   apply Array.ext'
   simpa using this
  have iq : fn.body ≠ none := fun h => by simp [h] at hb
  have h1 : ∀ w', (execOp a.eval ⟨some d, .call ⟨.value (.func f), xs, ts⟩, ty, pos, after, none⟩).run P w' = .ok (.enter f cq.toArray) w' := fun w' => by
   simp [execOp, resolve, Act.eval, Deferred.ofValue, invoke, callFunc, kz, hb.2, iq, ji]
  unfold Wq wpQuiet
  simp only [Region.wanted, if_true]
  refine ⟨v, fun w' jG => ?_, k _ w (hF.put hd v) hI⟩
  unfold Oper.quietAt
  rw [h1 w']
  refine ⟨rfl, ?_⟩
  have hH : Holds g [] w' := (jG.drop (List.nil_sublist _)).1
  refine (hs w' hH).mono ?_
  rintro e Nx ⟨v', g', own', rfl, ⟨rfl, rfl, rfl⟩, gM, c6⟩
  refine ⟨rfl, ?_⟩
  exact Inv.move (lent := []) (got := []) (kept := own) jG c6.size c6.tape c6.os c6.output c6.kept c6.mX gM.jF c6.oS gM.sat gM.mW gM.gn c6.lW
 ·cases hb

/-! The end. -/
theorem xy {fn : Func} {ej : Value → ab → List aA → Prop} (v : Value) (own' : List aA) (hr : ∀ a w, Fr n L a → Inv E g own w → (results fn a.tmps).run P w = .ok v w) (eA : own'.Sublist own) (hp : ej v g own') :
  ah E n L g own (bodyPost P fn (Ends E ej) .ret) := fun a w hF hI => ⟨hF.defers, v, hr a w hF hI, v, g, own', rfl, hp, hI.drop eA⟩
theorem Ny {fn : Func} {ej : Value → ab → List aA → Prop} (h : ah E n L g own (bodyPost P fn (Ends E ej) .ret)) : ah E n L g own (bodyPost P fn (Ends E ej) .normal) := h

theorem iR {fn : Func} {ej : Value → ab → List aA → Prop} (own' : List aA) (hf : fn.results = #[]) (eA : own'.Sublist own) (hp : ej (.tuple #[]) g own') :
  ah E n L g own (bodyPost P fn (Ends E ej) .ret) := xy _ own' (fun a w _ _ => by simp [results, hf]) eA hp
theorem ao {fn : Func} {ej : Value → ab → List aA → Prop} {t : Tmp} {v : Value} (own' : List aA) (hf : fn.results = #[.tmp t]) (hv : look L t = some v) (eA : own'.Sublist own) (hp : ej v g own') :
  ah E n L g own (bodyPost P fn (Ends E ej) .ret) := xy _ own' (fun a w hF _ => by have := hF.at_ t v hv; simp [results, hf, this]) eA hp

inductive nD (P : Program) (L : dz) (g : ab) (own : List aA) : ResultVar → Value → Prop where
 | tmp {t : Tmp} {v : Value} (h : look L t = some v) : nD P L g own (.tmp t) v
 | agg {t : Tmp} {T : TypeId} {k : Nat} [hT : iG P T k] {b off : Nat} {vs : List Value} (h : look L t = some (ptr b off)) (hr : Rd g own b off vs) (hl : vs.length = k) : nD P L g own (.cell t T) (.agg vs.toArray)
 | one {t : Tmp} {T : TypeId} [hT : One P T] {b off : Nat} {v : Value} (h : look L t = some (ptr b off)) (hr : Rd g own b off [v]) : nD P L g own (.cell t T) v

theorem nD.spec {r : ResultVar} {v : Value} (h : nD P L g own r v) {a : Act} {w : World} (hF : Fr n L a) (hI : Inv E g own w) :
  (∃ t, r = .tmp t ∧ a.tmps[t]?.getD undef = v) ∨ (∃ t T ad, r = .cell t T ∧ a.tmps[t]?.getD undef = .pointer (some ad) ∧ (loadVar T ad).run P w = .ok v w) := by
 cases h with
 | tmp h => have := hF.at_ _ _ h; exact .inl ⟨_, rfl, by simp [this]⟩
 | @agg t T k hT b off vs h hr hl =>
  have h1 := hF.at_ _ _ h
  have h2 : (loadCells ⟨b, off, none⟩ k).run P w = .ok vs.toArray w := by
   rw [← hl]
   exact run_loadCells_list (P := P) w ⟨b, off, none⟩ vs (fun j v hv => by rw [pY]; exact hr E w hI j v hv)
  exact .inr ⟨_, _, ⟨b, off, none⟩, rfl, by simp [h1], by simp [loadVar, No, tr hT.s, h2]⟩
 | @one t T hT b off v h hr =>
  have h1 := hF.at_ _ _ h
  have h2 : w.cell? ⟨b, off, none⟩ = some v := hr E w hI 0 v rfl
  exact .inr ⟨_, _, ⟨b, off, none⟩, rfl, by simp [h1], by simp [loadVar, Np, h2]⟩

theorem bp {fn : Func} {ej : Value → ab → List aA → Prop} {r : ResultVar} {v : Value} (own' : List aA) (hf : fn.results = #[r]) (hv : nD P L g own r v) (eA : own'.Sublist own) (hp : ej v g own') :
  ah E n L g own (bodyPost P fn (Ends E ej) .ret) := xy _ own' (fun a w hF hI => by
   rcases hv.spec hF hI with ⟨t, rfl, h1⟩ | ⟨t, T, ad, rfl, h1, k1⟩ <;> simp [results, asAddr, *]) eA hp
theorem cB {fn : Func} {ej : Value → ab → List aA → Prop} {r s : ResultVar} {v u : Value} (own' : List aA) (hf : fn.results = #[r, s]) (hv : nD P L g own r v) (hu : nD P L g own s u) (eA : own'.Sublist own) (hp : ej (.tuple #[v, u]) g own') :
  ah E n L g own (bodyPost P fn (Ends E ej) .ret) := xy _ own' (fun a w hF hI => by
   rcases hv.spec hF hI with ⟨t, rfl, h1⟩ | ⟨t, T, ad, rfl, h1, k1⟩ <;> rcases hu.spec hF hI with ⟨t2, rfl, h2⟩ | ⟨t2, T2, Xd, rfl, h2, k2⟩ <;> simp [results, asAddr, *]) eA hp
theorem eO {fn : Func} {ej : Value → ab → List aA → Prop} {r s t : ResultVar} {v u x : Value} (own' : List aA) (hf : fn.results = #[r, s, t]) (hv : nD P L g own r v) (hu : nD P L g own s u) (hx : nD P L g own t x) (eA : own'.Sublist own)
  (hp : ej (.tuple #[v, u, x]) g own') : ah E n L g own (bodyPost P fn (Ends E ej) .ret) := xy _ own' (fun a w hF hI => by
   rcases hv.spec hF hI with ⟨t, rfl, h1⟩ | ⟨t, T, ad, rfl, h1, k1⟩ <;> rcases hu.spec hF hI with ⟨t2, rfl, h2⟩ | ⟨t2, T2, Xd, rfl, h2, k2⟩ <;> rcases hx.spec hF hI with ⟨t3, rfl, h3⟩ | ⟨t3, T3, ad3, rfl, h3, k3⟩ <;> simp [results, asAddr, *]) eA hp
end
end Go.aZ


/- The walking engine, second part: one rule for each operation of the model, and the contract 'Spec' of a function; over any program. -/
import Derived.Test.YtpjehhnaojjanaaGreatDoorK2
namespace Go.Eng
open Go Go.RowKit

@[reducible] def str (l : List UInt8) : Value := .string ⟨⟨l⟩⟩
@[reducible] def ptr (b : Nat) (o : Nat) : Value := .pointer (some ⟨b, o, none⟩)

/-! Facts on types, each found by instance. -/
def aggB (P : Program) (T : TypeId) : Bool := match P.underlying T with
 | some (.struct _) => true
 | some (.array _ _) => true
 | _ => false
class Agg (P : Program) (T : TypeId) (k : outParam Nat) : Prop where
 u : aggB P T = true
 s : (P.info? T).map (·.size) = some k
def oneB (P : Program) (T : TypeId) : Bool := match P.underlying T with
 | some (.struct _) => false
 | some (.array _ _) => false
 | some _ => true
 | none => false
class One (P : Program) (T : TypeId) : Prop where
 u : oneB P T = true
 s : (P.info? T).map (·.size) = some 1
class Zero (P : Program) (T : TypeId) (zs : outParam (List Value)) : Prop where
 z : ((P.info? T).bind (·.zero)).map (fun z => z.cells.toList) = some zs
def fldB (P : Program) (T : TypeId) (f : Nat) : Option Nat := match P.underlying T with
 | some (.struct fs) => match fs[f]? with
  | some fl => match P.info? fl.type with
   | some i => if i.size = 0 then none else some fl.offset
   | none => none
  | none => none
 | _ => none
class Fld (P : Program) (T : TypeId) (f : Nat) (off : outParam Nat) : Prop where
 h : fldB P T f = some off
class SlT (P : Program) (T : TypeId) (e : outParam TypeId) (k : outParam Nat) (bytes : outParam Nat) : Prop where
 u : P.underlying T = some (.slice e)
 s : (P.info? e).map (fun i => (i.size, i.bytes)) = some (k, bytes)
class ArrT (P : Program) (T : TypeId) (len : outParam Nat) (e : outParam TypeId) (k : outParam Nat) : Prop where
 u : P.underlying T = some (.array len e)
 s : (P.info? e).map (·.size) = some k
class StrT (P : Program) (T : TypeId) : Prop where
 u : P.underlying T = some .string
class IntT (P : Program) (T : TypeId) (k : outParam IntKind) : Prop where
 u : P.underlying T = some (.int k)
def ifaceB (P : Program) (T : TypeId) : Bool := match P.underlying T with
 | some (.interface _) => true
 | _ => false
class IfaceT (P : Program) (T : TypeId) : Prop where
 u : ifaceB P T = true
def concB (P : Program) (T : TypeId) : Bool := match P.underlying T with
 | some (.interface _) => false
 | some _ => true
 | none => false
class ConcT (P : Program) (T : TypeId) : Prop where
 u : concB P T = true
def bodyB (P : Program) (f : FuncId) : Bool := match P.funcs[f]? with
 | some fn => fn.body.isSome && !(fn.name == "runtime.NumGoroutine")
 | none => false
class Body (P : Program) (f : FuncId) : Prop where
 h : bodyB P f = true

/-! Helpers that force what they compute. -/
def takeN : List Value → Nat → Option (List Value)
 | _, 0 => some []
 | [], _ + 1 => none
 | x :: l, k + 1 => match takeN l k with
  | some r => some (x :: r)
  | none => none
theorem takeN_spec : ∀ {l : List Value} {k : Nat} {r : List Value}, takeN l k = some r → r = l.take k ∧ k ≤ l.length
 | l, 0, r, h => by simp [takeN] at h; simp [h]
 | [], k + 1, r, h => by simp [takeN] at h
 | x :: l, k + 1, r, h => by
  simp only [takeN] at h
  split at h
  ·rename_i r' hr
   obtain ⟨h1, h2⟩ := takeN_spec hr
   simp only [Option.some.injEq] at h
   subst h
   exact ⟨by simp [h1], by simp; omega⟩
  ·cases h

def cellsOf : Value → Option (List Value)
 | .agg c => some c.toList
 | .tuple _ => none
 | .bool b => some [.bool b]
 | .int k n => some [.int k n]
 | .float k n => some [.float k n]
 | .complex k r i => some [.complex k r i]
 | .string s => some [.string s]
 | .pointer a => some [.pointer a]
 | .slice a l c => some [.slice a l c]
 | .map r => some [.map r]
 | .chan r => some [.chan r]
 | .func f x y => some [.func f x y]
 | .nilFunc => some [.nilFunc]
 | .iface t v => some [.iface t v]
 | .nilIface => some [.nilIface]
theorem cellsOf_spec {v : Value} {cs : List Value} (h : cellsOf v = some cs) : v.cells = cs.toArray := by
 cases v <;> simp_all [cellsOf, Value.cells]
 all_goals (subst h; rfl)

def oneC : Value → Bool
 | .agg _ | .tuple _ => false
 | _ => true
theorem oneC_spec {v : Value} (h : oneC v = true) : v.oneCell' = true := by
 cases v <;> simp_all [oneC, Value.oneCell']
def allOne : List Value → Bool
 | [] => true
 | v :: r => match oneC v with
  | true => allOne r
  | false => false
theorem allOne_spec : ∀ {l : List Value}, allOne l = true → ∀ v ∈ l, v.oneCell' = true
 | [], _, v, hv => by cases hv
 | x :: r, h, v, hv => by
  simp only [allOne] at h
  split at h
  ·rename_i h1
   rcases List.mem_cons.1 hv with rfl | hv
   ·exact oneC_spec h1
   ·exact allOne_spec h v hv
  ·cases h

def splice : List Value → Nat → List Value → Option (List Value)
 | cs, _, [] => some cs
 | [], _, _ :: _ => none
 | c :: cs, off + 1, vs => match splice cs off vs with
  | some r => some (c :: r)
  | none => none
 | _ :: cs, 0, v :: vs => match splice cs 0 vs with
  | some r => some (v :: r)
  | none => none
theorem splice_spec : ∀ {cs : List Value} {off : Nat} {vs r : List Value}, splice cs off vs = some r → r = cs.take off ++ vs ++ cs.drop (off + vs.length) ∧ (vs = [] ∨ off + vs.length ≤ cs.length)
 | cs, off, [], r, h => by simp [splice] at h; simp [h]
 | [], off, _ :: _, r, h => by simp [splice] at h
 | c :: cs, off + 1, v :: vs, r, h => by
  simp only [splice] at h
  split at h
  ·rename_i r' hr
   obtain ⟨h1, h2⟩ := splice_spec hr
   simp only [Option.some.injEq] at h
   subst h
   refine ⟨?_, .inr ?_⟩
   ·rw [h1]; simp [Nat.add_right_comm off 1]
   ·rcases h2 with h2 | h2
    ·cases h2
    ·simp at h2 ⊢; omega
  ·cases h
 | c :: cs, 0, v :: vs, r, h => by
  simp only [splice] at h
  split at h
  ·rename_i r' hr
   obtain ⟨h1, h2⟩ := splice_spec hr
   simp only [Option.some.injEq] at h
   subst h
   refine ⟨?_, .inr ?_⟩
   ·rw [h1]; simp
   ·rcases h2 with rfl | h2
    ·simp
    ·simp at h2 ⊢; omega
  ·cases h

theorem add_none (b off j : Nat) : (⟨b, off, none⟩ : Addr).add j = ⟨b, off + j, none⟩ := by unfold Addr.add; split <;> simp_all
def Rd (g : Ghost) (own : List Res) (b off : Nat) (vs : List Value) : Prop := ∀ E w, Inv E g own w → ∀ j x, vs[j]? = some x → w.cell? ⟨b, off + j, none⟩ = some x

theorem rd_g {g : Ghost} {own : List Res} {b off : Nat} {vs : List Value} (h : ∀ j x, vs[j]? = some x → g b (off + j) = some x) : Rd g own b off vs :=
 fun _ _ hI j x hx => hI.1.cov _ _ _ (h j x hx)
theorem rd_g1 {g : Ghost} {own : List Res} {b off : Nat} {v : Value} (h : g b off = some v) : Rd g own b off [v] :=
 rd_g fun j x hx => by
  match j, hx with
  | 0, hx => simp at hx; subst hx; exact h
theorem rd_blk {g : Ghost} {own : List Res} {b : Nat} {T : TypeId} {cs vs : List Value} {off k : Nat} (i : Nat) (h : own[i]? = some (.blk b T cs)) (ht : takeN (cs.drop off) k = some vs) : Rd g own b off vs := by
 intro E w hI j x hx
 have hs : w.heap[b]? = some (.cells cs.toArray T (0, 0)) := sat_at hI h
 obtain ⟨rfl, hk⟩ := takeN_spec ht
 simp only [World.cell?, hs]
 rw [List.getElem?_take] at hx
 split at hx
 ·simpa using hx
 ·cases hx
theorem rd_row' {g : Ghost} {own : List Res} {b : Nat} {T : TypeId} {size m cap : Nat} {xs vs : List Value} {off : Nat} (i : Nat) (h : own[i]? = some (.row T size (.slice (some ⟨b, 0, none⟩) m cap) m xs))
  (ht : ∀ j x, vs[j]? = some x → xs[off + j]? = some x) : Rd g own b off vs := by
 intro E w hI j x hx
 have hs : w.ownsRow 0 T size (.slice (some ⟨b, 0, none⟩) m cap) m xs := sat_at hI h
 have := hs.cells (g := b) rfl (off + j) x (ht j x hx)
 rw [add_none] at this; simpa using this
theorem Rd.part {g : Ghost} {own : List Res} {b off : Nat} {xs vs : List Value} (h : Rd g own b off xs) (d : Nat) (ht : ∀ j x, vs[j]? = some x → xs[d + j]? = some x) : Rd g own b (off + d) vs :=
 fun E w hI j x hx => by
  have := h E w hI (d + j) x (ht j x hx)
  rwa [Nat.add_assoc]

section
variable {P : Program} {E : Env} {n : Nat} {L : Slots} {g : Ghost} {own : List Res} {Q : Exit → Act → World → Prop} {ops : Array Oper} {rest : List Oper}
variable {d : Nat} {ty : TypeId} {pos : String} {after : Array Edge}

/-! Guards. -/
def gd (L : Slots) (ops : Array Oper) (j : Nat) : Option Bool := match ops[j]? with
 | some o => match o.dst with
  | some t => match look L t with
   | some (.bool b) => some b
   | _ => none
  | none => none
 | none => none
theorem gd_spec {a : Act} (hF : Fr n L a) {j : Nat} {b : Bool} (h : gd L ops j = some b) : yielded ops a.tmps j = some b := by
 unfold gd at h
 split at h
 ·rename_i o ho
  split at h
  ·rename_i t ht
   split at h
   ·rename_i b' hb
    simp only [Option.some.injEq] at h
    subst h
    have := hF.at_ t _ hb
    simp [yielded, ho, ht, this]
   ·cases h
  ·cases h
 ·cases h

theorem r_take {dst : Option Tmp} {op : Op} {j : Nat} {b : Bool} (hg : gd L ops j = some b)
  (h : Run E n L g own (wpList P ops Q (⟨dst, op, ty, pos, after, none⟩ :: rest))) : Run E n L g own (wpList P ops Q (⟨dst, op, ty, pos, after, some (j, b)⟩ :: rest)) := by
 intro a w hF hI
 have h1 := h a w hF hI
 have hy := gd_spec (ops := ops) hF hg
 unfold wpList at h1 ⊢
 simp only [Region.wanted, if_true] at h1
 simp only [Region.wanted, hy, beq_self_eq_true, if_true]
 exact h1
theorem r_pass {op : Op} {j : Nat} {b b' : Bool} (hg : gd L ops j = some b') (hne : (b' == b) = false) (hd : Nat.blt d n = true)
  (h : Run E n ((d, undef) :: L) g own (wpList P ops Q rest)) : Run E n L g own (wpList P ops Q (⟨some d, op, ty, pos, after, some (j, b)⟩ :: rest)) := by
 intro a w hF hI
 have hy := gd_spec (ops := ops) hF hg
 unfold wpList
 have : (some b' == some b) = false := by simpa using hne
 simp only [Region.wanted, hy, this, Bool.false_eq_true, if_false]
 exact h _ w (hF.put hd undef) hI
theorem r_pass0 {op : Op} {j : Nat} {b b' : Bool} (hg : gd L ops j = some b') (hne : (b' == b) = false)
  (h : Run E n L g own (wpList P ops Q rest)) : Run E n L g own (wpList P ops Q (⟨none, op, ty, pos, after, some (j, b)⟩ :: rest)) := by
 intro a w hF hI
 have hy := gd_spec (ops := ops) hF hg
 unfold wpList
 have : (some b' == some b) = false := by simpa using hne
 simp only [Region.wanted, hy, this, Bool.false_eq_true, if_false]
 exact h _ w hF hI

/-! The general step. -/
theorem r_step {dst : Option Tmp} {op : Op}
  (h : ∀ a w, Fr n L a → Inv E g own w → (⟨dst, op, ty, pos, after, none⟩ : Oper).wp P a w (wpList P ops Q rest) Q) :
  Run E n L g own (wpList P ops Q (⟨dst, op, ty, pos, after, none⟩ :: rest)) := by
 intro a w hF hI
 unfold wpList
 simp only [Region.wanted, if_true]
 exact .inl (h a w hF hI)

theorem r_val {op : Op} (v : Value) (hd : Nat.blt d n = true)
  (hrun : ∀ a w, Fr n L a → Inv E g own w → (execOp a.eval ⟨some d, op, ty, pos, after, none⟩).run P w = .ok (.value v) w)
  (k : Run E n ((d, v) :: L) g own (wpList P ops Q rest)) : Run E n L g own (wpList P ops Q (⟨some d, op, ty, pos, after, none⟩ :: rest)) :=
 r_step fun a w hF hI => by
  unfold Oper.wp
  rw [hrun a w hF hI]
  exact k _ w (hF.put hd v) hI

def Val (P : Program) (E : Env) (n : Nat) (L : Slots) (g : Ghost) (own : List Res) (ty : TypeId) (op : Op) (v : Value) : Prop :=
 ∀ a w dst pos after, Fr n L a → Inv E g own w → (execOp a.eval ⟨dst, op, ty, pos, after, none⟩).run P w = .ok (.value v) w
theorem r_v {op : Op} {v : Value} (hd : Nat.blt d n = true) (hv : Val P E n L g own ty op v) (k : Run E n ((d, v) :: L) g own (wpList P ops Q rest)) : Run E n L g own (wpList P ops Q (⟨some d, op, ty, pos, after, none⟩ :: rest)) :=
 r_val v hd (fun a w hF hI => hv a w _ _ _ hF hI) k

/-! Regions whose order is open, and that only read: one walk in the order of the text. -/
def Wq (P : Program) (ops : Array Oper) (C : World → Prop) (K : Act → Prop) (l : List Oper) : Act → World → Prop := fun a _ => wpQuiet P ops C K l a
def Kq (E : Env) (g : Ghost) (own : List Res) (X : Act → World → Prop) : Act → Prop := fun a => ∀ w, Inv E g own w → X a w
def MixedB (P : Program) : Bool := P.follows .mixedOrders
theorem r_qregion {id : Nat} {l : List Oper} (hm : MixedB P = true) (hB : Region.lexB .any l.toArray = true)
  (h : Run E n L g own (Wq P l.toArray (Inv E g own) (Kq E g own (Q .normal)) l)) : Run E n L g own ((Code.region id l.toArray true).wp P Q) := fun a w hF hI =>
 wp_region_quiet (C := Inv E g own) hm hB (Inv.drew hI) (by have h1 := h a w hF hI; unfold Wq Kq at h1; simpa using h1)
theorem q_end {X : Act → World → Prop} (h : Run E n L g own X) : Run E n L g own (Wq P ops (Inv E g own) (Kq E g own X) []) := fun a _ hF _ w hI => h a w hF hI
theorem q_v {op : Op} {v : Value} {K : Act → Prop} (hd : Nat.blt d n = true) (hv : Val P E n L g own ty op v) (k : Run E n ((d, v) :: L) g own (Wq P ops (Inv E g own) K rest)) :
  Run E n L g own (Wq P ops (Inv E g own) K (⟨some d, op, ty, pos, after, none⟩ :: rest)) := fun a w hF hI => by
 unfold Wq wpQuiet
 simp only [Region.wanted, if_true]
 refine ⟨v, fun w' hI' => ?_, k _ w (hF.put hd v) hI⟩
 unfold Oper.quietAt
 rw [hv a w' _ _ _ hF hI']
 exact ⟨rfl, rfl⟩
theorem q_take {dst : Option Tmp} {op : Op} {j : Nat} {b : Bool} {K : Act → Prop} {C : World → Prop} (hg : gd L ops j = some b)
  (h : Run E n L g own (Wq P ops C K (⟨dst, op, ty, pos, after, none⟩ :: rest))) : Run E n L g own (Wq P ops C K (⟨dst, op, ty, pos, after, some (j, b)⟩ :: rest)) := fun a w hF hI => by
 have h1 := h a w hF hI
 have hy := gd_spec (ops := ops) hF hg
 unfold Wq wpQuiet at h1 ⊢
 simp only [Region.wanted, if_true] at h1
 simp only [Region.wanted, hy, beq_self_eq_true, if_true]
 exact h1
theorem q_pass {op : Op} {j : Nat} {b b' : Bool} {K : Act → Prop} {C : World → Prop} (hg : gd L ops j = some b') (hne : (b' == b) = false) (hd : Nat.blt d n = true)
  (h : Run E n ((d, undef) :: L) g own (Wq P ops C K rest)) : Run E n L g own (Wq P ops C K (⟨some d, op, ty, pos, after, some (j, b)⟩ :: rest)) := fun a w hF hI => by
 have hy := gd_spec (ops := ops) hF hg
 unfold Wq wpQuiet
 have : (some b' == some b) = false := by simpa using hne
 simp only [Region.wanted, hy, this, Bool.false_eq_true, if_false]
 exact h _ w (hF.put hd undef) hI

theorem val_move {x : Operand} {v : Value} (hx : ev L x = some v) : Val P E n L g own ty (.move x) (v) := fun a w dst pos after hF _ => by simp [execOp, hF.eval hx]
theorem val_assign {x : Operand} {v : Value} (hx : ev L x = some v) : Val P E n L g own ty (.assign x) (v) := fun a w dst pos after hF _ => by simp [execOp, hF.eval hx]
theorem val_pick_true {c x y : Operand} {v : Value} (hc : ev L c = some (.bool true)) (hx : ev L x = some v) : Val P E n L g own ty (.pick c x y) (v) := fun a w dst pos after hF _ => by simp [execOp, hF.eval hx, hF.eval hc, asBool]
theorem val_pick_false {c x y : Operand} {v : Value} (hc : ev L c = some (.bool false)) (hy : ev L y = some v) : Val P E n L g own ty (.pick c x y) (v) := fun a w dst pos after hF _ => by simp [execOp, hF.eval hy, hF.eval hc, asBool]
theorem val_extract {x : Operand} {ix : Nat} {vs : Array Value} {v : Value} (hx : ev L x = some (.tuple vs)) (hv : vs[ix]? = some v) : Val P E n L g own ty (.extract x ix) (v) := fun a w dst pos after hF _ => by simp [execOp, hF.eval hx, Instr.extract, hv]
/-! Integers. -/
theorem val_add {x y : Operand} {T T' : TypeId} {p q : Int} (hx : ev L x = some (.int .i64 p)) (hy : ev L y = some (.int .i64 q))
  (hb : -9223372036854775808 ≤ p + q ∧ p + q ≤ 9223372036854775807) : Val P E n L g own ty (.binOp .add T x y T') (.int .i64 (p + q)) := fun a w dst pos after hF _ => by simp [execOp, hF.eval hx, hF.eval hy, eqGuard, binOp, Op.intArith, IntWalk.i64_in _ hb]
theorem r_add {x y : Operand} {T T' : TypeId} {p q : Int} (hd : Nat.blt d n = true) (hx : ev L x = some (.int .i64 p)) (hy : ev L y = some (.int .i64 q))
  (hb : -9223372036854775808 ≤ p + q ∧ p + q ≤ 9223372036854775807) (k : Run E n ((d, .int .i64 (p + q)) :: L) g own (wpList P ops Q rest)) :
  Run E n L g own (wpList P ops Q (⟨some d, .binOp .add T x y T', ty, pos, after, none⟩ :: rest)) := r_v hd (val_add hx hy hb) k
theorem val_sub_ {x y : Operand} {T T' : TypeId} {p q : Int} (hx : ev L x = some (.int .i64 p)) (hy : ev L y = some (.int .i64 q))
  (hb : -9223372036854775808 ≤ p - q ∧ p - q ≤ 9223372036854775807) : Val P E n L g own ty (.binOp .sub T x y T') (.int .i64 (p - q)) := fun a w dst pos after hF _ => by simp [execOp, hF.eval hx, hF.eval hy, eqGuard, binOp, Op.intArith, IntWalk.i64_in _ hb]
theorem r_sub_ {x y : Operand} {T T' : TypeId} {p q : Int} (hd : Nat.blt d n = true) (hx : ev L x = some (.int .i64 p)) (hy : ev L y = some (.int .i64 q))
  (hb : -9223372036854775808 ≤ p - q ∧ p - q ≤ 9223372036854775807) (k : Run E n ((d, .int .i64 (p - q)) :: L) g own (wpList P ops Q rest)) :
  Run E n L g own (wpList P ops Q (⟨some d, .binOp .sub T x y T', ty, pos, after, none⟩ :: rest)) := r_v hd (val_sub_ hx hy hb) k
theorem val_rem {x y : Operand} {T T' : TypeId} {p q : Int} (hx : ev L x = some (.int .i64 p)) (hy : ev L y = some (.int .i64 q))
  (hq : q ≠ 0) : Val P E n L g own ty (.binOp .rem T x y T') (.int .i64 (p.tmod q)) := fun a w dst pos after hF _ => by simp [execOp, hF.eval hx, hF.eval hy, eqGuard, binOp, Op.intDiv, hq]
theorem r_rem {x y : Operand} {T T' : TypeId} {p q : Int} (hd : Nat.blt d n = true) (hx : ev L x = some (.int .i64 p)) (hy : ev L y = some (.int .i64 q))
  (hq : q ≠ 0) (k : Run E n ((d, .int .i64 (p.tmod q)) :: L) g own (wpList P ops Q rest)) :
  Run E n L g own (wpList P ops Q (⟨some d, .binOp .rem T x y T', ty, pos, after, none⟩ :: rest)) := r_v hd (val_rem hx hy hq) k
theorem val_quo {x y : Operand} {T T' : TypeId} {p q : Int} (hx : ev L x = some (.int .i64 p)) (hy : ev L y = some (.int .i64 q))
  (hq : q ≠ 0) (hb : -9223372036854775808 ≤ p.tdiv q ∧ p.tdiv q ≤ 9223372036854775807) : Val P E n L g own ty (.binOp .quo T x y T') (.int .i64 (p.tdiv q)) := fun a w dst pos after hF _ => by simp [execOp, hF.eval hx, hF.eval hy, eqGuard, binOp, Op.intDiv, hq, IntWalk.i64_in _ hb]
theorem r_quo {x y : Operand} {T T' : TypeId} {p q : Int} (hd : Nat.blt d n = true) (hx : ev L x = some (.int .i64 p)) (hy : ev L y = some (.int .i64 q))
  (hq : q ≠ 0) (hb : -9223372036854775808 ≤ p.tdiv q ∧ p.tdiv q ≤ 9223372036854775807) (k : Run E n ((d, .int .i64 (p.tdiv q)) :: L) g own (wpList P ops Q rest)) :
  Run E n L g own (wpList P ops Q (⟨some d, .binOp .quo T x y T', ty, pos, after, none⟩ :: rest)) := r_v hd (val_quo hx hy hq hb) k
theorem val_neg {x : Operand} {T : TypeId} {p : Int} (hx : ev L x = some (.int .i64 p))
  (hb : -9223372036854775808 ≤ 0 - p ∧ 0 - p ≤ 9223372036854775807) : Val P E n L g own ty (.unOp .neg T x) (.int .i64 (0 - p)) := fun a w dst pos after hF _ => by
  have h1 : IntKind.i64.wrap (0 - p) = 0 - p := IntWalk.i64_in _ hb
  simp only [execOp, hF.eval hx, Op.unary, Op.intArith, h1]; rfl
theorem r_neg {x : Operand} {T : TypeId} {p : Int} (hd : Nat.blt d n = true) (hx : ev L x = some (.int .i64 p))
  (hb : -9223372036854775808 ≤ 0 - p ∧ 0 - p ≤ 9223372036854775807) (k : Run E n ((d, .int .i64 (0 - p)) :: L) g own (wpList P ops Q rest)) :
  Run E n L g own (wpList P ops Q (⟨some d, .unOp .neg T x, ty, pos, after, none⟩ :: rest)) := r_v hd (val_neg hx hb) k
theorem val_lss {x y : Operand} {T T' : TypeId} {K : IntKind} {p q : Int} (hx : ev L x = some (.int K p)) (hy : ev L y = some (.int K q))
  : Val P E n L g own ty (.binOp .lss T x y T') (.bool (decide (p < q))) := fun a w dst pos after hF _ => by simp [execOp, hF.eval hx, hF.eval hy, eqGuard, binOp, Op.intCmp]
theorem val_leq {x y : Operand} {T T' : TypeId} {K : IntKind} {p q : Int} (hx : ev L x = some (.int K p)) (hy : ev L y = some (.int K q))
  : Val P E n L g own ty (.binOp .leq T x y T') (.bool (decide (p ≤ q))) := fun a w dst pos after hF _ => by simp [execOp, hF.eval hx, hF.eval hy, eqGuard, binOp, Op.intCmp]
theorem val_gtr {x y : Operand} {T T' : TypeId} {K : IntKind} {p q : Int} (hx : ev L x = some (.int K p)) (hy : ev L y = some (.int K q))
  : Val P E n L g own ty (.binOp .gtr T x y T') (.bool (decide (q < p))) := fun a w dst pos after hF _ => by simp [execOp, hF.eval hx, hF.eval hy, eqGuard, binOp, Op.intCmp]
theorem val_geq {x y : Operand} {T T' : TypeId} {K : IntKind} {p q : Int} (hx : ev L x = some (.int K p)) (hy : ev L y = some (.int K q))
  : Val P E n L g own ty (.binOp .geq T x y T') (.bool (decide (q ≤ p))) := fun a w dst pos after hF _ => by simp [execOp, hF.eval hx, hF.eval hy, eqGuard, binOp, Op.intCmp]
theorem val_eql {x y : Operand} {T T' : TypeId} {K : IntKind} {p q : Int} (hx : ev L x = some (.int K p)) (hy : ev L y = some (.int K q))
  : Val P E n L g own ty (.binOp .eql T x y T') (.bool (decide (p = q))) := fun a w dst pos after hF _ => by simp [execOp, hF.eval hx, hF.eval hy, eqGuard, binOp, Op.intCmp]; rfl
theorem val_neq {x y : Operand} {T T' : TypeId} {K : IntKind} {p q : Int} (hx : ev L x = some (.int K p)) (hy : ev L y = some (.int K q))
  : Val P E n L g own ty (.binOp .neq T x y T') (.bool (decide (p ≠ q))) := fun a w dst pos after hF _ => by simp [execOp, hF.eval hx, hF.eval hy, eqGuard, binOp, Op.intCmp]; rfl
theorem val_not_lit {x : Operand} {T : TypeId} {b : Bool} (hx : ev L x = some (.bool b))
  : Val P E n L g own ty (.unOp .not T x) (.bool (!b)) := fun a w dst pos after hF _ => by simp [execOp, hF.eval hx, Op.unary]
theorem val_min {x y : Operand} {ts : Array TypeId} {K : IntKind} {p q : Int} (hx : ev L x = some (.int K p)) (hy : ev L y = some (.int K q))
  : Val P E n L g own ty (.call ⟨.builtin .min, #[x, y], ts⟩) (.int K (min p q)) := fun a w dst pos after hF _ => by
  have : (if q < p then q else p) = min p q := by omega
  simp [execOp, resolve, invoke, builtin, Builtin.min_, Builtin.min2, hF.eval hx, hF.eval hy, this]
theorem r_min {x y : Operand} {ts : Array TypeId} {K : IntKind} {p q : Int} (hd : Nat.blt d n = true) (hx : ev L x = some (.int K p)) (hy : ev L y = some (.int K q))
  (k : Run E n ((d, .int K (min p q)) :: L) g own (wpList P ops Q rest)) :
  Run E n L g own (wpList P ops Q (⟨some d, .call ⟨.builtin .min, #[x, y], ts⟩, ty, pos, after, none⟩ :: rest)) := r_v hd (val_min hx hy) k
theorem val_max {x y : Operand} {ts : Array TypeId} {K : IntKind} {p q : Int} (hx : ev L x = some (.int K p)) (hy : ev L y = some (.int K q))
  : Val P E n L g own ty (.call ⟨.builtin .max, #[x, y], ts⟩) (.int K (max p q)) := fun a w dst pos after hF _ => by
  have : (if p < q then q else p) = max p q := by omega
  simp [execOp, resolve, invoke, builtin, Builtin.max_, Builtin.max2, hF.eval hx, hF.eval hy, this]
theorem r_max {x y : Operand} {ts : Array TypeId} {K : IntKind} {p q : Int} (hd : Nat.blt d n = true) (hx : ev L x = some (.int K p)) (hy : ev L y = some (.int K q))
  (k : Run E n ((d, .int K (max p q)) :: L) g own (wpList P ops Q rest)) :
  Run E n L g own (wpList P ops Q (⟨some d, .call ⟨.builtin .max, #[x, y], ts⟩, ty, pos, after, none⟩ :: rest)) := r_v hd (val_max hx hy) k
theorem val_makeFunc {f : Fn} {xs ys : Array Operand} {us vs : List Value} (hx : evs L xs.toList = some us) (hy : evs L ys.toList = some vs)
  : Val P E n L g own ty (.makeFunc f xs ys) (.func f us.toArray vs.toArray) := fun a w dst pos after hF _ => by
  have h1 : xs.map a.eval = us.toArray := by apply Array.ext'; simpa using hF.evals hx
  have h2 : ys.map a.eval = vs.toArray := by apply Array.ext'; simpa using hF.evals hy
  simp [execOp, Instr.makeFunc, h1, h2]
theorem r_makeFunc {f : Fn} {xs ys : Array Operand} {us vs : List Value} (hd : Nat.blt d n = true) (hx : evs L xs.toList = some us) (hy : evs L ys.toList = some vs)
  (k : Run E n ((d, .func f us.toArray vs.toArray) :: L) g own (wpList P ops Q rest)) :
  Run E n L g own (wpList P ops Q (⟨some d, .makeFunc f xs ys, ty, pos, after, none⟩ :: rest)) := r_v hd (val_makeFunc hx hy) k
/-! Strings. -/
theorem bytes_size (l : List UInt8) : (⟨⟨l⟩⟩ : ByteArray).size = l.length := rfl
theorem bytes_append (x y : List UInt8) : (⟨⟨x⟩⟩ : ByteArray) ++ ⟨⟨y⟩⟩ = ⟨⟨x ++ y⟩⟩ := by
 apply ByteArray.ext
 simp [ByteArray.data_append]
theorem bytes_extract (l : List UInt8) (lo hi : Nat) : (⟨⟨l⟩⟩ : ByteArray).extract lo hi = ⟨⟨(l.take hi).drop lo⟩⟩ := by
 apply ByteArray.ext
 apply Array.ext'
 simp [ByteArray.data_extract, List.extract, List.drop_take]
theorem val_len_str {x : Operand} {T : TypeId} [hT : StrT P T] {l : List UInt8} (hx : ev L x = some (str l)) : Val P E n L g own ty (.call ⟨.builtin .len, #[x], #[T]⟩) (.int .i64 l.length) := fun a w dst pos after hF _ => by simp [execOp, resolve, invoke, builtin, Builtin.len_, hF.eval hx, run_underlying hT.u, goInt, bytes_size]
theorem r_len_str {x : Operand} {T : TypeId} [hT : StrT P T] {l : List UInt8} (hd : Nat.blt d n = true) (hx : ev L x = some (str l)) (k : Run E n ((d, .int .i64 l.length) :: L) g own (wpList P ops Q rest)) :
  Run E n L g own (wpList P ops Q (⟨some d, .call ⟨.builtin .len, #[x], #[T]⟩, ty, pos, after, none⟩ :: rest)) := r_v hd (val_len_str hx) k
theorem val_len_sl {x : Operand} {T e : TypeId} {k0 by0 : Nat} [hT : SlT P T e k0 by0] {base : Option Addr} {len cap : Nat} (hx : ev L x = some (.slice base len cap)) : Val P E n L g own ty (.call ⟨.builtin .len, #[x], #[T]⟩) (.int .i64 len) := fun a w dst pos after hF _ => by simp [execOp, resolve, invoke, builtin, Builtin.len_, hF.eval hx, run_underlying hT.u, goInt]
theorem r_len_sl {x : Operand} {T e : TypeId} {k0 by0 : Nat} [hT : SlT P T e k0 by0] {base : Option Addr} {len cap : Nat} (hd : Nat.blt d n = true) (hx : ev L x = some (.slice base len cap)) (k : Run E n ((d, .int .i64 len) :: L) g own (wpList P ops Q rest)) :
  Run E n L g own (wpList P ops Q (⟨some d, .call ⟨.builtin .len, #[x], #[T]⟩, ty, pos, after, none⟩ :: rest)) := r_v hd (val_len_sl hx) k
theorem val_index_str {x y : Operand} {T : TypeId} [hT : StrT P T] {l : List UInt8} {kk : IntKind} {i : Int} {j : Nat} (hx : ev L x = some (str l)) (hy : ev L y = some (.int kk i))
  (hi : i = j) (hj : j < l.length) : Val P E n L g own ty (.index T x y) (.int .u8 (l[j].toNat)) := fun a w dst pos after hF _ => by
  subst hi
  have h1 : (⟨⟨l⟩⟩ : ByteArray)[j]? = some l[j] := by
   rw [ByteArray.getElem?_lt' _ _ (by rw [bytes_size]; exact hj)]
   rfl
  simp [execOp, hF.eval hx, hF.eval hy, Instr.index, asIntOf, run_underlying hT.u, h1]
theorem r_index_str {x y : Operand} {T : TypeId} [hT : StrT P T] {l : List UInt8} {kk : IntKind} {i : Int} {j : Nat} (hd : Nat.blt d n = true) (hx : ev L x = some (str l)) (hy : ev L y = some (.int kk i))
  (hi : i = j) (hj : j < l.length) (k : Run E n ((d, .int .u8 (l[j].toNat)) :: L) g own (wpList P ops Q rest)) :
  Run E n L g own (wpList P ops Q (⟨some d, .index T x y, ty, pos, after, none⟩ :: rest)) := r_v hd (val_index_str hx hy hi hj) k
theorem val_slice_str {x : Operand} {T : TypeId} [hT : StrT P T] {l : List UInt8} {lo hi : Option Operand} {p q : Nat} (hx : ev L x = some (str l))
  (hlo : match lo with | some y => ∃ K i, ev L y = some (.int K i) ∧ i = p | none => p = 0) (hhi : match hi with | some y => ∃ K i, ev L y = some (.int K i) ∧ i = q | none => q = l.length) (h1 : p ≤ q) (h2 : q ≤ l.length)
  : Val P E n L g own ty (.slice T x lo hi none) (str ((l.take q).drop p)) := fun a w dst pos after hF _ => by
  cases lo <;> cases hi <;> simp only at hlo hhi
  ·subst hlo; subst hhi
   simp [execOp, hF.eval hx, Instr.sliceAt, Instr.slice, Instr.sliceBounds, run_underlying hT.u]
  ·obtain ⟨K, i, hq, rfl⟩ := hhi
   subst hlo
   simp [execOp, hF.eval hx, hF.eval hq, Instr.sliceAt, Instr.slice, Instr.sliceBounds, Instr.sliceBound, asIntOf, run_underlying hT.u, bytes_size, bytes_extract, h2]
  ·obtain ⟨K, i, hp, rfl⟩ := hlo
   subst hhi
   simp [execOp, hF.eval hx, hF.eval hp, Instr.sliceAt, Instr.slice, Instr.sliceBounds, Instr.sliceBound, asIntOf, run_underlying hT.u, bytes_size, bytes_extract, h1]
  ·obtain ⟨K, i, hp, rfl⟩ := hlo
   obtain ⟨K', i', hq, rfl⟩ := hhi
   simp [execOp, hF.eval hx, hF.eval hp, hF.eval hq, Instr.sliceAt, Instr.slice, Instr.sliceBounds, Instr.sliceBound, asIntOf, run_underlying hT.u, bytes_size, bytes_extract, h1, h2]
theorem r_slice_str {x : Operand} {T : TypeId} [hT : StrT P T] {l : List UInt8} {lo hi : Option Operand} {p q : Nat} (hd : Nat.blt d n = true) (hx : ev L x = some (str l))
  (hlo : match lo with | some y => ∃ K i, ev L y = some (.int K i) ∧ i = p | none => p = 0) (hhi : match hi with | some y => ∃ K i, ev L y = some (.int K i) ∧ i = q | none => q = l.length) (h1 : p ≤ q) (h2 : q ≤ l.length)
  (k : Run E n ((d, str ((l.take q).drop p)) :: L) g own (wpList P ops Q rest)) :
  Run E n L g own (wpList P ops Q (⟨some d, .slice T x lo hi none, ty, pos, after, none⟩ :: rest)) := r_v hd (val_slice_str hx hlo hhi h1 h2) k
theorem val_eql_str {x y : Operand} {T T' : TypeId} {p q : List UInt8} (hx : ev L x = some (str p)) (hy : ev L y = some (str q))
  : Val P E n L g own ty (.binOp .eql T x y T') (.bool (decide (p = q))) := fun a w dst pos after hF _ => by simp [execOp, hF.eval hx, hF.eval hy, eqGuard, binOp, Op.stringOp]; rw [Bool.eq_iff_iff]; simp
theorem val_neq_str {x y : Operand} {T T' : TypeId} {p q : List UInt8} (hx : ev L x = some (str p)) (hy : ev L y = some (str q))
  : Val P E n L g own ty (.binOp .neq T x y T') (.bool (decide (p ≠ q))) := fun a w dst pos after hF _ => by simp [execOp, hF.eval hx, hF.eval hy, eqGuard, binOp, Op.stringOp]; rw [Bool.eq_iff_iff]; simp
theorem val_add_str {x y : Operand} {T T' : TypeId} {p q : List UInt8} (hx : ev L x = some (str p)) (hy : ev L y = some (str q)) (hb : p.length + q.length ≤ 9223372036854775807)
  : Val P E n L g own ty (.binOp .add T x y T') (str (p ++ q)) := fun a w dst pos after hF _ => by
  have h1 : ¬ ((9223372036854775807 : Int) < (p.length : Int) + (q.length : Int)) := by omega
  simp [execOp, hF.eval hx, hF.eval hy, eqGuard, binOp, Op.stringOp, bytes_size, IntKind.max, IntKind.signed, IntKind.bits, h1, bytes_append]
theorem r_add_str {x y : Operand} {T T' : TypeId} {p q : List UInt8} (hd : Nat.blt d n = true) (hx : ev L x = some (str p)) (hy : ev L y = some (str q)) (hb : p.length + q.length ≤ 9223372036854775807)
  (k : Run E n ((d, str (p ++ q)) :: L) g own (wpList P ops Q rest)) :
  Run E n L g own (wpList P ops Q (⟨some d, .binOp .add T x y T', ty, pos, after, none⟩ :: rest)) := r_v hd (val_add_str hx hy hb) k
/-! Interfaces. -/
theorem eval_const (a : Act) (v : Value) : a.eval (.const v) = v := rfl
theorem methods_of {T : TypeId} {ms : Array (String × TypeId)} (h : P.underlying T = some (.interface ms)) : P.underlying T = some (.interface (P.methodsAt T)) := by
 simp [Program.methodsAt, h]

theorem val_neq_nil_held {x : Operand} {T T' t : TypeId} [hT : IfaceT P T] {v : Value} (hx : ev L x = some (.iface t v))
  : Val P E n L g own ty (.binOp .neq T x (.const .nilIface) T') (.bool true) := fun a w dst pos after hF _ => by
  have hu := hT.u
  unfold ifaceB at hu
  split at hu
  ·rename_i ms hm
   simp [execOp, hF.eval hx, eval_const, eqGuard, Go.run_neq_held_nil w T t v (methods_of hm)]
  ·cases hu
theorem r_neq_nil_held {x : Operand} {T T' t : TypeId} [hT : IfaceT P T] {v : Value} (hd : Nat.blt d n = true) (hx : ev L x = some (.iface t v))
  (k : Run E n ((d, .bool true) :: L) g own (wpList P ops Q rest)) :
  Run E n L g own (wpList P ops Q (⟨some d, .binOp .neq T x (.const .nilIface) T', ty, pos, after, none⟩ :: rest)) := r_v hd (val_neq_nil_held hx) k
theorem val_neq_nil_nil {x : Operand} {T T' : TypeId} [hT : IfaceT P T] (hx : ev L x = some .nilIface)
  : Val P E n L g own ty (.binOp .neq T x (.const .nilIface) T') (.bool false) := fun a w dst pos after hF _ => by
  have hu := hT.u
  unfold ifaceB at hu
  split at hu
  ·rename_i ms hm
   simp [execOp, hF.eval hx, eval_const, eqGuard, Go.run_neq_nil_nil w T (methods_of hm)]
  ·cases hu
theorem r_neq_nil_nil {x : Operand} {T T' : TypeId} [hT : IfaceT P T] (hd : Nat.blt d n = true) (hx : ev L x = some .nilIface)
  (k : Run E n ((d, .bool false) :: L) g own (wpList P ops Q rest)) :
  Run E n L g own (wpList P ops Q (⟨some d, .binOp .neq T x (.const .nilIface) T', ty, pos, after, none⟩ :: rest)) := r_v hd (val_neq_nil_nil hx) k
theorem val_eql_nil_held {x : Operand} {T T' t : TypeId} [hT : IfaceT P T] {v : Value} (hx : ev L x = some (.iface t v))
  : Val P E n L g own ty (.binOp .eql T x (.const .nilIface) T') (.bool false) := fun a w dst pos after hF _ => by
  have hu := hT.u
  unfold ifaceB at hu
  split at hu
  ·rename_i ms hm
   simp [execOp, hF.eval hx, eval_const, eqGuard, Go.run_eql_held_nil w T t v (methods_of hm)]
  ·cases hu
theorem r_eql_nil_held {x : Operand} {T T' t : TypeId} [hT : IfaceT P T] {v : Value} (hd : Nat.blt d n = true) (hx : ev L x = some (.iface t v))
  (k : Run E n ((d, .bool false) :: L) g own (wpList P ops Q rest)) :
  Run E n L g own (wpList P ops Q (⟨some d, .binOp .eql T x (.const .nilIface) T', ty, pos, after, none⟩ :: rest)) := r_v hd (val_eql_nil_held hx) k
theorem val_eql_nil_nil {x : Operand} {T T' : TypeId} [hT : IfaceT P T] (hx : ev L x = some .nilIface)
  : Val P E n L g own ty (.binOp .eql T x (.const .nilIface) T') (.bool true) := fun a w dst pos after hF _ => by
  have hu := hT.u
  unfold ifaceB at hu
  split at hu
  ·rename_i ms hm
   simp [execOp, hF.eval hx, eval_const, eqGuard, Go.run_eql_nil_nil w T (methods_of hm)]
  ·cases hu
theorem r_eql_nil_nil {x : Operand} {T T' : TypeId} [hT : IfaceT P T] (hd : Nat.blt d n = true) (hx : ev L x = some .nilIface)
  (k : Run E n ((d, .bool true) :: L) g own (wpList P ops Q rest)) :
  Run E n L g own (wpList P ops Q (⟨some d, .binOp .eql T x (.const .nilIface) T', ty, pos, after, none⟩ :: rest)) := r_v hd (val_eql_nil_nil hx) k
theorem val_mkIface {x : Operand} {T : TypeId} [hT : ConcT P T] {v : Value} (hx : ev L x = some v) : Val P E n L g own ty (.makeInterface T x) (.iface T v) := fun a w dst pos after hF _ => by
  have hu := hT.u
  unfold concB at hu
  cases hm : P.underlying T with
  | none => rw [hm] at hu; cases hu
  | some dd =>
   rw [hm] at hu
   cases dd <;> first | (cases hu; done) | simp [execOp, hF.eval hx, Instr.makeInterface, run_underlying hm]
theorem r_mkIface {x : Operand} {T : TypeId} [hT : ConcT P T] {v : Value} (hd : Nat.blt d n = true) (hx : ev L x = some v) (k : Run E n ((d, .iface T v) :: L) g own (wpList P ops Q rest)) :
  Run E n L g own (wpList P ops Q (⟨some d, .makeInterface T x, ty, pos, after, none⟩ :: rest)) := r_v hd (val_mkIface hx) k
/-! Memory. -/
theorem isAgg_run (T : TypeId) {k : Nat} [hT : Agg P T k] (w : World) : (isAgg T).run P w = .ok true w := by
 have hu := hT.u
 unfold aggB at hu
 split at hu
 ·rename_i h; simp [isAgg, run_underlying h]
 ·rename_i h; simp [isAgg, run_underlying h]
 ·cases hu
theorem isOne_run (T : TypeId) [hT : One P T] (w : World) : (isAgg T).run P w = .ok false w := by
 have hu := hT.u
 unfold oneB at hu
 cases hm : P.underlying T with
 | none => rw [hm] at hu; cases hu
 | some dd =>
  rw [hm] at hu
  cases dd <;> first | (cases hu; done) | simp [isAgg, run_underlying hm]
theorem sizeOf_run {T : TypeId} {k : Nat} (h : (P.info? T).map (·.size) = some k) (w : World) : (sizeOf T).run P w = .ok k w := by
 cases hi : P.info? T with
 | none => simp [hi] at h
 | some i => simp [hi] at h; simp [sizeOf, typeInfo, hi, h]


theorem val_load {x : Operand} {T : TypeId} {sz : Nat} [hT : Agg P T sz] {b off : Nat} {vs : List Value} (hx : ev L x = some (ptr b off)) (hr : Rd g own b off vs) (hl : vs.length = sz)
  : Val P E n L g own ty (.load T x) (.agg vs.toArray) := fun a w dst pos after hF hI => by
  have h1 : (loadCells ⟨b, off, none⟩ sz).run P w = .ok vs.toArray w := by
   rw [← hl]
   exact run_loadCells_list (P := P) w ⟨b, off, none⟩ vs (fun j v hv => by rw [add_none]; exact hr E w hI j v hv)
  simp [execOp, hF.eval hx, Instr.loadAt, Instr.sureAddr, loadVar, isAgg_run, sizeOf_run hT.s, h1]
theorem r_load {x : Operand} {T : TypeId} {sz : Nat} [hT : Agg P T sz] {b off : Nat} {vs : List Value} (hd : Nat.blt d n = true) (hx : ev L x = some (ptr b off)) (hr : Rd g own b off vs) (hl : vs.length = sz)
  (k : Run E n ((d, .agg vs.toArray) :: L) g own (wpList P ops Q rest)) :
  Run E n L g own (wpList P ops Q (⟨some d, .load T x, ty, pos, after, none⟩ :: rest)) := r_v hd (val_load hx hr hl) k
theorem val_load1 {x : Operand} {T : TypeId} [hT : One P T] {b off : Nat} {v : Value} (hx : ev L x = some (ptr b off)) (hr : Rd g own b off [v])
  : Val P E n L g own ty (.load T x) (v) := fun a w dst pos after hF hI => by
  have h1 : w.cell? ⟨b, off, none⟩ = some v := hr E w hI 0 v rfl
  simp [execOp, hF.eval hx, Instr.loadAt, Instr.sureAddr, loadVar, isOne_run, h1]
theorem r_load1 {x : Operand} {T : TypeId} [hT : One P T] {b off : Nat} {v : Value} (hd : Nat.blt d n = true) (hx : ev L x = some (ptr b off)) (hr : Rd g own b off [v])
  (k : Run E n ((d, v) :: L) g own (wpList P ops Q rest)) :
  Run E n L g own (wpList P ops Q (⟨some d, .load T x, ty, pos, after, none⟩ :: rest)) := r_v hd (val_load1 hx hr) k
theorem r_alloc {T : TypeId} {zs : List Value} [hT : Zero P T zs] (hd : Nat.blt d n = true)
  (k : ∀ b, Run E n ((d, ptr b 0) :: L) g (.blk b T zs :: own) (wpList P ops Q rest)) : Run E n L g own (wpList P ops Q (⟨some d, .alloc T, ty, pos, after, none⟩ :: rest)) :=
 r_step fun a w hF hI => by
  have hz := hT.z
  cases hi : P.info? T with
  | none => simp [hi] at hz
  | some i =>
   cases hz' : i.zero with
   | none => simp [hi, hz'] at hz
   | some z =>
    simp only [hi, Option.bind_some, hz', Option.map_some, Option.some.injEq] at hz
    have hc : z.cells = zs.toArray := by rw [← hz]
    have h1 : (execOp a.eval ⟨some d, .alloc T, ty, pos, after, none⟩).run P w = .ok (.value (ptr w.heap.size 0)) (w.alloc (.cells zs.toArray T)) := by
     simp [execOp, Instr.alloc, zeroValue, typeInfo, hi, hz', newVar, newRow, hc]
    unfold Oper.wp
    rw [h1]
    exact k _ _ _ (hF.put hd _) (hI.alloc T zs)
theorem r_box {x : Operand} {T : TypeId} {v : Value} {cs : List Value} (hd : Nat.blt d n = true) (hx : ev L x = some v) (hc : cellsOf v = some cs)
  (k : ∀ b, Run E n ((d, ptr b 0) :: L) g (.blk b T cs :: own) (wpList P ops Q rest)) : Run E n L g own (wpList P ops Q (⟨some d, .box T x, ty, pos, after, none⟩ :: rest)) :=
 r_step fun a w hF hI => by
  have h1 : (execOp a.eval ⟨some d, .box T x, ty, pos, after, none⟩).run P w = .ok (.value (ptr w.heap.size 0)) (w.alloc (.cells cs.toArray T)) := by
   simp [execOp, hF.eval hx, Instr.box, newVar, newRow, cellsOf_spec hc]
  unfold Oper.wp
  rw [h1]
  exact k _ _ _ (hF.put hd _) (hI.alloc T cs)

theorem storeVar_run {T : TypeId} {b off sz : Nat} {T0 : TypeId} {cs vs cs' : List Value} {v : Value} (hs : (P.info? T).map (·.size) = some sz) (hc : cellsOf v = some vs) (hl : vs.length = sz) (h1 : allOne vs = true) (hsp : splice cs off vs = some cs')
  (w : World) (hw : w.heap[b]? = some (.cells cs.toArray T0 (0, 0))) : (storeVar T ⟨b, off, none⟩ v).run P w = .ok () (w.setRow b cs'.toArray) := by
 obtain ⟨rfl, hle⟩ := splice_spec hsp
 have hcv := cellsOf_spec hc
 rcases hle with rfl | hle
 ·have hst := run_storeCells_at P b off T0 [] 0 cs.toArray w hw
  simp [storeVar, sizeOf_run hs, hcv, ← hl, storeCells]
  rw [setRow_self w b cs.toArray T0 (0, 0) hw]
 ·have hst := run_storeCells_at P b off T0 vs 0 cs.toArray w hw (by simpa using hle) (allOne_spec h1)
  simp [storeVar, sizeOf_run hs, hcv, hl, hst]

theorem r_store {x y : Operand} {T T0 : TypeId} {b off : Nat} {v : Value} {sz : Nat} {cs vs cs' : List Value} (i : Nat) (hs : (P.info? T).map (·.size) = some sz) (hx : ev L x = some (ptr b off)) (hy : ev L y = some v)
  (ho : own[i]? = some (.blk b T0 cs)) (hc : cellsOf v = some vs) (hl : vs.length = sz) (h1 : allOne vs = true) (hsp : splice cs off vs = some cs')
  (k : Run E n L g (own.set i (.blk b T0 cs')) (wpList P ops Q rest)) : Run E n L g own (wpList P ops Q (⟨none, .store T x y, ty, pos, after, none⟩ :: rest)) :=
 r_step fun a w hF hI => by
  have hw : w.heap[b]? = some (.cells cs.toArray T0 (0, 0)) := sat_at hI ho
  have hr : (execOp a.eval ⟨none, .store T x y, ty, pos, after, none⟩).run P w = .ok .skip (w.setRow b cs'.toArray) := by
   simp [execOp, hF.eval hx, hF.eval hy, Instr.storeAt, Instr.sureAddr, storeVar_run hs hc hl h1 hsp w hw]
  unfold Oper.wp
  rw [hr]
  exact k _ _ hF (hI.setBlk ho cs')
theorem r_storeA {x y : Operand} {T T0 : TypeId} {sz : Nat} [hT : Agg P T sz] {b off : Nat} {v : Value} {cs vs cs' : List Value} (i : Nat) (hx : ev L x = some (ptr b off)) (hy : ev L y = some v)
  (ho : own[i]? = some (.blk b T0 cs)) (hc : cellsOf v = some vs) (hl : vs.length = sz) (h1 : allOne vs = true) (hsp : splice cs off vs = some cs')
  (k : Run E n L g (own.set i (.blk b T0 cs')) (wpList P ops Q rest)) : Run E n L g own (wpList P ops Q (⟨none, .store T x y, ty, pos, after, none⟩ :: rest)) := r_store i hT.s hx hy ho hc hl h1 hsp k
theorem r_store1 {x y : Operand} {T T0 : TypeId} [hT : One P T] {b off : Nat} {v : Value} {cs cs' : List Value} (i : Nat) (hx : ev L x = some (ptr b off)) (hy : ev L y = some v)
  (ho : own[i]? = some (.blk b T0 cs)) (hc : cellsOf v = some [v]) (h1 : allOne [v] = true) (hsp : splice cs off [v] = some cs')
  (k : Run E n L g (own.set i (.blk b T0 cs')) (wpList P ops Q rest)) : Run E n L g own (wpList P ops Q (⟨none, .store T x y, ty, pos, after, none⟩ :: rest)) := r_store i hT.s hx hy ho hc rfl h1 hsp k

theorem val_fieldAddr {x : Operand} {T : TypeId} {f off : Nat} [hT : Fld P T f off] {b o : Nat} (hx : ev L x = some (ptr b o)) : Val P E n L g own ty (.fieldAddr T x f) (ptr b (o + off)) := fun a w dst pos after hF _ => by
  have hh := hT.h
  unfold fldB at hh
  split at hh
  ·rename_i fs hfs
   split at hh
   ·rename_i fl hfl
    split at hh
    ·rename_i i hi
     split at hh
     ·cases hh
     ·rename_i hne
      simp only [Option.some.injEq] at hh
      have h1 : (sizeOf fl.type).run P w = .ok i.size w := sizeOf_run (by simp [hi]) w
      simp [execOp, hF.eval hx, Instr.fieldAt, Instr.sureAddr, fieldPlace, run_underlying hfs, hfl, h1, hne, add_none, hh]
    ·cases hh
   ·cases hh
  ·cases hh
theorem r_fieldAddr {x : Operand} {T : TypeId} {f off : Nat} [hT : Fld P T f off] {b o : Nat} (hd : Nat.blt d n = true) (hx : ev L x = some (ptr b o)) (k : Run E n ((d, ptr b (o + off)) :: L) g own (wpList P ops Q rest)) :
  Run E n L g own (wpList P ops Q (⟨some d, .fieldAddr T x f, ty, pos, after, none⟩ :: rest)) := r_v hd (val_fieldAddr hx) k
theorem val_indexAddr {x y : Operand} {T e : TypeId} {sz by0 : Nat} [hT : SlT P T e sz by0] {b off len cap : Nat} {kk : IntKind} {i : Int} {j : Nat} (hx : ev L x = some (.slice (some ⟨b, off, none⟩) len cap)) (hy : ev L y = some (.int kk i))
  (hi : i = j) (hj : j < len) : Val P E n L g own ty (.indexAddr T x y) (ptr b (off + j * sz)) := fun a w dst pos after hF _ => by
  subst hi
  have h1 : (sizeOf e).run P w = .ok sz w := by
   refine sizeOf_run ?_ w
   have := hT.s
   cases hh : P.info? e with
   | none => simp [hh] at this
   | some i => simp [hh] at this; simp [this.1]
  simp [execOp, hF.eval hx, hF.eval hy, Instr.indexAt, asIntOf, run_underlying hT.u, hj, h1, add_none]
theorem r_indexAddr {x y : Operand} {T e : TypeId} {sz by0 : Nat} [hT : SlT P T e sz by0] {b off len cap : Nat} {kk : IntKind} {i : Int} {j : Nat} (hd : Nat.blt d n = true) (hx : ev L x = some (.slice (some ⟨b, off, none⟩) len cap)) (hy : ev L y = some (.int kk i))
  (hi : i = j) (hj : j < len) (k : Run E n ((d, ptr b (off + j * sz)) :: L) g own (wpList P ops Q rest)) :
  Run E n L g own (wpList P ops Q (⟨some d, .indexAddr T x y, ty, pos, after, none⟩ :: rest)) := r_v hd (val_indexAddr hx hy hi hj) k
/-! Slices of one's own. -/
theorem r_nilRow {X : Act → World → Prop} (T : TypeId) (size : Nat) (h : Run E n L g (.row T size (.slice none 0 0) 0 [] :: own) X) : Run E n L g own X := by
 intro a w hF hI
 refine h a w hF ?_
 have := Inv.move (g' := g) (lent := []) (got := [.row T size (.slice none 0 0) 0 []]) (kept := own) (w' := w) hI (Nat.le_refl _) rfl rfl rfl (fun _ _ _ => rfl) (Ghost.le_refl g) hI.1.cov (fun _ _ h => absurd rfl h) ?_ ?_ ?_ ?_
 ·exact this
 ·intro r hr; simp only [List.mem_singleton] at hr; subst hr; exact World.ownsRow_nil w 0 T size
 ·simp [foots, Res.foot, Value.ownBlock]
 ·simp [foots, Res.foot, Value.ownBlock]
 ·simp [foots, Res.foot, Value.ownBlock]

theorem infoSl {T e : TypeId} {sz by0 : Nat} (hT : SlT P T e sz by0) : ∃ i, P.info? e = some i ∧ i.size = sz ∧ i.bytes = by0 := by
 have := hT.s
 cases hh : P.info? e with
 | none => simp [hh] at this
 | some i => simp [hh] at this; exact ⟨i, rfl, this.1, this.2⟩

theorem append_fresh {T ty e : TypeId} {inf : TypeInfo} {z : Value} {sz by0 : Nat} (hu : P.underlying T = some (.slice e)) (hi : P.info? e = some inf) (hz : inf.zero = some z) (hisz : inf.size = sz) (hiby : inf.bytes = by0)
  (hzs : z.cells.size = sz) (hsz : 0 < sz) {w w' : World} {v v' : Value} {m m' c' : Nat} {xs news : List Value} {ad : Addr} (hown : w.ownsRow 0 e sz v m xs) (hl : news.length = m' * sz)
  (hnews : ∀ j u, news[j]? = some u → w.cell? (ad.add j) = some u) (h1 : ∀ u ∈ news, u.oneCell' = true) (hb1 : m + m' ≤ maxLen) (hb2 : (m + m') * by0 ≤ 140737488355328)
  (hrun : (Builtin.append_ #[T, T] ty #[v, .slice (some ad) m' c']).run P w = .ok v' w') : ∀ b, v'.ownBlock = some b → v.ownBlock = some b ∨ w.heap.size ≤ b := by
 intro b hb
 rcases hown.2 with ⟨hv, hm0⟩ | ⟨gb, cap, cur, hv, _, hg, hnc, hcm, hcs, _⟩
 ·subst hv; subst hm0
  have hx : xs = [] := List.eq_nil_of_length_eq_zero (by simpa using hown.1)
  subst hx
  obtain ⟨v2, w2, h2, ho2, _⟩ := run_append_own (P := P) w w.heap.size T ty e inf z sz by0 hu hi hz hisz hiby hzs hsz _ 0 [] (World.ownsRow_nil w _ e sz) ad m' c' news hl hnews h1 hb1 hb2 (Nat.le_refl _)
  rw [hrun] at h2
  simp only [Result.ok.injEq] at h2
  rw [h2.1] at hb
  exact .inr (World.ownsRow.lt ho2 b hb).1
 ·subst hv
  by_cases hroom : m + m' ≤ cap
  ·have hfit : m * inf.size + news.length ≤ cur.size := by rw [hl, hcs, hisz, ← Nat.add_mul]; exact Nat.mul_le_mul_right _ hroom
   have h2 := run_append_room (P := P) w T ty e inf hu hi gb m cap cur hg ad m' c' news (by rw [hisz]; exact hl) hnews h1 hroom hfit
   rw [hrun] at h2
   simp only [Result.ok.injEq] at h2
   rw [h2.1] at hb
   exact .inl hb
  ·have h2 := run_append_grow (P := P) w T ty e inf z hu hi hz ⟨gb, 0, none⟩ m cap xs (by rw [hisz]; exact hown.1) (hown.cells (g := gb) rfl) ad m' c' news (by rw [hisz]; exact hl) hnews (by omega)
    (by simp only [maxLen] at hb1; omega) (growslice_fits (by omega) (by rw [hiby]; exact hb2))
   rw [hrun] at h2
   simp only [Result.ok.injEq] at h2
   rw [h2.1] at hb
   simp only [Value.ownBlock, Option.some.injEq] at hb
   exact .inr (by omega)

theorem r_append {x y : Operand} {T e : TypeId} {sz by0 : Nat} [hT : SlT P T e sz by0] {zs : List Value} [hZ : Zero P e zs] {v : Value} {m : Nat} {xs : List Value} {base : Option Addr} {m' c' : Nat} {news : List Value} (i : Nat)
  (hd : Nat.blt d n = true) (hx : ev L x = some v) (hy : ev L y = some (.slice base m' c')) (ho : own[i]? = some (.row e sz v m xs)) (hzl : zs.length = sz) (hsz : 0 < sz)
  (hl : news.length = m' * sz) (hr : (base = none ∧ m' = 0 ∧ c' = 0) ∨ ∃ b off, base = some ⟨b, off, none⟩ ∧ Rd g own b off news) (h1 : ∀ u ∈ news, oneC u = true)
  (hb1 : m + m' ≤ maxLen) (hb2 : (m + m') * by0 ≤ 140737488355328)
  (k : ∀ v', (v' = .slice none 0 0 ↔ v = .slice none 0 0 ∧ m' = 0) → Run E n ((d, v') :: L) g (own.set i (.row e sz v' (m + m') (xs ++ news))) (wpList P ops Q rest)) :
  Run E n L g own (wpList P ops Q (⟨some d, .call ⟨.builtin .append, #[x, y], #[T, T]⟩, ty, pos, after, none⟩ :: rest)) :=
 r_step fun a w hF hI => by
  obtain ⟨inf, hi, hisz, hiby⟩ := infoSl hT
  obtain ⟨z, hz1, hz2⟩ : ∃ z, inf.zero = some z ∧ z.cells.size = sz := by
   have := hZ.z
   rw [hi] at this
   cases hz : inf.zero with
   | none => simp [hz] at this
   | some z =>
    simp [hz] at this
    exact ⟨z, rfl, by rw [← hzl, ← this]; simp⟩
  have hown : w.ownsRow 0 e sz v m xs := sat_at hI ho
  have key : ∃ v' w', (Builtin.append_ #[T, T] ty #[v, .slice base m' c']).run P w = .ok v' w' ∧ w'.ownsRow 0 e sz v' (m + m') (xs ++ news) ∧ w.grownBy w' v.ownBlock ∧ (v' = .slice none 0 0 ↔ v = .slice none 0 0 ∧ m' = 0) ∧ ∀ b, v'.ownBlock = some b → v.ownBlock = some b ∨ w.heap.size ≤ b := by
   rcases hr with ⟨rfl, rfl, rfl⟩ | ⟨b, off, rfl, hrd⟩
   ·have hn : news = [] := List.eq_nil_of_length_eq_zero (by simpa using hl)
    subst hn
    refine ⟨v, w, ?_, by simpa using hown, ⟨rfl, rfl, rfl, Nat.le_refl _, fun _ _ _ => rfl⟩, by simp, fun b hb => .inl hb⟩
    obtain ⟨hxl, hown⟩ := hown
    rcases hown with ⟨rfl, rfl⟩ | ⟨gb, cap, cur, rfl, _, hg, hnc, hcm, hcs, _⟩
    ·simp [Builtin.append_, run_underlying hT.u, sizeOf, typeInfo, hi, Builtin.lenOf, Builtin.firstCells]
    ·simp [Builtin.append_, run_underlying hT.u, sizeOf, typeInfo, hi, Builtin.lenOf, Builtin.firstCells, hnc, storeCells]
   ·have hnews : ∀ j u, news[j]? = some u → w.cell? ((⟨b, off, none⟩ : Addr).add j) = some u := fun j u hu => by rw [add_none]; exact hrd E w hI j u hu
    have ho1 : ∀ u ∈ news, u.oneCell' = true := fun u hu => oneC_spec (h1 u hu)
    obtain ⟨v', w', a1, a2, a3, a4⟩ := run_append_own (P := P) w 0 T ty e inf z sz by0 hT.u hi hz1 hisz hiby hz2 hsz v m xs hown ⟨b, off, none⟩ m' c' news hl hnews ho1 hb1 hb2 (Nat.zero_le _)
    exact ⟨v', w', a1, a2, a3, a4, append_fresh hT.u hi hz1 hisz hiby hz2 hsz hown hl hnews ho1 hb1 hb2 a1⟩
  obtain ⟨v', w', hrun, hown', hgr, hnil, hfr⟩ := key
  have hr : (execOp a.eval ⟨some d, .call ⟨.builtin .append, #[x, y], #[T, T]⟩, ty, pos, after, none⟩).run P w = .ok (.value v') w' := by
   simp [execOp, resolve, invoke, builtin, hF.eval hx, hF.eval hy, hrun]
  unfold Oper.wp
  rw [hr]
  refine k v' hnil _ _ (hF.put hd v') ?_
  obtain ⟨pre, post, hp1, hp2⟩ := split_at ho
  rw [hp2]
  rw [hp1] at hI
  refine Inv.swap hI hgr.size hgr.tape hgr.os hgr.output (fun b hb hnb => hgr.block b hb (fun e => hnb ?_)) hown' ?_ ?_
  ·simp only [Res.foot, Option.mem_toList]; exact e.symm
  ·cases hv : v'.ownBlock <;> simp [Res.foot, hv]
  ·intro b hbm
   simp only [Res.foot, Option.mem_toList] at hbm ⊢
   rcases hfr b hbm with h | h
   ·exact .inr h
   ·exact .inl h

/-! Contracts. -/
def Ends (E : Env) (Post : Value → Ghost → List Res → Prop) : Ending → World → Prop := fun e w' => ∃ v g' own', e = .returned v ∧ Post v g' own' ∧ Inv E g' own' w'
def Spec (P : Program) (f : FuncId) (args : List Value) (g : Ghost) (own : List Res) (Post : Value → Ghost → List Res → Prop) : Prop :=
 ∀ w, Holds g own w → Calls P f args.toArray w (Ends ⟨w, foots own, g⟩ Post)

theorem Inv.start {g : Ghost} {own : List Res} {w : World} (h : Holds g own w) : Inv ⟨w, foots own, g⟩ g own w :=
 ⟨h, ⟨Nat.le_refl _, fun _ _ _ => rfl, rfl, rfl, rfl, Ghost.le_refl g, fun _ _ h => absurd rfl h, fun _ hb => .inr hb⟩⟩

theorem Spec.mono {f : FuncId} {args : List Value} {Post Post' : Value → Ghost → List Res → Prop} (h : Spec P f args g own Post) (hp : ∀ v g' own', Post v g' own' → Post' v g' own') : Spec P f args g own Post' :=
 fun w hH => (h w hH).mono fun _ _ ⟨v, g', own', h1, h2, h3⟩ => ⟨v, g', own', h1, hp _ _ _ h2, h3⟩

def slots0 : List Value → Nat → Slots
 | [], _ => []
 | v :: r, i => (i, v) :: slots0 r (i + 1)
theorem slots0_spec : ∀ (l : List Value) (i k : Nat) (v : Value), look (slots0 l i) k = some v → i ≤ k ∧ l[k - i]? = some v
 | [], _, _, _, h => by simp [slots0, look] at h
 | x :: r, i, k, v, h => by
  simp only [slots0, look] at h
  cases hb : Nat.beq i k with
  | true =>
   rw [hb] at h
   have : i = k := Nat.eq_of_beq_eq_true hb
   subst this
   simpa using h
  | false =>
   rw [hb] at h
   obtain ⟨h1, h2⟩ := slots0_spec r (i + 1) k v h
   refine ⟨by omega, ?_⟩
   rw [show k - i = (k - (i + 1)) + 1 by omega]
   simpa using h2

theorem spec_of_run {f : FuncId} {fn : Func} {c : Code} {args : List Value} {Post : Value → Ghost → List Res → Prop} (hf : P.funcs[f]? = some fn) (hb : fn.body = some c) (hn : fn.ntmps = n) (hle : Nat.ble args.length n = true)
  (h : ∀ E : Env, E.g0 = g → Run E n (slots0 args 0) g own (c.wp P (bodyPost P fn (Ends E Post)))) : Spec P f args g own Post := by
 intro w hH
 refine calls_of_wp hf hb ?_
 refine h ⟨w, foots own, g⟩ rfl _ w ⟨rfl, ?_, ?_⟩ (Inv.start hH)
 ·have := Nat.le_of_ble_eq_true hle
  simp [hn]; omega
 ·intro k v hk
  obtain ⟨_, h2⟩ := slots0_spec args 0 k v hk
  have hlt : k < args.length := by
   rcases Nat.lt_or_ge k args.length with h | h
   ·exact h
   ·simp [List.getElem?_eq_none h] at h2
  simp only [Nat.sub_zero] at h2
  rw [Array.getElem?_append_left (by simpa using hlt)]
  simpa using h2

theorem r_call' {f : FuncId} {xs : Array Operand} {ts : Array TypeId} {vals : List Value} {lent kept : List Res} [hB : Body P f] {Post : Value → Ghost → List Res → Prop} (hd : Nat.blt d n = true) (hx : evs L xs.toList = some vals)
  (hp : own.Perm (lent ++ kept)) (hs : Spec P f vals g lent Post)
  (k : ∀ v g' own', Post v g' own' → Ghost.le g g' → Run E n ((d, v) :: L) g' (own' ++ kept) (wpList P ops Q rest)) :
  Run E n L g own (wpList P ops Q (⟨some d, .call ⟨.value (.func f), xs, ts⟩, ty, pos, after, none⟩ :: rest)) :=
 r_step fun a w hF hI => by
  have hb := hB.h
  unfold bodyB at hb
  split at hb
  ·rename_i fn hfn
   simp only [Bool.and_eq_true, Bool.not_eq_true', beq_eq_false_iff_ne, ne_eq] at hb
   have hargs : (xs.map a.eval) = vals.toArray := by
    have := hF.evals hx
    apply Array.ext'
    simpa using this
   have hbn : fn.body ≠ none := fun h => by simp [h] at hb
   have h1 : (execOp a.eval ⟨some d, .call ⟨.value (.func f), xs, ts⟩, ty, pos, after, none⟩).run P w = .ok (.enter f vals.toArray) w := by
    simp [execOp, resolve, Act.eval, Deferred.ofValue, invoke, callFunc, hfn, hb.2, hbn, hargs]
   unfold Oper.wp
   rw [h1]
   have hI' : Inv E g (lent ++ kept) w := hI.perm hp
   have hH : Holds g lent w := (hI'.drop (List.sublist_append_left _ _)).1
   refine (hs w hH).mono ?_
   rintro e w' ⟨v, g', own', rfl, hpost, hH', hS'⟩
   refine k v g' own' hpost hS'.gle _ _ (hF.put hd v) ?_
   exact Inv.move hI' hS'.size hS'.tape hS'.os hS'.output hS'.kept hS'.gle hH'.cov hS'.gnew hH'.sat hH'.dis hH'.gn hS'.ofoot
  ·cases hb

theorem r_call {f : FuncId} {xs : Array Operand} {ts : Array TypeId} {vals : List Value} [hB : Body P f] {Post : Value → Ghost → List Res → Prop} (hd : Nat.blt d n = true) (hx : evs L xs.toList = some vals)
  (hs : Spec P f vals g [] Post) (k : ∀ v g' own', Post v g' own' → Ghost.le g g' → Run E n ((d, v) :: L) g' (own' ++ own) (wpList P ops Q rest)) :
  Run E n L g own (wpList P ops Q (⟨some d, .call ⟨.value (.func f), xs, ts⟩, ty, pos, after, none⟩ :: rest)) :=
 r_call' (lent := []) (kept := own) hd hx (List.Perm.refl _) hs k

def Pure (P : Program) (f : FuncId) (args : List Value) (g : Ghost) (v : Value) : Prop := Spec P f args g [] fun v' g' own' => v' = v ∧ g' = g ∧ own' = []
theorem r_callP {f : FuncId} {xs : Array Operand} {ts : Array TypeId} {vals : List Value} [hB : Body P f] {v : Value} (hd : Nat.blt d n = true) (hx : evs L xs.toList = some vals)
  (hs : Pure P f vals g v) (k : Run E n ((d, v) :: L) g own (wpList P ops Q rest)) :
  Run E n L g own (wpList P ops Q (⟨some d, .call ⟨.value (.func f), xs, ts⟩, ty, pos, after, none⟩ :: rest)) :=
 r_call hd hx hs fun _ _ _ ⟨h1, h2, h3⟩ _ => by subst h1; subst h2; subst h3; exact k

theorem q_callP {f : FuncId} {xs : Array Operand} {ts : Array TypeId} {vals : List Value} [hB : Body P f] {v : Value} {K : Act → Prop} (hd : Nat.blt d n = true) (hx : evs L xs.toList = some vals)
  (hs : Pure P f vals g v) (k : Run E n ((d, v) :: L) g own (Wq P ops (Inv E g own) K rest)) :
  Run E n L g own (Wq P ops (Inv E g own) K (⟨some d, .call ⟨.value (.func f), xs, ts⟩, ty, pos, after, none⟩ :: rest)) := fun a w hF hI => by
 have hb := hB.h
 unfold bodyB at hb
 split at hb
 ·rename_i fn hfn
  simp only [Bool.and_eq_true, Bool.not_eq_true', beq_eq_false_iff_ne, ne_eq] at hb
  have hargs : (xs.map a.eval) = vals.toArray := by
   have := hF.evals hx
   apply Array.ext'
   simpa using this
  have hbn : fn.body ≠ none := fun h => by simp [h] at hb
  have h1 : ∀ w', (execOp a.eval ⟨some d, .call ⟨.value (.func f), xs, ts⟩, ty, pos, after, none⟩).run P w' = .ok (.enter f vals.toArray) w' := fun w' => by
   simp [execOp, resolve, Act.eval, Deferred.ofValue, invoke, callFunc, hfn, hb.2, hbn, hargs]
  unfold Wq wpQuiet
  simp only [Region.wanted, if_true]
  refine ⟨v, fun w' hI' => ?_, k _ w (hF.put hd v) hI⟩
  unfold Oper.quietAt
  rw [h1 w']
  refine ⟨rfl, ?_⟩
  have hH : Holds g [] w' := (hI'.drop (List.nil_sublist _)).1
  refine (hs w' hH).mono ?_
  rintro e w'' ⟨v', g', own', rfl, ⟨rfl, rfl, rfl⟩, hH', hS'⟩
  refine ⟨rfl, ?_⟩
  exact Inv.move (lent := []) (got := []) (kept := own) hI' hS'.size hS'.tape hS'.os hS'.output hS'.kept hS'.gle hH'.cov hS'.gnew hH'.sat hH'.dis hH'.gn hS'.ofoot
 ·cases hb

/-! The end. -/
theorem r_fin {fn : Func} {Post : Value → Ghost → List Res → Prop} (v : Value) (own' : List Res) (hr : ∀ a w, Fr n L a → Inv E g own w → (results fn a.tmps).run P w = .ok v w) (hsub : own'.Sublist own) (hp : Post v g own') :
  Run E n L g own (bodyPost P fn (Ends E Post) .ret) := fun a w hF hI => ⟨hF.defers, v, hr a w hF hI, v, g, own', rfl, hp, hI.drop hsub⟩
theorem r_fin_n {fn : Func} {Post : Value → Ghost → List Res → Prop} (h : Run E n L g own (bodyPost P fn (Ends E Post) .ret)) : Run E n L g own (bodyPost P fn (Ends E Post) .normal) := h

theorem r_ret0 {fn : Func} {Post : Value → Ghost → List Res → Prop} (own' : List Res) (hf : fn.results = #[]) (hsub : own'.Sublist own) (hp : Post (.tuple #[]) g own') :
  Run E n L g own (bodyPost P fn (Ends E Post) .ret) := r_fin _ own' (fun a w _ _ => by simp [results, hf]) hsub hp
theorem r_ret1 {fn : Func} {Post : Value → Ghost → List Res → Prop} {t : Tmp} {v : Value} (own' : List Res) (hf : fn.results = #[.tmp t]) (hv : look L t = some v) (hsub : own'.Sublist own) (hp : Post v g own') :
  Run E n L g own (bodyPost P fn (Ends E Post) .ret) := r_fin _ own' (fun a w hF _ => by have := hF.at_ t v hv; simp [results, hf, this]) hsub hp

inductive Res1 (P : Program) (L : Slots) (g : Ghost) (own : List Res) : ResultVar → Value → Prop where
 | tmp {t : Tmp} {v : Value} (h : look L t = some v) : Res1 P L g own (.tmp t) v
 | agg {t : Tmp} {T : TypeId} {k : Nat} [hT : Agg P T k] {b off : Nat} {vs : List Value} (h : look L t = some (ptr b off)) (hr : Rd g own b off vs) (hl : vs.length = k) : Res1 P L g own (.cell t T) (.agg vs.toArray)
 | one {t : Tmp} {T : TypeId} [hT : One P T] {b off : Nat} {v : Value} (h : look L t = some (ptr b off)) (hr : Rd g own b off [v]) : Res1 P L g own (.cell t T) v

theorem Res1.spec {r : ResultVar} {v : Value} (h : Res1 P L g own r v) {a : Act} {w : World} (hF : Fr n L a) (hI : Inv E g own w) :
  (∃ t, r = .tmp t ∧ a.tmps[t]?.getD undef = v) ∨ (∃ t T ad, r = .cell t T ∧ a.tmps[t]?.getD undef = .pointer (some ad) ∧ (loadVar T ad).run P w = .ok v w) := by
 cases h with
 | tmp h => have := hF.at_ _ _ h; exact .inl ⟨_, rfl, by simp [this]⟩
 | @agg t T k hT b off vs h hr hl =>
  have h1 := hF.at_ _ _ h
  have h2 : (loadCells ⟨b, off, none⟩ k).run P w = .ok vs.toArray w := by
   rw [← hl]
   exact run_loadCells_list (P := P) w ⟨b, off, none⟩ vs (fun j v hv => by rw [add_none]; exact hr E w hI j v hv)
  exact .inr ⟨_, _, ⟨b, off, none⟩, rfl, by simp [h1], by simp [loadVar, isAgg_run, sizeOf_run hT.s, h2]⟩
 | @one t T hT b off v h hr =>
  have h1 := hF.at_ _ _ h
  have h2 : w.cell? ⟨b, off, none⟩ = some v := hr E w hI 0 v rfl
  exact .inr ⟨_, _, ⟨b, off, none⟩, rfl, by simp [h1], by simp [loadVar, isOne_run, h2]⟩

theorem r_retA {fn : Func} {Post : Value → Ghost → List Res → Prop} {r : ResultVar} {v : Value} (own' : List Res) (hf : fn.results = #[r]) (hv : Res1 P L g own r v) (hsub : own'.Sublist own) (hp : Post v g own') :
  Run E n L g own (bodyPost P fn (Ends E Post) .ret) := r_fin _ own' (fun a w hF hI => by
   rcases hv.spec hF hI with ⟨t, rfl, h1⟩ | ⟨t, T, ad, rfl, h1, k1⟩ <;> simp [results, asAddr, *]) hsub hp
theorem r_ret2 {fn : Func} {Post : Value → Ghost → List Res → Prop} {r s : ResultVar} {v u : Value} (own' : List Res) (hf : fn.results = #[r, s]) (hv : Res1 P L g own r v) (hu : Res1 P L g own s u) (hsub : own'.Sublist own) (hp : Post (.tuple #[v, u]) g own') :
  Run E n L g own (bodyPost P fn (Ends E Post) .ret) := r_fin _ own' (fun a w hF hI => by
   rcases hv.spec hF hI with ⟨t, rfl, h1⟩ | ⟨t, T, ad, rfl, h1, k1⟩ <;> rcases hu.spec hF hI with ⟨t2, rfl, h2⟩ | ⟨t2, T2, ad2, rfl, h2, k2⟩ <;> simp [results, asAddr, *]) hsub hp
theorem r_ret3 {fn : Func} {Post : Value → Ghost → List Res → Prop} {r s t : ResultVar} {v u x : Value} (own' : List Res) (hf : fn.results = #[r, s, t]) (hv : Res1 P L g own r v) (hu : Res1 P L g own s u) (hx : Res1 P L g own t x) (hsub : own'.Sublist own)
  (hp : Post (.tuple #[v, u, x]) g own') : Run E n L g own (bodyPost P fn (Ends E Post) .ret) := r_fin _ own' (fun a w hF hI => by
   rcases hv.spec hF hI with ⟨t, rfl, h1⟩ | ⟨t, T, ad, rfl, h1, k1⟩ <;> rcases hu.spec hF hI with ⟨t2, rfl, h2⟩ | ⟨t2, T2, ad2, rfl, h2, k2⟩ <;> rcases hx.spec hF hI with ⟨t3, rfl, h3⟩ | ⟨t3, T3, ad3, rfl, h3, k3⟩ <;> simp [results, asAddr, *]) hsub hp
end
end Go.Eng
-- sum 6cffcb78b6cce379


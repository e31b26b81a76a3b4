/- The walking engine, third part: splits, composite literals, conversions, nil checks. -/
import Derived.Test.YtlnjfkfojkgiiaaGreatDoorK2
import Derived.Test.YtlnjfkfojkgiiaaGreatDoorProg
namespace Go.aZ
open Go Go.RowKit

def ue (place : Nat → Option (Nat × Nat)) (cs : List Value) : List (Nat × Value) → Option (List Value)
 | [] => some cs
 | (i, v) :: rest => match place i with
  | none => none
  | some (off, size) => match cellsOf v with
   | none => none
   | some vs => bif Nat.beq vs.length size then (bif Nat.ble (off + size) cs.length then match il cs off vs with
    | none => none
    | some cs' => ue place cs' rest
    else none) else none

theorem aA8 (vs : List Value) : ∀ (off k : Nat) (cs : List Value), off + k + vs.length ≤ cs.length →
  (vs.zipIdx k).foldl (fun (a : Array Value) (p : Value × Nat) => a.setIfInBounds (off + p.2) p.1) cs.toArray = (cs.take (off + k) ++ vs ++ cs.drop (off + k + vs.length)).toArray := by
 induction vs with
 | nil => intro off k cs _; simp
 | cons v vs ih =>
  intro off k cs h
  simp only [List.zipIdx_cons, List.foldl_cons, List.length_cons] at h ⊢
  have hlt : off + k < cs.length := by omega
  have e1 : cs.toArray.setIfInBounds (off + k) v = (cs.set (off + k) v).toArray := by simp
  rw [e1, ih off (k + 1) (cs.set (off + k) v) nM]
  congr 1
  have e2 : (cs.set (off + k) v).take (off + (k + 1)) = cs.take (off + k) ++ [v] := by
   rw [show off + (k + 1) = (off + k) + 1 by omega, List.take_set, List.take_succ_eq_append_getElem hlt, List.set_append]
   have hl : (cs.take (off + k)).length = off + k := by simp; omega
   simp [hl]
  have e3 : (cs.set (off + k) v).drop (off + (k + 1) + vs.length) = cs.drop (off + k + (vs.length + 1)) := by
   rw [List.drop_set]
   have : ¬ (off + (k + 1) + vs.length ≤ off + k) := by omega
   rw [show off + (k + 1) + vs.length = off + k + (vs.length + 1) by omega]
   have h4 : off + k < off + k + (vs.length + 1) := by omega
   simp [h4]
  rw [e2, e3]
  simp

theorem Iy (place : Nat → Option (Nat × Nat)) : ∀ (parts : List (Nat × Value)) (cs r : List Value), ue place cs parts = some r → Instr.fill place cs.toArray parts = some r.toArray
 | [], cs, r, h => by simp only [ue, Option.some.injEq] at h; subst h; rfl
 | (i, v) :: rest, cs, r, h => by
  simp only [ue] at h
  cases hp : place i with
  | none => simp [hp] at h
  | some q =>
   obtain ⟨off, size⟩ := q
   simp only [hp] at h
   cases hc : cellsOf v with
   | none => simp [hc] at h
   | some vs =>
    simp only [hc] at h
    cases hb : Nat.beq vs.length size with
    | false => simp [hb] at h
    | true =>
     cases eL : Nat.ble (off + size) cs.length with
     | false => simp [hb, eL] at h
     | true =>
      simp only [hb, eL, cond_true] at h
      have bN : vs.length = size := Nat.eq_of_beq_eq_true hb
      have hle : off + size ≤ cs.length := Nat.le_of_ble_eq_true eL
      cases hs : il cs off vs with
      | none => simp [hs] at h
      | some cs' =>
       simp only [hs] at h
       obtain ⟨h1, -⟩ := A9 hs
       have tt := Gl hc
       have ih := Iy place rest cs' r h
       have hf := aA8 vs off 0 cs oM
       simp only [Nat.add_zero] at hf
       have DX : ¬ (off + size > cs.length) := by omega
       simp only [Instr.fill, hp, tt, List.size_toArray, bN, ne_eq, not_true_eq_false, DX, decide_false, Bool.or_self, Bool.false_eq_true, if_false]
       have hz : vs.toArray.zipIdx = vs.zipIdx.toArray := by simp
       rw [hz, ← Array.foldl_toList]
       simp only []
       rw [hf, ← h1]
       exact ih

section
variable {P : Program} {E : Env} {n : Nat} {L : dz} {g : ab} {own : List aA} {Q : Exit → Act → World → Prop} {ops : Array Oper} {rest : List Oper}
variable {d : Nat} {ty : TypeId} {pos : String} {after : Array Edge}

/-! Reading one cell; an element of a list of equal parts. -/
theorem Ft {b : Nat} {T : TypeId} {size m cap : Nat} {xs : List Value} {v : Value} {off : Nat} (i : Nat) (h : own[i]? = some (.row T size (.slice (some ⟨b, 0, none⟩) m cap) m xs)) (hx : xs[off]? = some v) : Rd g own b off [v] :=
 A_ i h fun j x hj => by
  match j, hj with
  | 0, hj => simp at hj; subst hj; simpa using hx
theorem Iz {α : Type} (f : α → List Value) (sz : Nat) (hf : ∀ x, (f x).length = sz) : ∀ (l : List α) (k j : Nat), j < sz → (l.flatMap f)[k * sz + j]? = (l[k]?).bind fun x => (f x)[j]?
 | [], k, j, _ => by simp
 | x :: l, 0, j, hj => by
  rw [List.flatMap_cons, List.getElem?_append_left (by rw [hf]; omega)]
  simp
 | x :: l, k + 1, j, hj => by
  have h1 : (f x).length ≤ (k + 1) * sz + j := by rw [hf, Nat.add_mul]; omega
  rw [List.flatMap_cons, List.getElem?_append_right h1, hf, show (k + 1) * sz + j - sz = k * sz + j by rw [Nat.add_mul]; omega, Iz f sz hf l k j hj]
  simp
theorem HA {b : Nat} {T : TypeId} {cs : List Value} {v : Value} {off : Nat} (i : Nat) (h : own[i]? = some (.ae b T cs)) (hx : cs[off]? = some v) : Rd g own b off [v] := by
 intro E w hI j x hj
 have hs : w.heap[b]? = some (.cells cs.toArray T (0, 0)) := mq hI h
 match j, hj with
 | 0, hj => simp at hj; subst hj; simp only [World.cell?, hs]; simpa using hx
theorem bP {x : Operand} {T T0 : TypeId} {sz : Nat} [hT : iG P T sz] {b off : Nat} {cs vs : List Value} (i : Nat) (hx : ev L x = some (ptr b off)) (h : own[i]? = some (.ae b T0 cs)) (ht : takeN (cs.drop off) sz = some vs) :
  cH P E n L g own ty (.load T x) (.agg vs.toArray) := dL hx (M7 i h ht) (by obtain ⟨h1, h2⟩ := A8 ht; rw [h1, List.length_take]; omega)
theorem a7 {x : Operand} {T T0 : TypeId} [hT : One P T] {b off : Nat} {cs : List Value} {v : Value} (i : Nat) (hx : ev L x = some (ptr b off)) (h : own[i]? = some (.ae b T0 cs)) (ht : cs[off]? = some v) :
  cH P E n L g own ty (.load T x) v := cU hx (HA i h ht)
theorem oI {x : Operand} {T T0 : TypeId} {sz : Nat} [hT : iG P T sz] {b off : Nat} {cs vs : List Value} (i : Nat) (hd : Nat.blt d n = true) (hx : ev L x = some (ptr b off)) (h : own[i]? = some (.ae b T0 cs)) (ht : takeN (cs.drop off) sz = some vs)
  (k : ah E n ((d, .agg vs.toArray) :: L) g own (wpList P ops Q rest)) : ah E n L g own (wpList P ops Q (⟨some d, .load T x, ty, pos, after, none⟩ :: rest)) := cX hd (bP i hx h ht) k
theorem pE {x : Operand} {T T0 : TypeId} [hT : One P T] {b off : Nat} {cs : List Value} {v : Value} (i : Nat) (hd : Nat.blt d n = true) (hx : ev L x = some (ptr b off)) (h : own[i]? = some (.ae b T0 cs)) (ht : cs[off]? = some v)
  (k : ah E n ((d, v) :: L) g own (wpList P ops Q rest)) : ah E n L g own (wpList P ops Q (⟨some d, .load T x, ty, pos, after, none⟩ :: rest)) := cX hd (a7 i hx h ht) k

theorem ay {t : Tmp} {T T0 : TypeId} {k b off : Nat} [hT : iG P T k] {cs vs : List Value} (i : Nat) (h : look L t = some (ptr b off)) (ho : own[i]? = some (.ae b T0 cs)) (ht : takeN (cs.drop off) k = some vs) :
  nD P L g own (.cell t T) (.agg vs.toArray) := .agg h (M7 i ho ht) (by obtain ⟨h1, h2⟩ := A8 ht; rw [h1, List.length_take]; omega)

/-! Splits. -/
theorem Qn {X : Act → World → Prop} (t : Nat) {b : Bool} (hc : look L t = some (.bool b)) (ht : b = true → ah E n ((t, .bool true) :: L) g own X) (hf : b = false → ah E n ((t, .bool false) :: L) g own X) : ah E n L g own X := by
 cases b
 ·exact ED t hc rfl (hf rfl)
 ·exact ED t hc rfl (ht rfl)
theorem fS {c : Operand} {x y : Code} {b : Bool} (hc : ev L c = some (.bool b)) (ht : b = true → ah E n L g own (x.wp P Q)) (hf : b = false → ah E n L g own (y.wp P Q)) :
  ah E n L g own ((Code.cond c x y).wp P Q) := by
 cases b
 ·exact EC hc (hf rfl)
 ·exact EB hc (ht rfl)
def DY (ops : Array Oper) (j : Nat) : Option Nat := match ops[j]? with
 | some o => o.dst
 | none => none
theorem bw {dst : Option Tmp} {op : Op} {j t : Nat} {b : Bool} {p : Prop} [Decidable p] (_hs : DY ops j = some t) (hc : look L t = some (.bool (decide p)))
  (ht : p → ah E n ((t, .bool true) :: L) g own (wpList P ops Q (⟨dst, op, ty, pos, after, some (j, b)⟩ :: rest))) (hf : ¬ p → ah E n ((t, .bool false) :: L) g own (wpList P ops Q (⟨dst, op, ty, pos, after, some (j, b)⟩ :: rest))) :
  ah E n L g own (wpList P ops Q (⟨dst, op, ty, pos, after, some (j, b)⟩ :: rest)) := iJ t hc ht hf
theorem j_ {dst : Option Tmp} {op : Op} {j t : Nat} {b c : Bool} (_hs : DY ops j = some t) (hc : look L t = some (.bool c))
  (ht : c = true → ah E n ((t, .bool true) :: L) g own (wpList P ops Q (⟨dst, op, ty, pos, after, some (j, b)⟩ :: rest))) (hf : c = false → ah E n ((t, .bool false) :: L) g own (wpList P ops Q (⟨dst, op, ty, pos, after, some (j, b)⟩ :: rest))) :
  ah E n L g own (wpList P ops Q (⟨dst, op, ty, pos, after, some (j, b)⟩ :: rest)) := Qn t hc ht hf
/-! One evaluator for what needs no fact of the program. -/
def vP (L : dz) : Op → Option Value
 | .move x => ev L x
 | .assign x => ev L x
 | .pick c x y => match ev L c with
  | some (.bool true) => ev L x
  | some (.bool false) => ev L y
  | _ => none
 | .extract x i => match ev L x with
  | some (.tuple vs) => vs[i]?
  | _ => none
 | .nilCheck x => match ev L x with
  | some (.pointer (some a)) => some (.pointer (some a))
  | _ => none
 | .unOp .not _ x => match ev L x with
  | some (.bool b) => some (.bool (!b))
  | _ => none
 | .binOp .lss _ x y _ => match ev L x, ev L y with
  | some (.int .i64 p), some (.int .i64 q) => some (.bool (decide (p < q)))
  | some (.int .u8 p), some (.int .u8 q) => some (.bool (decide (p < q)))
  | _, _ => none
 | .binOp .leq _ x y _ => match ev L x, ev L y with
  | some (.int .i64 p), some (.int .i64 q) => some (.bool (decide (p ≤ q)))
  | some (.int .u8 p), some (.int .u8 q) => some (.bool (decide (p ≤ q)))
  | _, _ => none
 | .binOp .gtr _ x y _ => match ev L x, ev L y with
  | some (.int .i64 p), some (.int .i64 q) => some (.bool (decide (q < p)))
  | some (.int .u8 p), some (.int .u8 q) => some (.bool (decide (q < p)))
  | _, _ => none
 | .binOp .geq _ x y _ => match ev L x, ev L y with
  | some (.int .i64 p), some (.int .i64 q) => some (.bool (decide (q ≤ p)))
  | some (.int .u8 p), some (.int .u8 q) => some (.bool (decide (q ≤ p)))
  | _, _ => none
 | .binOp .eql _ x y _ => match ev L x, ev L y with
  | some (.int .i64 p), some (.int .i64 q) => some (.bool (decide (p = q)))
  | some (.int .u8 p), some (.int .u8 q) => some (.bool (decide (p = q)))
  | some (.string ⟨⟨p⟩⟩), some (.string ⟨⟨q⟩⟩) => some (.bool (decide (p = q)))
  | _, _ => none
 | .binOp .neq _ x y _ => match ev L x, ev L y with
  | some (.int .i64 p), some (.int .i64 q) => some (.bool (decide (p ≠ q)))
  | some (.int .u8 p), some (.int .u8 q) => some (.bool (decide (p ≠ q)))
  | some (.string ⟨⟨p⟩⟩), some (.string ⟨⟨q⟩⟩) => some (.bool (decide (p ≠ q)))
  | _, _ => none
 | _ => none

theorem ag {op : Op} {v : Value} (hv : vP L op = some v) : cH P E n L g own ty op v := by
 cases op <;> simp only [vP] at hv
 case move x => exact WH hv
 case assign x => exact WI hv
 case pick c x y =>
  split at hv
  ·rename_i h; exact WJ h hv
  ·rename_i h; exact WK h hv
  ·cases hv
 case extract x i =>
  split at hv
  ·rename_i h; exact WL h hv
  ·cases hv
 case nilCheck x =>
  split at hv
  ·rename_i ad h
   simp only [Option.some.injEq] at hv; subst hv
   exact fun a w dst pos after hF _ => by simp [execOp, hF.eval h]
  ·cases hv
 case unOp o T x =>
  cases o <;> simp only at hv <;> try (cases hv; done)
  split at hv
  ·rename_i h; simp only [Option.some.injEq] at hv; subst hv; exact WY h
  ·cases hv
 case binOp o T x y T' =>
  cases o <;> simp only at hv <;> try (cases hv; done)
  case lss => split at hv <;> first | (cases hv; done) | (rename_i h1 h2; simp only [Option.some.injEq] at hv; subst hv; exact WS h1 h2)
  case leq => split at hv <;> first | (cases hv; done) | (rename_i h1 h2; simp only [Option.some.injEq] at hv; subst hv; exact WT h1 h2)
  case gtr => split at hv <;> first | (cases hv; done) | (rename_i h1 h2; simp only [Option.some.injEq] at hv; subst hv; exact WU h1 h2)
  case geq => split at hv <;> first | (cases hv; done) | (rename_i h1 h2; simp only [Option.some.injEq] at hv; subst hv; exact WV h1 h2)
  case eql => split at hv <;> first | (cases hv; done) | (rename_i h1 h2; simp only [Option.some.injEq] at hv; subst hv; first | exact WW h1 h2 | exact W3 h1 h2)
  case neq => split at hv <;> first | (cases hv; done) | (rename_i h1 h2; simp only [Option.some.injEq] at hv; subst hv; first | exact WX h1 h2 | exact W4 h1 h2)
 all_goals cases hv
theorem IA {op : Op} {v : Value} (hd : Nat.blt d n = true) (hv : vP L op = some v) (k : ah E n ((d, v) :: L) g own (wpList P ops Q rest)) :
  ah E n L g own (wpList P ops Q (⟨some d, op, ty, pos, after, none⟩ :: rest)) := cX hd (ag hv) k
theorem IB {op : Op} {v : Value} {K : Act → Prop} (hd : Nat.blt d n = true) (hv : vP L op = some v) (k : ah E n ((d, v) :: L) g own (Wq P ops (Inv E g own) K rest)) :
  ah E n L g own (Wq P ops (Inv E g own) K (⟨some d, op, ty, pos, after, none⟩ :: rest)) := bR hd (ag hv) k
theorem Qo {op : Op} {v : Value} {j : Nat} {b : Bool} {K : Act → Prop} (hg : gd L ops j = some b) (hd : Nat.blt d n = true) (hv : vP L op = some v) (k : ah E n ((d, v) :: L) g own (Wq P ops (Inv E g own) K rest)) :
  ah E n L g own (Wq P ops (Inv E g own) K (⟨some d, op, ty, pos, after, some (j, b)⟩ :: rest)) := Gn hg (IB hd hv k)
theorem lC {dst : Option Tmp} {op : Op} {j t : Nat} {b : Bool} {p : Prop} [Decidable p] {K : Act → Prop} {C : World → Prop} (_hs : DY ops j = some t) (hc : look L t = some (.bool (decide p)))
  (ht : p → ah E n ((t, .bool true) :: L) g own (Wq P ops C K (⟨dst, op, ty, pos, after, some (j, b)⟩ :: rest))) (hf : ¬ p → ah E n ((t, .bool false) :: L) g own (Wq P ops C K (⟨dst, op, ty, pos, after, some (j, b)⟩ :: rest))) :
  ah E n L g own (Wq P ops C K (⟨dst, op, ty, pos, after, some (j, b)⟩ :: rest)) := iJ t hc ht hf
theorem aFF {dst : Option Tmp} {op : Op} {j t : Nat} {b c : Bool} {K : Act → Prop} {C : World → Prop} (_hs : DY ops j = some t) (hc : look L t = some (.bool c))
  (ht : c = true → ah E n ((t, .bool true) :: L) g own (Wq P ops C K (⟨dst, op, ty, pos, after, some (j, b)⟩ :: rest))) (hf : c = false → ah E n ((t, .bool false) :: L) g own (Wq P ops C K (⟨dst, op, ty, pos, after, some (j, b)⟩ :: rest))) :
  ah E n L g own (Wq P ops C K (⟨dst, op, ty, pos, after, some (j, b)⟩ :: rest)) := Qn t hc ht hf
theorem Qp {op : Op} {v : Value} {j : Nat} {b : Bool} (hg : gd L ops j = some b) (hd : Nat.blt d n = true) (hv : vP L op = some v) (k : ah E n ((d, v) :: L) g own (wpList P ops Q rest)) :
  ah E n L g own (wpList P ops Q (⟨some d, op, ty, pos, after, some (j, b)⟩ :: rest)) := Gm hg (IA hd hv k)
theorem aS {id : Nat} {l : List Oper} {y : Code} (h : ah E n L g own (wpList P l.toArray (Exit.then (y.wp P Q) Q) l)) : ah E n L g own ((Code.seq (.region id l.toArray false) y).wp P Q) := kM (Ev h)
theorem iV {next : Act → World → Prop} (h : ah E n L g own next) : ah E n L g own (wpList P ops (Exit.then next Q) []) := Ew (Ez h)
/-! Cuts: the ways through the first part meet again. -/
theorem zu (L' : dz) (φ : Prop) {x y : Code} (h2 : φ → ah E n L' g own (y.wp P Q)) (h1 : ∀ K : Act → World → Prop, (∀ yG, φ → Sub L' yG → ah E n yG g own K) → ah E n L g own (x.wp P (Exit.then K Q))) :
  ah E n L g own ((Code.seq x y).wp P Q) := kM (h1 _ fun _ hφ hs => Js L' hs (h2 hφ))

/-! A guard that yielded nothing. -/
def gu (L : dz) (ops : Array Oper) (j : Nat) : Bool := match ops[j]? with
 | some o => match o.dst with
  | some t => match look L t with
   | some (.tuple _) => true
   | _ => false
  | none => false
 | none => false
theorem Qq {a : Act} (hF : Fr n L a) {j : Nat} (h : gu L ops j = true) : yielded ops a.tmps j = none := by
 unfold gu at h
 split at h
 ·rename_i o ho
  split at h
  ·rename_i t ht
   split at h
   ·rename_i b' hb
    have := hF.at_ t _ hb
    simp [yielded, ho, ht, this]
   ·cases h
  ·cases h
 ·cases h
theorem Qr {op : Op} {j : Nat} {b : Bool} (hg : gu L ops j = true) (hd : Nat.blt d n = true)
  (h : ah E n ((d, undef) :: L) g own (wpList P ops Q rest)) : ah E n L g own (wpList P ops Q (⟨some d, op, ty, pos, after, some (j, b)⟩ :: rest)) := by
 intro a w hF hI
 have hy := Qq (ops := ops) hF hg
 unfold wpList
 have : ((none : Option Bool) == some b) = false := by rfl
 simp only [Region.wanted, hy, this, Bool.false_eq_true, if_false]
 exact h _ w (hF.put hd undef) hI
theorem Qs {op : Op} {j : Nat} {b : Bool} {K : Act → Prop} {C : World → Prop} (hg : gu L ops j = true) (hd : Nat.blt d n = true)
  (h : ah E n ((d, undef) :: L) g own (Wq P ops C K rest)) : ah E n L g own (Wq P ops C K (⟨some d, op, ty, pos, after, some (j, b)⟩ :: rest)) := fun a w hF hI => by
 have hy := Qq (ops := ops) hF hg
 unfold Wq wpQuiet
 have : ((none : Option Bool) == some b) = false := by rfl
 simp only [Region.wanted, hy, this, Bool.false_eq_true, if_false]
 exact h _ w (hF.put hd undef) hI

/-! The shapes of a goal: each is no step, and only tells which rules to try. -/
theorem aA9 {op : Op} (h : ah E n L g own (wpList P ops Q (⟨some d, op, ty, pos, after, none⟩ :: rest))) : ah E n L g own (wpList P ops Q (⟨some d, op, ty, pos, after, none⟩ :: rest)) := h
theorem aBA {op : Op} (h : ah E n L g own (wpList P ops Q (⟨none, op, ty, pos, after, none⟩ :: rest))) : ah E n L g own (wpList P ops Q (⟨none, op, ty, pos, after, none⟩ :: rest)) := h
theorem aBB {dst : Option Tmp} {op : Op} {x : Nat × Bool} (h : ah E n L g own (wpList P ops Q (⟨dst, op, ty, pos, after, some x⟩ :: rest))) : ah E n L g own (wpList P ops Q (⟨dst, op, ty, pos, after, some x⟩ :: rest)) := h
theorem aBC (h : ah E n L g own (wpList P ops Q [])) : ah E n L g own (wpList P ops Q []) := h
theorem aBD {c : Code} (h : ah E n L g own (c.wp P Q)) : ah E n L g own (c.wp P Q) := h
theorem aBE {next : Act → World → Prop} {e : Exit} (h : ah E n L g own (Exit.then next Q e)) : ah E n L g own (Exit.then next Q e) := h
theorem aBF {id : Nat} {e : Exit} (h : ah E n L g own (Exit.inBlock id Q e)) : ah E n L g own (Exit.inBlock id Q e) := h
theorem aBG {op : Op} {C : World → Prop} {K : Act → Prop} (h : ah E n L g own (Wq P ops C K (⟨some d, op, ty, pos, after, none⟩ :: rest))) : ah E n L g own (Wq P ops C K (⟨some d, op, ty, pos, after, none⟩ :: rest)) := h
theorem aBH {dst : Option Tmp} {op : Op} {x : Nat × Bool} {C : World → Prop} {K : Act → Prop} (h : ah E n L g own (Wq P ops C K (⟨dst, op, ty, pos, after, some x⟩ :: rest))) : ah E n L g own (Wq P ops C K (⟨dst, op, ty, pos, after, some x⟩ :: rest)) := h
theorem aBI {C : World → Prop} {K : Act → Prop} (h : ah E n L g own (Wq P ops C K [])) : ah E n L g own (Wq P ops C K []) := h

/-! Composite literals. -/
def rF (L : dz) : List (Nat × Operand) → Option (List (Nat × Value))
 | [] => some []
 | (i, x) :: r => match ev L x with
  | none => none
  | some v => match rF L r with
   | none => none
   | some vs => some ((i, v) :: vs)
theorem Fr.IC {a : Act} (h : Fr n L a) : ∀ {xs : List (Nat × Operand)} {vs : List (Nat × Value)}, rF L xs = some vs → xs.map (fun p => (p.1, a.eval p.2)) = vs
 | [], vs, hx => by simp [rF] at hx; simp [hx]
 | (i, x) :: r, vs, hx => by
  simp only [rF] at hx
  cases h1 : ev L x with
  | none => simp [h1] at hx
  | some v =>
   cases h2 : rF L r with
   | none => simp [h1, h2] at hx
   | some us =>
    simp [h1, h2] at hx
    subst hx
    simp [h.eval h1, h.IC h2]

def Qt (P : Program) (T : TypeId) : Option (List (Nat × Nat)) := match P.underlying T with
 | some (.struct fs) => fs.toList.mapM fun f => (P.info? f.type).map fun i => (f.offset, i.size)
 | _ => none
class gR (P : Program) (T : TypeId) (places : outParam (List (Nat × Nat))) : Prop where
 h : Qt P T = some places
theorem Qu (w : World) : ∀ (fs : List Field) (ps : List (Nat × Nat)), (fs.mapM fun f => (P.info? f.type).map fun i => (f.offset, i.size)) = some ps →
  (fs.mapM (m := Sem) fun f => do pure (f.offset, ← sizeOf f.type)).run P w = .ok ps w
 | [], ps, h => by simp at h; subst h; simp
 | f :: fs, ps, h => by
  rw [List.mapM_cons] at h
  cases hi : P.info? f.type with
  | none => simp [hi] at h
  | some i =>
   cases hr : fs.mapM (fun f => (P.info? f.type).map fun i => (f.offset, i.size)) with
   | none => simp [hi, hr] at h
   | some qs =>
    simp [hi, hr] at h
    subst h
    rw [List.mapM_cons]
    have ih := Qu w fs qs hr
    have hf : (do pure (f.offset, ← sizeOf f.type) : Sem (Nat × Nat)).run P w = .ok (f.offset, i.size) w := by simp [sizeOf, typeInfo, hi]
    rw [Sem.run_bind, hf]
    simp only [Result.andThen_ok, Sem.run_bind, ih, Sem.run_pure]
theorem Qv {T : TypeId} {zs : List Value} (hZ : Zero P T zs) (w : World) : ∃ z, (zeroValue T).run P w = .ok z w ∧ z.cells = zs.toArray := by
 have hz := hZ.z
 cases hi : P.info? T with
 | none => simp [hi] at hz
 | some i =>
  cases iS : i.zero with
  | none => simp [hi, iS] at hz
  | some z =>
   simp only [hi, Option.bind_some, iS, Option.map_some, Option.some.injEq] at hz
   exact ⟨z, by simp [zeroValue, typeInfo, hi, iS], by rw [← hz]⟩
theorem et {T : TypeId} {places : List (Nat × Nat)} [hB : gR P T places] {zs : List Value} [hZ : Zero P T zs] {parts : Array (Nat × Operand)} {vs : List (Nat × Value)} {r : List Value}
  (hx : rF L parts.toList = some vs) (hr : ue (fun i => places[i]?) zs vs = some r) : cH P E n L g own ty (.build T parts) (.agg r.toArray) :=
 fun a w dst pos after hF _ => by
  have hb := hB.h
  unfold Qt at hb
  split at hb
  ·rename_i fs nO
   have hp := Qu w fs.toList places hb
   have hp' : (fs.mapM (m := Sem) fun f => do pure (f.offset, ← sizeOf f.type)).run P w = .ok places.toArray w := by
    rw [Array.mapM_eq_mapM_toList]
    simp only [Sem.run_map, hp, Result.andThen_ok]
   obtain ⟨z, kX, om⟩ := Qv hZ w
   have DZ : (parts.map fun p => (p.1, a.eval p.2)).toList = vs := by simpa using hF.IC hx
   have D0 := Iy (fun i : Nat => places[i]?) vs zs r hr
   have lr : (fun x : Nat => places.toArray[x]?) = (fun i : Nat => places[i]?) := by funext i; simp
   simp only [execOp, Instr.build, Sem.run_bind, kX, Result.andThen_ok, run_underlying nO, hp', DZ, om, lr, D0, Sem.run_pure]
  ·cases hb
theorem Qw {T : TypeId} {places : List (Nat × Nat)} [hB : gR P T places] {zs : List Value} [hZ : Zero P T zs] {parts : Array (Nat × Operand)} {vs : List (Nat × Value)} {r : List Value} (hd : Nat.blt d n = true)
  (hx : rF L parts.toList = some vs) (hr : ue (fun i => places[i]?) zs vs = some r) (k : ah E n ((d, .agg r.toArray) :: L) g own (wpList P ops Q rest)) :
  ah E n L g own (wpList P ops Q (⟨some d, .build T parts, ty, pos, after, none⟩ :: rest)) := cX hd (et hx hr) k

def dO : Nat → List Value → List Value
 | 0, _ => []
 | k + 1, z => z ++ dO k z
theorem Qx (z : List Value) (sz : Nat) (hz : z.length = sz) (bN : 0 < sz) (k : Nat) : ((Array.range (k * sz)).map (fun i => z.toArray[i % z.toArray.size]!)) = (dO k z).toArray := by
 apply Array.ext'
 simp only [Array.toList_map, Array.toList_range, List.size_toArray, hz]
 induction k with
 | zero => simp [dO]
 | succ k ih =>
  rw [dO, Nat.add_mul, Nat.one_mul, Nat.add_comm, List.range_add, List.map_append, List.map_map]
  congr 1
  ·apply List.ext_getElem
   ·simp [hz]
   ·intro i h1 h2
    simp only [List.length_map, List.length_range] at h1
    simp [Nat.mod_eq_of_lt h1, hz, h1]
  ·rw [← ih]
   apply List.map_congr_left
   intro i _
   simp
theorem bu {T e : TypeId} {sz eh : Nat} [hT : fP P T e sz eh] {zs : List Value} [hZ : Zero P e zs] {len : Nat} {parts : Array (Nat × Operand)} {vs : List (Nat × Value)} {r : List Value} (hd : Nat.blt d n = true)
  (hx : rF L parts.toList = some vs) (qj : zs.length = sz) (bN : Nat.blt 0 sz = true) (hlen : Nat.ble (len * sz) 16777216 = true) (hr : ue (fun i => some (i * sz, sz)) (dO len zs) vs = some r) (xS : Nat.beq r.length (len * sz) = true)
  (k : ∀ b, ah E n ((d, .slice (some ⟨b, 0, none⟩) len len) :: L) g (.row e sz (.slice (some ⟨b, 0, none⟩) len len) len r :: own) (wpList P ops Q rest)) :
  ah E n L g own (wpList P ops Q (⟨some d, .buildSlice T len parts, ty, pos, after, none⟩ :: rest)) :=
 mg fun a w hF hI => by
  have aFG : len * sz ≤ 16777216 := Nat.le_of_ble_eq_true hlen
  have D1 : 0 < sz := Nat.blt_eq.mp bN
  have ID : r.length = len * sz := Nat.eq_of_beq_eq_true xS
  have h1 : (sizeOf e).run P w = .ok sz w := by
   refine tr ?_ w
   obtain ⟨i, hi, h2, _⟩ := vd hT
   simp [hi, h2]
  obtain ⟨z, kX, om⟩ := Qv hZ w
  have DZ : (parts.map fun p => (p.1, a.eval p.2)).toList = vs := by simpa using hF.IC hx
  have D0 := Iy (fun i => some (i * sz, sz)) vs (dO len zs) r hr
  have vG := Qx zs sz qj D1 len
  have aBJ : (execOp a.eval ⟨some d, .buildSlice T len parts, ty, pos, after, none⟩).run P w = .ok (.value (.slice (some ⟨w.heap.size, 0, none⟩) len len)) (w.alloc (.cells r.toArray e)) := by
   have DX : ¬ (len * sz > 2 ^ 24) := by omega
   by_cases h0 : len * sz = 0
   ·have pS : len = 0 := by
     rcases Nat.mul_eq_zero.1 h0 with h | h
     ·exact h
     ·omega
    have hz0 : ∀ f : Nat → Value, (Array.range (len * sz)).map f = (dO len zs).toArray := fun f => by simp [pS, dO]
    simp only [execOp, Instr.buildSlice, Sem.run_bind, run_underlying hT.u, Result.andThen_ok, h1, DX, if_false, if_pos h0, Sem.run_pure, hz0, DZ, D0, newRow, run_newObj]
    rfl
   ·simp only [execOp, Instr.buildSlice, Sem.run_bind, run_underlying hT.u, Result.andThen_ok, h1, DX, if_false, h0, kX, Sem.run_pure, om, vG, DZ, D0, newRow, run_newObj]
    rfl
  unfold Oper.wp
  rw [aBJ]
  refine k w.heap.size _ _ (hF.put hd _) ?_
  refine Inv.move (lent := []) (got := [.row e sz (.slice (some ⟨w.heap.size, 0, none⟩) len len) len r]) (kept := own) hI sM rfl rfl rfl (fun b hb _ => Below.heap_alloc w _ b hb) (ab.le_refl g)
   (yZ hI.1 (lent := []) sM (fun b hb _ => Below.heap_alloc w _ b hb)) (fun b o h => absurd rfl h) ?_ ?_ ?_ ?_
  ·intro q hq
   simp only [List.mem_singleton] at hq
   subst hq
   refine ⟨ID, .inr ⟨w.heap.size, len, r.toArray, rfl, Nat.zero_le _, heap_alloc_new w _, Nat.le_refl _, ?_, by simp [ID], by simp [← ID]⟩⟩
   have : len ≤ len * sz := Nat.le_mul_of_pos_right len D1
   unfold maxLen; omega
  ·simp [cI, aA.ew, Value.ownBlock]
  ·intro b hb o
   simp only [cI, aA.ew, Value.ownBlock, List.flatMap_cons, List.flatMap_nil, List.append_nil, Option.toList_some, List.mem_singleton] at hb
   subst hb
   exact Es hI.1.jF (Nat.le_refl _) o
  ·intro b hb
   simp only [cI, aA.ew, Value.ownBlock, List.flatMap_cons, List.flatMap_nil, List.append_nil, Option.toList_some, List.mem_singleton] at hb
   exact .inl oM

/-! Checks, conversions. -/
theorem aBK {x : Operand} {b o : Nat} (hx : ev L x = some (ptr b o)) (k : ah E n L g own (wpList P ops Q rest)) :
  ah E n L g own (wpList P ops Q (⟨none, .nilCheck x, ty, pos, after, none⟩ :: rest)) :=
 mg fun a w hF hI => by
  have h1 : (execOp a.eval ⟨none, .nilCheck x, ty, pos, after, none⟩).run P w = .ok (.value (ptr b o)) w := by simp [execOp, hF.eval hx]
  unfold Oper.wp
  rw [h1]
  exact k _ _ hF hI
theorem aBL {x : Operand} {S T : TypeId} {K0 K1 K : IntKind} [hS : uX P S K0] [hT : uX P T K1] {p : Int} (hx : ev L x = some (.int K p)) (hw : K1.wrap p = p)
  : cH P E n L g own ty (.convert S T x) (.int K1 p) := fun a w dst pos after hF _ => by simp [execOp, hF.eval hx, convert, run_underlying hS.u, run_underlying hT.u, Conv.intToInt, hw]
theorem Tx {x : Operand} {S T : TypeId} {K0 K1 K : IntKind} [hS : uX P S K0] [hT : uX P T K1] {p : Int} (hd : Nat.blt d n = true) (hx : ev L x = some (.int K p)) (hw : K1.wrap p = p)
  (k : ah E n ((d, .int K1 p) :: L) g own (wpList P ops Q rest)) :
  ah E n L g own (wpList P ops Q (⟨some d, .convert S T x, ty, pos, after, none⟩ :: rest)) := cX hd (aBL hx hw) k
theorem aBM {x : Operand} {S T : TypeId} [hS : og P S] [hT : og P T] {p : List UInt8} (hx : ev L x = some (str p))
  : cH P E n L g own ty (.convert S T x) (str p) := fun a w dst pos after hF _ => by simp [execOp, hF.eval hx, convert, run_underlying hS.u, run_underlying hT.u]
theorem aBN {x : Operand} {S T : TypeId} [hS : og P S] [hT : og P T] {p : List UInt8} (hd : Nat.blt d n = true) (hx : ev L x = some (str p))
  (k : ah E n ((d, str p) :: L) g own (wpList P ops Q rest)) :
  ah E n L g own (wpList P ops Q (⟨some d, .convert S T x, ty, pos, after, none⟩ :: rest)) := cX hd (aBM hx) k

/-! append, by what the source is. -/
theorem cV {x y : Operand} {T e e' : TypeId} {sz eh : Nat} [hT : fP P T e sz eh] {zs : List Value} [hZ : Zero P e zs] {v : Value} {m : Nat} {xs : List Value} {b m' c' : Nat} {news : List Value} (i j : Nat)
  (hd : Nat.blt d n = true) (hx : ev L x = some v) (hy : ev L y = some (.slice (some ⟨b, 0, none⟩) m' c')) (ho : own[i]? = some (.row e sz v m xs)) (hj : own[j]? = some (.row e' sz (.slice (some ⟨b, 0, none⟩) m' c') m' news))
  (qj : Nat.beq zs.length sz = true) (bN : Nat.blt 0 sz = true) (h1 : oh news = true) (dh : m + m' ≤ maxLen) (eL : (m + m') * eh ≤ 140737488355328)
  (k : ∀ v', (v' = .slice none 0 0 ↔ v = .slice none 0 0 ∧ m' = 0) → ah E n ((d, v') :: L) g (own.set i (.row e sz v' (m + m') (xs ++ news))) (wpList P ops Q rest)) :
  ah E n L g own (wpList P ops Q (⟨some d, .call ⟨.builtin .append, #[x, y], #[T, T]⟩, ty, pos, after, none⟩ :: rest)) := fun a w hF hI => by
 have hs : w.ownsRow 0 e' sz (.slice (some ⟨b, 0, none⟩) m' c') m' news := mq hI hj
 exact Nt i hd hx hy ho (Nat.eq_of_beq_eq_true qj) (Nat.blt_eq.mp bN) hs.1 (.inr ⟨_, _, rfl, A_ j hj (fun j x hx => by simpa using hx)⟩) (fun u hu => by
  have := uZ h1 u hu
  cases u <;> simp_all [fx, Value.oneCell']) dh eL k a w hF hI
end
end Go.aZ

/- The facts on types and functions of the translation, by program (mkty.py). -/
namespace Go.Proofs.YtlnjfkfojkgiiaaGreatDoor
open Go Go.aZ Go.Proofs
theorem mixed : u0 Tryz.prog = true := by kernel_rfl
instance : One Tryz.prog 3 := ⟨kR, kR⟩
instance : uX Tryz.prog 3 .i64 := ⟨kR⟩
instance : Zero Tryz.prog 3 [.int .i64 0] := ⟨kR⟩
instance : One Tryz.prog 4 := ⟨kR, kR⟩
instance : Zero Tryz.prog 4 [.bool false] := ⟨kR⟩
instance : One Tryz.prog 9 := ⟨kR, kR⟩
instance : og Tryz.prog 9 := ⟨kR⟩
instance : Zero Tryz.prog 9 [.string ⟨⟨[]⟩⟩] := ⟨kR⟩
instance : pr Tryz.prog 20 := ⟨kR⟩
instance : One Tryz.prog 22 := ⟨kR, kR⟩
instance : fP Tryz.prog 22 3 1 8 := ⟨kR, kR⟩
instance : One Tryz.prog 25 := ⟨kR, kR⟩
instance : fP Tryz.prog 25 60 4 72 := ⟨kR, kR⟩
instance : One Tryz.prog 26 := ⟨kR, kR⟩
instance : fP Tryz.prog 26 49 20 256 := ⟨kR, kR⟩
instance : iG Tryz.prog 28 2 := ⟨kR, kR⟩
instance : cw Tryz.prog 28 0 0 := ⟨kR⟩
instance : cw Tryz.prog 28 1 1 := ⟨kR⟩
instance : gR Tryz.prog 28 [(0, 1), (1, 1)] := ⟨kR⟩
instance : Zero Tryz.prog 28 [.slice none 0 0, .slice none 0 0] := ⟨kR⟩
instance : One Tryz.prog 31 := ⟨kR, kR⟩
instance : iG Tryz.prog 33 2 := ⟨kR, kR⟩
instance : cw Tryz.prog 33 0 0 := ⟨kR⟩
instance : cw Tryz.prog 33 1 1 := ⟨kR⟩
instance : gR Tryz.prog 33 [(0, 1), (1, 1)] := ⟨kR⟩
instance : Zero Tryz.prog 33 [.int .i64 0, .int .i64 0] := ⟨kR⟩
instance : One Tryz.prog 39 := ⟨kR, kR⟩
instance : fP Tryz.prog 39 41 5 64 := ⟨kR, kR⟩
instance : iG Tryz.prog 41 5 := ⟨kR, kR⟩
instance : cw Tryz.prog 41 0 0 := ⟨kR⟩
instance : cw Tryz.prog 41 1 1 := ⟨kR⟩
instance : cw Tryz.prog 41 2 2 := ⟨kR⟩
instance : cw Tryz.prog 41 3 3 := ⟨kR⟩
instance : cw Tryz.prog 41 4 4 := ⟨kR⟩
instance : gR Tryz.prog 41 [(0, 1), (1, 1), (2, 1), (3, 1), (4, 1)] := ⟨kR⟩
instance : Zero Tryz.prog 41 [.int .i64 0, .string ⟨⟨[]⟩⟩, .int .i64 0, .int .i64 0, .slice none 0 0] := ⟨kR⟩
instance : One Tryz.prog 44 := ⟨kR, kR⟩
instance : fP Tryz.prog 44 47 11 152 := ⟨kR, kR⟩
instance : One Tryz.prog 45 := ⟨kR, kR⟩
instance : fP Tryz.prog 45 111 14 200 := ⟨kR, kR⟩
instance : iG Tryz.prog 47 11 := ⟨kR, kR⟩
instance : cw Tryz.prog 47 0 0 := ⟨kR⟩
instance : cw Tryz.prog 47 1 1 := ⟨kR⟩
instance : cw Tryz.prog 47 2 2 := ⟨kR⟩
instance : cw Tryz.prog 47 3 3 := ⟨kR⟩
instance : cw Tryz.prog 47 4 4 := ⟨kR⟩
instance : cw Tryz.prog 47 5 5 := ⟨kR⟩
instance : cw Tryz.prog 47 6 6 := ⟨kR⟩
instance : gR Tryz.prog 47 [(0, 1), (1, 1), (2, 1), (3, 1), (4, 1), (5, 1), (6, 5)] := ⟨kR⟩
instance : Zero Tryz.prog 47 [.int .i64 0, .int .i64 0, .string ⟨⟨[]⟩⟩, .int .i64 0, .slice none 0 0, .slice none 0 0, .int .i64 0, .string ⟨⟨[]⟩⟩, .int .i64 0, .int .i64 0, .slice none 0 0] := ⟨kR⟩
instance : iG Tryz.prog 49 20 := ⟨kR, kR⟩
instance : cw Tryz.prog 49 0 0 := ⟨kR⟩
instance : cw Tryz.prog 49 1 1 := ⟨kR⟩
instance : cw Tryz.prog 49 2 2 := ⟨kR⟩
instance : cw Tryz.prog 49 3 3 := ⟨kR⟩
instance : cw Tryz.prog 49 4 4 := ⟨kR⟩
instance : cw Tryz.prog 49 5 9 := ⟨kR⟩
instance : gR Tryz.prog 49 [(0, 1), (1, 1), (2, 1), (3, 1), (4, 5), (9, 11)] := ⟨kR⟩
instance : Zero Tryz.prog 49 [.int .i64 0, .bool false, .string ⟨⟨[]⟩⟩, .bool false, .int .i64 0, .string ⟨⟨[]⟩⟩, .int .i64 0, .int .i64 0, .slice none 0 0, .int .i64 0, .int .i64 0, .string ⟨⟨[]⟩⟩, .int .i64 0, .slice none 0 0, .slice none 0 0, .int .i64 0, .string ⟨⟨[]⟩⟩, .int .i64 0, .int .i64 0, .slice none 0 0] := ⟨kR⟩
instance : One Tryz.prog 57 := ⟨kR, kR⟩
instance : fP Tryz.prog 57 9 1 16 := ⟨kR, kR⟩
instance : One Tryz.prog 58 := ⟨kR, kR⟩
instance : fP Tryz.prog 58 62 3 48 := ⟨kR, kR⟩
instance : iG Tryz.prog 60 4 := ⟨kR, kR⟩
instance : cw Tryz.prog 60 0 0 := ⟨kR⟩
instance : cw Tryz.prog 60 1 1 := ⟨kR⟩
instance : cw Tryz.prog 60 2 2 := ⟨kR⟩
instance : cw Tryz.prog 60 3 3 := ⟨kR⟩
instance : gR Tryz.prog 60 [(0, 1), (1, 1), (2, 1), (3, 1)] := ⟨kR⟩
instance : Zero Tryz.prog 60 [.int .i64 0, .string ⟨⟨[]⟩⟩, .slice none 0 0, .slice none 0 0] := ⟨kR⟩
instance : iG Tryz.prog 62 3 := ⟨kR, kR⟩
instance : cw Tryz.prog 62 0 0 := ⟨kR⟩
instance : cw Tryz.prog 62 1 1 := ⟨kR⟩
instance : cw Tryz.prog 62 2 2 := ⟨kR⟩
instance : gR Tryz.prog 62 [(0, 1), (1, 1), (2, 1)] := ⟨kR⟩
instance : Zero Tryz.prog 62 [.int .i64 0, .string ⟨⟨[]⟩⟩, .slice none 0 0] := ⟨kR⟩
instance : One Tryz.prog 69 := ⟨kR, kR⟩
instance : fP Tryz.prog 69 118 3 32 := ⟨kR, kR⟩
instance : One Tryz.prog 72 := ⟨kR, kR⟩
instance : Zero Tryz.prog 72 [.pointer none] := ⟨kR⟩
instance : cw Tryz.prog 74 0 0 := ⟨kR⟩
instance : cw Tryz.prog 74 1 1 := ⟨kR⟩
instance : cw Tryz.prog 74 2 2 := ⟨kR⟩
instance : gR Tryz.prog 74 [(0, 1), (1, 1), (2, 2)] := ⟨kR⟩
instance : Zero Tryz.prog 74 [.slice none 0 0, .int .i64 0, .int .i64 0, .int .i64 0] := ⟨kR⟩
instance : cw Tryz.prog 87 0 0 := ⟨kR⟩
instance : cw Tryz.prog 87 1 1 := ⟨kR⟩
instance : gR Tryz.prog 87 [(0, 1), (1, 1)] := ⟨kR⟩
instance : Zero Tryz.prog 87 [.slice none 0 0, .int .i64 0] := ⟨kR⟩
instance : fP Tryz.prog 89 138 7 88 := ⟨kR, kR⟩
instance : iG Tryz.prog 95 6 := ⟨kR, kR⟩
instance : cw Tryz.prog 95 0 0 := ⟨kR⟩
instance : cw Tryz.prog 95 1 1 := ⟨kR⟩
instance : gR Tryz.prog 95 [(0, 1), (1, 5)] := ⟨kR⟩
instance : Zero Tryz.prog 95 [.int .i64 0, .int .i64 0, .string ⟨⟨[]⟩⟩, .int .i64 0, .int .i64 0, .slice none 0 0] := ⟨kR⟩
instance : iG Tryz.prog 111 14 := ⟨kR, kR⟩
instance : cw Tryz.prog 111 0 0 := ⟨kR⟩
instance : cw Tryz.prog 111 1 1 := ⟨kR⟩
instance : cw Tryz.prog 111 2 2 := ⟨kR⟩
instance : cw Tryz.prog 111 3 3 := ⟨kR⟩
instance : gR Tryz.prog 111 [(0, 1), (1, 1), (2, 1), (3, 11)] := ⟨kR⟩
instance : Zero Tryz.prog 111 [.int .i64 0, .string ⟨⟨[]⟩⟩, .slice none 0 0, .int .i64 0, .int .i64 0, .string ⟨⟨[]⟩⟩, .int .i64 0, .slice none 0 0, .slice none 0 0, .int .i64 0, .string ⟨⟨[]⟩⟩, .int .i64 0, .int .i64 0, .slice none 0 0] := ⟨kR⟩
instance : iG Tryz.prog 118 3 := ⟨kR, kR⟩
instance : cw Tryz.prog 118 0 0 := ⟨kR⟩
instance : cw Tryz.prog 118 1 1 := ⟨kR⟩
instance : cw Tryz.prog 118 2 2 := ⟨kR⟩
instance : gR Tryz.prog 118 [(0, 1), (1, 1), (2, 1)] := ⟨kR⟩
instance : Zero Tryz.prog 118 [.int .i64 0, .string ⟨⟨[]⟩⟩, .int .i64 0] := ⟨kR⟩
instance : pr Tryz.prog 131 := ⟨kR⟩
instance : uX Tryz.prog 136 .u64 := ⟨kR⟩
instance : iG Tryz.prog 138 7 := ⟨kR, kR⟩
instance : cw Tryz.prog 138 0 0 := ⟨kR⟩
instance : cw Tryz.prog 138 1 1 := ⟨kR⟩
instance : gR Tryz.prog 138 [(0, 1), (1, 6)] := ⟨kR⟩
instance : Zero Tryz.prog 138 [.string ⟨⟨[]⟩⟩, .int .i64 0, .int .i64 0, .string ⟨⟨[]⟩⟩, .int .i64 0, .int .i64 0, .slice none 0 0] := ⟨kR⟩
instance : One Tryz.prog 155 := ⟨kR, kR⟩
instance : tn Tryz.prog 155 := ⟨kR⟩
instance : Zero Tryz.prog 155 [.int .i64 0] := ⟨kR⟩
instance : tn Tryz.prog 157 := ⟨kR⟩
instance : fP Tryz.prog 163 166 4 72 := ⟨kR, kR⟩
instance : iG Tryz.prog 166 4 := ⟨kR, kR⟩
instance : cw Tryz.prog 166 0 0 := ⟨kR⟩
instance : cw Tryz.prog 166 1 1 := ⟨kR⟩
instance : cw Tryz.prog 166 2 2 := ⟨kR⟩
instance : cw Tryz.prog 166 3 3 := ⟨kR⟩
instance : gR Tryz.prog 166 [(0, 1), (1, 1), (2, 1), (3, 1)] := ⟨kR⟩
instance : Zero Tryz.prog 166 [.string ⟨⟨[]⟩⟩, .bool false, .slice none 0 0, .slice none 0 0] := ⟨kR⟩
instance : cw Tryz.prog 179 0 0 := ⟨kR⟩
instance : cw Tryz.prog 179 1 1 := ⟨kR⟩
instance : cw Tryz.prog 179 2 2 := ⟨kR⟩
instance : gR Tryz.prog 179 [(0, 1), (1, 1), (2, 1)] := ⟨kR⟩
instance : Zero Tryz.prog 179 [.slice none 0 0, .int .i64 0, .int .i64 0] := ⟨kR⟩
instance : gR Tryz.prog 182 [] := ⟨kR⟩
instance : tn Tryz.prog 182 := ⟨kR⟩
instance : Zero Tryz.prog 182 [] := ⟨kR⟩
instance : iG Tryz.prog 189 3 := ⟨kR, kR⟩
instance : Zero Tryz.prog 189 [.pointer none, .pointer none, .int .u64 0] := ⟨kR⟩
instance : One Tryz.prog 192 := ⟨kR, kR⟩
instance : cw Tryz.prog 201 0 0 := ⟨kR⟩
instance : cw Tryz.prog 201 1 1 := ⟨kR⟩
instance : cw Tryz.prog 201 2 2 := ⟨kR⟩
instance : cw Tryz.prog 201 3 3 := ⟨kR⟩
instance : gR Tryz.prog 201 [(0, 1), (1, 1), (2, 1), (3, 1)] := ⟨kR⟩
instance : Zero Tryz.prog 201 [.slice none 0 0, .int .i64 0, .bool false, .int .i64 0] := ⟨kR⟩
instance : One Tryz.prog 207 := ⟨kR, kR⟩
instance : fP Tryz.prog 207 4 1 1 := ⟨kR, kR⟩
instance : One Tryz.prog 212 := ⟨kR, kR⟩
instance : fP Tryz.prog 212 273 8 88 := ⟨kR, kR⟩
instance : One Tryz.prog 213 := ⟨kR, kR⟩
instance : fP Tryz.prog 213 275 10 104 := ⟨kR, kR⟩
instance : iG Tryz.prog 215 2 := ⟨kR, kR⟩
instance : cw Tryz.prog 215 0 0 := ⟨kR⟩
instance : cw Tryz.prog 215 1 1 := ⟨kR⟩
instance : gR Tryz.prog 215 [(0, 1), (1, 1)] := ⟨kR⟩
instance : Zero Tryz.prog 215 [.slice none 0 0, .slice none 0 0] := ⟨kR⟩
instance : fP Tryz.prog 216 225 6 72 := ⟨kR, kR⟩
instance : cw Tryz.prog 225 0 0 := ⟨kR⟩
instance : cw Tryz.prog 225 1 1 := ⟨kR⟩
instance : gR Tryz.prog 225 [(0, 1), (1, 5)] := ⟨kR⟩
instance : Zero Tryz.prog 225 [.int .i64 0, .int .i64 0, .string ⟨⟨[]⟩⟩, .int .i64 0, .int .i64 0, .slice none 0 0] := ⟨kR⟩
instance : cw Tryz.prog 230 0 0 := ⟨kR⟩
instance : gR Tryz.prog 230 [(0, 1)] := ⟨kR⟩
instance : tn Tryz.prog 230 := ⟨kR⟩
instance : Zero Tryz.prog 230 [.int .i64 0] := ⟨kR⟩
instance : iG Tryz.prog 273 8 := ⟨kR, kR⟩
instance : cw Tryz.prog 273 0 0 := ⟨kR⟩
instance : cw Tryz.prog 273 1 1 := ⟨kR⟩
instance : cw Tryz.prog 273 2 6 := ⟨kR⟩
instance : cw Tryz.prog 273 3 7 := ⟨kR⟩
instance : gR Tryz.prog 273 [(0, 1), (1, 5), (6, 1), (7, 1)] := ⟨kR⟩
instance : Zero Tryz.prog 273 [.bool false, .int .i64 0, .string ⟨⟨[]⟩⟩, .int .i64 0, .int .i64 0, .slice none 0 0, .int .i64 0, .bool false] := ⟨kR⟩
instance : gR Tryz.prog 275 [(0, 1), (1, 8), (9, 1)] := ⟨kR⟩
instance : Zero Tryz.prog 275 [.int .i64 0, .bool false, .int .i64 0, .string ⟨⟨[]⟩⟩, .int .i64 0, .int .i64 0, .slice none 0 0, .int .i64 0, .bool false, .bool false] := ⟨kR⟩
instance : gR Tryz.prog 292 [(0, 1)] := ⟨kR⟩
instance : tn Tryz.prog 292 := ⟨kR⟩
instance : Zero Tryz.prog 292 [.string ⟨⟨[]⟩⟩] := ⟨kR⟩
instance : cw Tryz.prog 318 0 0 := ⟨kR⟩
instance : cw Tryz.prog 318 1 2 := ⟨kR⟩
instance : cw Tryz.prog 318 2 3 := ⟨kR⟩
instance : gR Tryz.prog 318 [(0, 2), (2, 1), (3, 1)] := ⟨kR⟩
instance : Zero Tryz.prog 318 [.slice none 0 0, .slice none 0 0, .slice none 0 0, .slice none 0 0] := ⟨kR⟩
instance : Body Tryz.prog 4 := ⟨kR⟩
instance : Body Tryz.prog 5 := ⟨kR⟩
instance : Body Tryz.prog 6 := ⟨kR⟩
instance : Body Tryz.prog 7 := ⟨kR⟩
instance : Body Tryz.prog 8 := ⟨kR⟩
instance : Body Tryz.prog 9 := ⟨kR⟩
instance : Body Tryz.prog 10 := ⟨kR⟩
instance : Body Tryz.prog 11 := ⟨kR⟩
instance : Body Tryz.prog 12 := ⟨kR⟩
instance : Body Tryz.prog 13 := ⟨kR⟩
instance : Body Tryz.prog 14 := ⟨kR⟩
instance : Body Tryz.prog 15 := ⟨kR⟩
instance : Body Tryz.prog 16 := ⟨kR⟩
instance : Body Tryz.prog 17 := ⟨kR⟩
instance : Body Tryz.prog 18 := ⟨kR⟩
instance : Body Tryz.prog 19 := ⟨kR⟩
instance : Body Tryz.prog 20 := ⟨kR⟩
instance : Body Tryz.prog 21 := ⟨kR⟩
instance : Body Tryz.prog 22 := ⟨kR⟩
instance : Body Tryz.prog 23 := ⟨kR⟩
instance : Body Tryz.prog 24 := ⟨kR⟩
instance : Body Tryz.prog 25 := ⟨kR⟩
instance : Body Tryz.prog 26 := ⟨kR⟩
instance : Body Tryz.prog 27 := ⟨kR⟩
instance : Body Tryz.prog 28 := ⟨kR⟩
instance : Body Tryz.prog 29 := ⟨kR⟩
instance : Body Tryz.prog 30 := ⟨kR⟩
instance : Body Tryz.prog 31 := ⟨kR⟩
instance : Body Tryz.prog 32 := ⟨kR⟩
instance : Body Tryz.prog 33 := ⟨kR⟩
instance : Body Tryz.prog 34 := ⟨kR⟩
instance : Body Tryz.prog 35 := ⟨kR⟩
instance : Body Tryz.prog 36 := ⟨kR⟩
instance : Body Tryz.prog 37 := ⟨kR⟩
instance : Body Tryz.prog 38 := ⟨kR⟩
instance : Body Tryz.prog 39 := ⟨kR⟩
instance : Body Tryz.prog 40 := ⟨kR⟩
instance : Body Tryz.prog 41 := ⟨kR⟩
instance : Body Tryz.prog 42 := ⟨kR⟩
instance : Body Tryz.prog 43 := ⟨kR⟩
instance : Body Tryz.prog 44 := ⟨kR⟩
instance : Body Tryz.prog 45 := ⟨kR⟩
instance : Body Tryz.prog 46 := ⟨kR⟩
instance : Body Tryz.prog 47 := ⟨kR⟩
instance : Body Tryz.prog 48 := ⟨kR⟩
instance : Body Tryz.prog 49 := ⟨kR⟩
instance : Body Tryz.prog 50 := ⟨kR⟩
instance : Body Tryz.prog 51 := ⟨kR⟩
instance : Body Tryz.prog 52 := ⟨kR⟩
instance : Body Tryz.prog 53 := ⟨kR⟩
instance : Body Tryz.prog 55 := ⟨kR⟩
instance : Body Tryz.prog 56 := ⟨kR⟩
instance : Body Tryz.prog 57 := ⟨kR⟩
instance : Body Tryz.prog 58 := ⟨kR⟩
instance : Body Tryz.prog 59 := ⟨kR⟩
instance : Body Tryz.prog 60 := ⟨kR⟩
instance : Body Tryz.prog 61 := ⟨kR⟩
instance : Body Tryz.prog 62 := ⟨kR⟩
instance : Body Tryz.prog 63 := ⟨kR⟩
instance : Body Tryz.prog 64 := ⟨kR⟩
instance : Body Tryz.prog 65 := ⟨kR⟩
instance : Body Tryz.prog 66 := ⟨kR⟩
instance : Body Tryz.prog 67 := ⟨kR⟩
instance : Body Tryz.prog 68 := ⟨kR⟩
instance : Body Tryz.prog 69 := ⟨kR⟩
instance : Body Tryz.prog 70 := ⟨kR⟩
instance : Body Tryz.prog 71 := ⟨kR⟩
instance : Body Tryz.prog 72 := ⟨kR⟩
instance : Body Tryz.prog 73 := ⟨kR⟩
instance : Body Tryz.prog 74 := ⟨kR⟩
instance : Body Tryz.prog 75 := ⟨kR⟩
instance : Body Tryz.prog 76 := ⟨kR⟩
instance : Body Tryz.prog 77 := ⟨kR⟩
instance : Body Tryz.prog 78 := ⟨kR⟩
instance : Body Tryz.prog 79 := ⟨kR⟩
instance : Body Tryz.prog 80 := ⟨kR⟩
instance : Body Tryz.prog 81 := ⟨kR⟩
instance : Body Tryz.prog 82 := ⟨kR⟩
instance : Body Tryz.prog 83 := ⟨kR⟩
instance : Body Tryz.prog 84 := ⟨kR⟩
instance : Body Tryz.prog 85 := ⟨kR⟩
instance : Body Tryz.prog 86 := ⟨kR⟩
instance : Body Tryz.prog 87 := ⟨kR⟩
instance : Body Tryz.prog 88 := ⟨kR⟩
instance : Body Tryz.prog 89 := ⟨kR⟩
instance : Body Tryz.prog 90 := ⟨kR⟩
instance : Body Tryz.prog 91 := ⟨kR⟩
instance : Body Tryz.prog 92 := ⟨kR⟩
instance : Body Tryz.prog 93 := ⟨kR⟩
instance : Body Tryz.prog 94 := ⟨kR⟩
instance : Body Tryz.prog 95 := ⟨kR⟩
instance : Body Tryz.prog 96 := ⟨kR⟩
instance : Body Tryz.prog 97 := ⟨kR⟩
instance : Body Tryz.prog 98 := ⟨kR⟩
instance : Body Tryz.prog 99 := ⟨kR⟩
instance : Body Tryz.prog 100 := ⟨kR⟩
instance : Body Tryz.prog 101 := ⟨kR⟩
instance : Body Tryz.prog 102 := ⟨kR⟩
instance : Body Tryz.prog 103 := ⟨kR⟩
instance : Body Tryz.prog 104 := ⟨kR⟩
instance : Body Tryz.prog 105 := ⟨kR⟩
instance : Body Tryz.prog 106 := ⟨kR⟩
instance : Body Tryz.prog 107 := ⟨kR⟩
instance : Body Tryz.prog 108 := ⟨kR⟩
instance : Body Tryz.prog 109 := ⟨kR⟩
instance : Body Tryz.prog 110 := ⟨kR⟩
instance : Body Tryz.prog 111 := ⟨kR⟩
instance : Body Tryz.prog 112 := ⟨kR⟩
instance : Body Tryz.prog 113 := ⟨kR⟩
instance : Body Tryz.prog 114 := ⟨kR⟩
instance : Body Tryz.prog 115 := ⟨kR⟩
instance : Body Tryz.prog 116 := ⟨kR⟩
instance : Body Tryz.prog 117 := ⟨kR⟩
instance : Body Tryz.prog 118 := ⟨kR⟩
instance : Body Tryz.prog 127 := ⟨kR⟩
instance : Body Tryz.prog 128 := ⟨kR⟩
instance : Body Tryz.prog 129 := ⟨kR⟩
instance : Body Tryz.prog 130 := ⟨kR⟩
instance : Body Tryz.prog 131 := ⟨kR⟩
instance : Body Tryz.prog 132 := ⟨kR⟩
instance : Body Tryz.prog 133 := ⟨kR⟩
instance : Body Tryz.prog 134 := ⟨kR⟩
instance : Body Tryz.prog 135 := ⟨kR⟩
instance : Body Tryz.prog 136 := ⟨kR⟩
instance : Body Tryz.prog 137 := ⟨kR⟩
instance : Body Tryz.prog 141 := ⟨kR⟩
instance : Body Tryz.prog 142 := ⟨kR⟩
instance : Body Tryz.prog 143 := ⟨kR⟩
instance : Body Tryz.prog 144 := ⟨kR⟩
instance : Body Tryz.prog 145 := ⟨kR⟩
instance : Body Tryz.prog 147 := ⟨kR⟩
instance : Body Tryz.prog 148 := ⟨kR⟩
instance : Body Tryz.prog 149 := ⟨kR⟩
instance : Body Tryz.prog 150 := ⟨kR⟩
instance : Body Tryz.prog 151 := ⟨kR⟩
instance : Body Tryz.prog 152 := ⟨kR⟩
instance : Body Tryz.prog 153 := ⟨kR⟩
instance : Body Tryz.prog 154 := ⟨kR⟩
instance : Body Tryz.prog 155 := ⟨kR⟩
instance : Body Tryz.prog 156 := ⟨kR⟩
instance : Body Tryz.prog 157 := ⟨kR⟩
instance : Body Tryz.prog 158 := ⟨kR⟩
instance : Body Tryz.prog 163 := ⟨kR⟩
instance : Body Tryz.prog 165 := ⟨kR⟩
instance : Body Tryz.prog 166 := ⟨kR⟩
instance : Body Tryz.prog 167 := ⟨kR⟩
instance : Body Tryz.prog 168 := ⟨kR⟩
instance : Body Tryz.prog 169 := ⟨kR⟩
instance : Body Tryz.prog 170 := ⟨kR⟩
instance : Body Tryz.prog 171 := ⟨kR⟩
instance : Body Tryz.prog 172 := ⟨kR⟩
instance : Body Tryz.prog 175 := ⟨kR⟩
instance : Body Tryz.prog 176 := ⟨kR⟩
instance : Body Tryz.prog 177 := ⟨kR⟩
instance : Body Tryz.prog 178 := ⟨kR⟩
instance : Body Tryz.prog 179 := ⟨kR⟩
instance : Body Tryz.prog 180 := ⟨kR⟩
instance : Body Tryz.prog 181 := ⟨kR⟩
instance : Body Tryz.prog 182 := ⟨kR⟩
instance : Body Tryz.prog 183 := ⟨kR⟩
instance : Body Tryz.prog 184 := ⟨kR⟩
instance : Body Tryz.prog 186 := ⟨kR⟩
instance : Body Tryz.prog 187 := ⟨kR⟩
instance : Body Tryz.prog 188 := ⟨kR⟩
instance : Body Tryz.prog 189 := ⟨kR⟩
instance : Body Tryz.prog 190 := ⟨kR⟩
instance : Body Tryz.prog 191 := ⟨kR⟩
instance : Body Tryz.prog 192 := ⟨kR⟩
instance : Body Tryz.prog 193 := ⟨kR⟩
instance : Body Tryz.prog 197 := ⟨kR⟩
instance : Body Tryz.prog 198 := ⟨kR⟩
instance : Body Tryz.prog 199 := ⟨kR⟩
instance : Body Tryz.prog 200 := ⟨kR⟩
instance : Body Tryz.prog 201 := ⟨kR⟩
instance : Body Tryz.prog 202 := ⟨kR⟩
instance : Body Tryz.prog 203 := ⟨kR⟩
instance : Body Tryz.prog 204 := ⟨kR⟩
instance : Body Tryz.prog 205 := ⟨kR⟩
instance : Body Tryz.prog 206 := ⟨kR⟩
instance : Body Tryz.prog 207 := ⟨kR⟩
instance : Body Tryz.prog 211 := ⟨kR⟩
instance : Body Tryz.prog 212 := ⟨kR⟩
instance : Body Tryz.prog 213 := ⟨kR⟩
instance : Body Tryz.prog 214 := ⟨kR⟩
instance : Body Tryz.prog 215 := ⟨kR⟩
instance : Body Tryz.prog 216 := ⟨kR⟩
instance : Body Tryz.prog 217 := ⟨kR⟩
instance : Body Tryz.prog 223 := ⟨kR⟩
instance : Body Tryz.prog 225 := ⟨kR⟩
instance : Body Tryz.prog 226 := ⟨kR⟩
instance : Body Tryz.prog 227 := ⟨kR⟩
instance : Body Tryz.prog 228 := ⟨kR⟩
instance : Body Tryz.prog 234 := ⟨kR⟩
instance : Body Tryz.prog 235 := ⟨kR⟩
instance : Body Tryz.prog 236 := ⟨kR⟩
instance : Body Tryz.prog 241 := ⟨kR⟩
instance : Body Tryz.prog 245 := ⟨kR⟩
instance : Body Tryz.prog 281 := ⟨kR⟩
instance : Body Tryz.prog 294 := ⟨kR⟩
end Go.Proofs.YtlnjfkfojkgiiaaGreatDoor
/- The walking engine, fourth part: functions of the library that the model stands in for. -/
namespace Go.aZ
open Go Go.RowKit

def Qy (P : Program) (f : Field) (o : Nat) : Bool := f.name != "_" && f.offset == o && match P.underlying f.type with
 | some (.int _) => true
 | _ => false
def aBO (P : Program) (T : TypeId) : Bool := match P.underlying T with
 | some (.struct ⟨[f1, f2]⟩) => Qy P f1 0 && Qy P f2 1 && !P.stoodInHeld T && !P.eqGuardType P.depth T
 | _ => false
class VN (P : Program) (T : TypeId) : Prop where
 h : aBO P T = true
class Ext (P : Program) (f : FuncId) (e : outParam (Array Value → Sem Value)) : Prop where
 h : ∃ fn, P.funcs[f]? = some fn ∧ (fn.name == "runtime.NumGoroutine") = false ∧ fn.body.isNone = true ∧ Extern.findNext fn = none ∧ Extern.find fn = some e

section
variable {P : Program} {E : Env} {n : Nat} {L : dz} {g : ab} {own : List aA} {Q : Exit → Act → World → Prop} {ops : Array Oper} {rest : List Oper}
variable {d : Nat} {ty : TypeId} {pos : String} {after : Array Edge}
theorem uF {f : FuncId} {e : Array Value → Sem Value} [hE : Ext P f e] {xs : Array Operand} {ts : Array TypeId} {cq : List Value} {v : Value} (hx : gS L xs.toList = some cq) (he : ∀ w, (e cq.toArray).run P w = .ok v w) :
  cH P E n L g own ty (.call ⟨.value (.func f), xs, ts⟩) v := fun a w dst pos after hF _ => by
 obtain ⟨fn, h1, h2, h3, h4, h5⟩ := hE.h
 have ji : (xs.map a.eval) = cq.toArray := by
  have := hF.pK hx
  apply Array.ext'
  simpa using this
 have hc := run_callFunc_extern h1 h2 h3 h4 h5 cq.toArray w
 rw [he w] at hc
 simpa [execOp, resolve, Act.eval, Deferred.ofValue, invoke, ji] using hc

def gg (c : UInt8) : List UInt8 → Int
 | [] => -1
 | x :: r => if x = c then 0 else if gg c r < 0 then -1 else gg c r + 1
theorem wL (c : UInt8) : ∀ s : List UInt8, (gg c s = -1 ∧ ∀ x ∈ s, x ≠ c) ∨ (0 ≤ gg c s ∧ gg c s < s.length)
 | [] => .inl ⟨rfl, sM⟩
 | x :: r => by
  simp only [gg]
  by_cases hx : x = c
  ·simp [hx]
  ·rw [if_neg hx]
   rcases wL c r with ⟨h1, h2⟩ | ⟨h1, h2⟩
   ·exact .inl ⟨by rw [h1]; rfl, by intro y hy; rcases List.mem_cons.1 hy with rfl | hy; exact hx; exact h2 y hy⟩
   ·rw [if_neg oM]
    exact .inr ⟨oM, nM⟩
theorem aBP (c : UInt8) (s : List UInt8) : ∀ (r : List UInt8) (k : Nat), s.drop k = r →
  (List.range' k r.length).find? (fun i => (⟨⟨s⟩⟩ : ByteArray)[i]! == c) = if gg c r < 0 then none else some (k + (gg c r).toNat) := by
 intro r
 induction r with
 | nil => intro k _; rfl
 | cons x r ih =>
  intro k hk
  have hlt : k < s.length := by
   rcases Nat.lt_or_ge k s.length with h | h
   ·exact h
   ·rw [List.drop_eq_nil_of_le h] at hk; cases hk
  have h0 : s[k] = x ∧ s.drop (k + 1) = r := by
   have := List.drop_eq_getElem_cons hlt
   rw [hk] at this
   simp only [List.cons.injEq] at this
   exact ⟨this.1.symm, this.2.symm⟩
  have hb : (⟨⟨s⟩⟩ : ByteArray)[k]! = x := by
   rw [← h0.1]
   have bN : k < (⟨⟨s⟩⟩ : ByteArray).size := hlt
   rw [getElem!_pos _ k bN]
   rfl
  rw [List.length_cons, List.range'_succ, List.find?_cons, hb, ih (k + 1) h0.2]
  by_cases hx : x = c
  ·have e : gg c (x :: r) = 0 := by simp [gg, hx]
   rw [e]; simp [hx]
  ·have hbe : (x == c) = false := by simpa using hx
   rw [hbe]
   rcases wL c r with ⟨h1, _⟩ | ⟨h1, _⟩
   ·have e : gg c (x :: r) = -1 := by simp [gg, hx, h1]
    rw [e, h1]; rfl
   ·have e : gg c (x :: r) = gg c r + 1 := by simp only [gg]; rw [if_neg hx, if_neg oM]
    rw [e, if_neg oM, if_neg oM]
    simp only [Option.some.injEq]
    omega
theorem T5 (s : List UInt8) (c : UInt8) (w : World) : (Extern.BytealgIndexByte.indexByte #[str s, .int .u8 c.toNat]).run P w = .ok (.int .i64 (gg c s)) w := by
 have hf := aBP c s s 0 rfl
 rw [← List.range_eq_range'] at hf
 have hb : (Extern.Bytes.bytesOf (str s)).run P w = .ok ⟨⟨s⟩⟩ w := by simp [Extern.Bytes.bytesOf]
 have hc : (Extern.Bytes.asByte (.int .u8 c.toNat)).run P w = .ok c w := by simp [Extern.Bytes.asByte]
 show Sem.run P (do
  let b ← Extern.Bytes.bytesOf (str s)
  let c ← Extern.Bytes.asByte (.int .u8 c.toNat)
  match (List.range b.size).find? fun i => b[i]! == c with
  | some i => pure (goInt i)
  | none => pure (goInt (-1))) w = _
 simp only [Sem.run_bind, hb, hc, Result.andThen_ok]
 have bN : (⟨⟨s⟩⟩ : ByteArray).size = s.length := rfl
 rw [bN, hf]
 rcases wL c s with ⟨h1, _⟩ | ⟨h1, _⟩
 ·rw [h1]; rfl
 ·rw [if_neg oM]
  simp [goInt]
  omega
theorem KY {f : FuncId} {cq : List Value} {v : Value} (h : ∀ w, Holds g [] w → Calls P f cq.toArray w fun e w' => e = .returned v ∧ Below w.heap.size w w') : Pure P f cq g v := fun w hH =>
 (h w hH).mono fun e w' ⟨he, hb⟩ => ⟨v, g, [], he, ⟨rfl, rfl, rfl⟩,
  Inv.move (lent := []) (got := []) (kept := []) (Inv.start hH) hb.size hb.tape hb.os hb.output (fun b hlt _ => hb.block b hlt) (ab.le_refl g)
   (yZ (lent := []) hH sM (fun b hlt _ => hb.block b hlt)) (fun _ _ h => absurd rfl h) sM (by simp [cI]) (by simp [cI]) (by simp [cI])⟩
theorem l6 {X : Act → World → Prop} {g' : ab} (hE : E.g0 = g) (hle : ab.le g g') (h : ah E n L g own X) : ah E n L g' own X := fun a w hF hI => by
 subst hE
 refine h a w hF ⟨⟨fun b o v hv => hI.1.jF b o v (hle b o v hv), hI.1.sat, hI.1.mW, fun b hb o => ?_⟩, ⟨hI.2.size, hI.2.kept, hI.2.tape, hI.2.os, hI.2.output, ab.le_refl _, fun b o hne => absurd rfl hne, hI.2.lW⟩⟩
 have h0 := hI.1.gn b hb o
 cases hv : E.g0 b o with
 | none => rfl
 | some v => rw [hle b o v hv] at h0; cases h0
theorem au.le {size m : Nat} {v : Value} {xs : List Value} (h : au g size v m xs) : m ≤ 9223372036854775807 := by
 rcases h.2 with ⟨_, h0⟩ | ⟨b, off, cap, _, h1, h2, _⟩
 ·omega
 ·unfold maxLen at h2; omega
theorem au.held {size m : Nat} {v : Value} {xs : List Value} {j : Nat} (h : au g size v m xs) (hj : j < m) : ∃ b off cap, v = .slice (some ⟨b, off, none⟩) m cap ∧ ∀ k x, xs[k]? = some x → g b (off + k) = some x := by
 rcases h.2 with ⟨_, h0⟩ | ⟨b, off, cap, hv, _, _, hx⟩
 ·omega
 ·exact ⟨b, off, cap, hv, hx⟩
theorem Qz {x : Operand} {T e : TypeId} {k0 eh size m : Nat} {v : Value} {xs : List Value} [hT : fP P T e k0 eh] (hx : ev L x = some v) (hs : au g size v m xs) : cH P E n L g own ty (.call ⟨.builtin .len, #[x], #[T]⟩) (.int .i64 m) := by
 rcases hs.2 with ⟨⟨a, c, hv⟩, h0⟩ | ⟨b, off, cap, hv, _⟩
 ·subst hv; subst h0; exact jQ hx
 ·subst hv; exact jQ hx
theorem aBQ {x : Operand} {T e : TypeId} {k0 eh size m : Nat} {v : Value} {xs : List Value} [hT : fP P T e k0 eh] (hd : Nat.blt d n = true) (hx : ev L x = some v) (hs : au g size v m xs) (k : ah E n ((d, .int .i64 m) :: L) g own (wpList P ops Q rest)) :
  ah E n L g own (wpList P ops Q (⟨some d, .call ⟨.builtin .len, #[x], #[T]⟩, ty, pos, after, none⟩ :: rest)) := cX hd (Qz hx hs) k
theorem au.cell {α : Type} {f : α → List Value} {size : Nat} (hf : ∀ x, (f x).length = size) {l : List α} {b off : Nat} (h : ∀ k x, (l.flatMap f)[k]? = some x → g b (off + k) = some x) {i : Nat} (hi : i < l.length) (j : Nat) {v : Value} (hv : (f l[i])[j]? = some v) :
  Rd g own b (off + i * size + j) [v] := by
 refine eT ?_
 have hj : j < size := by rw [← hf l[i]]; exact (List.getElem?_eq_some_iff.1 hv).1
 rw [Nat.add_assoc]
 refine h _ _ ?_
 rw [Iz f size hf l i j hj, List.getElem?_eq_getElem hi]
 exact hv
end
end Go.aZ


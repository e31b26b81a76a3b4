/- The walking engine, third part: splits, composite literals, conversions, nil checks. -/
import Derived.Test.YtpjehhnaojjanaaGreatDoorOps
namespace Go.Eng
open Go Go.RowKit

def fillB (place : Nat → Option (Nat × Nat)) (cs : List Value) : List (Nat × Value) → Option (List Value)
 | [] => some cs
 | (i, v) :: rest => match place i with
  | none => none
  | some (off, size) => match cellsOf v with
   | none => none
   | some vs => bif Nat.beq vs.length size then (bif Nat.ble (off + size) cs.length then match splice cs off vs with
    | none => none
    | some cs' => fillB place cs' rest
    else none) else none

theorem foldl_set (vs : List Value) : ∀ (off k : Nat) (cs : List Value), off + k + vs.length ≤ cs.length →
  (vs.zipIdx k).foldl (fun (a : Array Value) (p : Value × Nat) => a.setIfInBounds (off + p.2) p.1) cs.toArray = (cs.take (off + k) ++ vs ++ cs.drop (off + k + vs.length)).toArray := by
 induction vs with
 | nil => intro off k cs _; simp
 | cons v vs ih =>
  intro off k cs h
  simp only [List.zipIdx_cons, List.foldl_cons, List.length_cons] at h ⊢
  have hlt : off + k < cs.length := by omega
  have e1 : cs.toArray.setIfInBounds (off + k) v = (cs.set (off + k) v).toArray := by simp
  rw [e1, ih off (k + 1) (cs.set (off + k) v) (by simp; omega)]
  congr 1
  have e2 : (cs.set (off + k) v).take (off + (k + 1)) = cs.take (off + k) ++ [v] := by
   rw [show off + (k + 1) = (off + k) + 1 by omega, List.take_set, List.take_succ_eq_append_getElem hlt, List.set_append]
   have hl : (cs.take (off + k)).length = off + k := by simp; omega
   simp [hl]
  have e3 : (cs.set (off + k) v).drop (off + (k + 1) + vs.length) = cs.drop (off + k + (vs.length + 1)) := by
   rw [List.drop_set]
   have : ¬ (off + (k + 1) + vs.length ≤ off + k) := by omega
   rw [show off + (k + 1) + vs.length = off + k + (vs.length + 1) by omega]
   have h4 : off + k < off + k + (vs.length + 1) := by omega
   simp [h4]
  rw [e2, e3]
  simp

theorem fill_spec (place : Nat → Option (Nat × Nat)) : ∀ (parts : List (Nat × Value)) (cs r : List Value), fillB place cs parts = some r → Instr.fill place cs.toArray parts = some r.toArray
 | [], cs, r, h => by simp only [fillB, Option.some.injEq] at h; subst h; rfl
 | (i, v) :: rest, cs, r, h => by
  simp only [fillB] at h
  cases hp : place i with
  | none => simp [hp] at h
  | some q =>
   obtain ⟨off, size⟩ := q
   simp only [hp] at h
   cases hc : cellsOf v with
   | none => simp [hc] at h
   | some vs =>
    simp only [hc] at h
    cases hb : Nat.beq vs.length size with
    | false => simp [hb] at h
    | true =>
     cases hb2 : Nat.ble (off + size) cs.length with
     | false => simp [hb, hb2] at h
     | true =>
      simp only [hb, hb2, cond_true] at h
      have hsz : vs.length = size := Nat.eq_of_beq_eq_true hb
      have hle : off + size ≤ cs.length := Nat.le_of_ble_eq_true hb2
      cases hs : splice cs off vs with
      | none => simp [hs] at h
      | some cs' =>
       simp only [hs] at h
       obtain ⟨h1, -⟩ := splice_spec hs
       have hcv := cellsOf_spec hc
       have ih := fill_spec place rest cs' r h
       have hf := foldl_set vs off 0 cs (by omega)
       simp only [Nat.add_zero] at hf
       have hng : ¬ (off + size > cs.length) := by omega
       simp only [Instr.fill, hp, hcv, List.size_toArray, hsz, ne_eq, not_true_eq_false, hng, decide_false, Bool.or_self, Bool.false_eq_true, if_false]
       have hz : vs.toArray.zipIdx = vs.zipIdx.toArray := by simp
       rw [hz, ← Array.foldl_toList]
       simp only []
       rw [hf, ← h1]
       exact ih

section
variable {P : Program} {E : Env} {n : Nat} {L : Slots} {g : Ghost} {own : List Res} {Q : Exit → Act → World → Prop} {ops : Array Oper} {rest : List Oper}
variable {d : Nat} {ty : TypeId} {pos : String} {after : Array Edge}

/-! Reading one cell; an element of a list of equal parts. -/
theorem flat_get {α : Type} (f : α → List Value) (sz : Nat) (hf : ∀ x, (f x).length = sz) : ∀ (l : List α) (k j : Nat), j < sz → (l.flatMap f)[k * sz + j]? = (l[k]?).bind fun x => (f x)[j]?
 | [], k, j, _ => by simp
 | x :: l, 0, j, hj => by
  rw [List.flatMap_cons, List.getElem?_append_left (by rw [hf]; omega)]
  simp
 | x :: l, k + 1, j, hj => by
  have h1 : (f x).length ≤ (k + 1) * sz + j := by rw [hf, Nat.add_mul]; omega
  rw [List.flatMap_cons, List.getElem?_append_right h1, hf, show (k + 1) * sz + j - sz = k * sz + j by rw [Nat.add_mul]; omega, flat_get f sz hf l k j hj]
  simp
theorem rd_blk1 {b : Nat} {T : TypeId} {cs : List Value} {v : Value} {off : Nat} (i : Nat) (h : own[i]? = some (.blk b T cs)) (hx : cs[off]? = some v) : Rd g own b off [v] := by
 intro E w hI j x hj
 have hs : w.heap[b]? = some (.cells cs.toArray T (0, 0)) := sat_at hI h
 match j, hj with
 | 0, hj => simp at hj; subst hj; simp only [World.cell?, hs]; simpa using hx
theorem val_loadB {x : Operand} {T T0 : TypeId} {sz : Nat} [hT : Agg P T sz] {b off : Nat} {cs vs : List Value} (i : Nat) (hx : ev L x = some (ptr b off)) (h : own[i]? = some (.blk b T0 cs)) (ht : takeN (cs.drop off) sz = some vs) :
  Val P E n L g own ty (.load T x) (.agg vs.toArray) := val_load hx (rd_blk i h ht) (by obtain ⟨h1, h2⟩ := takeN_spec ht; rw [h1, List.length_take]; omega)
theorem val_loadB1 {x : Operand} {T T0 : TypeId} [hT : One P T] {b off : Nat} {cs : List Value} {v : Value} (i : Nat) (hx : ev L x = some (ptr b off)) (h : own[i]? = some (.blk b T0 cs)) (ht : cs[off]? = some v) :
  Val P E n L g own ty (.load T x) v := val_load1 hx (rd_blk1 i h ht)
theorem r_loadB {x : Operand} {T T0 : TypeId} {sz : Nat} [hT : Agg P T sz] {b off : Nat} {cs vs : List Value} (i : Nat) (hd : Nat.blt d n = true) (hx : ev L x = some (ptr b off)) (h : own[i]? = some (.blk b T0 cs)) (ht : takeN (cs.drop off) sz = some vs)
  (k : Run E n ((d, .agg vs.toArray) :: L) g own (wpList P ops Q rest)) : Run E n L g own (wpList P ops Q (⟨some d, .load T x, ty, pos, after, none⟩ :: rest)) := r_v hd (val_loadB i hx h ht) k
theorem r_loadB1 {x : Operand} {T T0 : TypeId} [hT : One P T] {b off : Nat} {cs : List Value} {v : Value} (i : Nat) (hd : Nat.blt d n = true) (hx : ev L x = some (ptr b off)) (h : own[i]? = some (.blk b T0 cs)) (ht : cs[off]? = some v)
  (k : Run E n ((d, v) :: L) g own (wpList P ops Q rest)) : Run E n L g own (wpList P ops Q (⟨some d, .load T x, ty, pos, after, none⟩ :: rest)) := r_v hd (val_loadB1 i hx h ht) k

theorem res_blk {t : Tmp} {T T0 : TypeId} {k b off : Nat} [hT : Agg P T k] {cs vs : List Value} (i : Nat) (h : look L t = some (ptr b off)) (ho : own[i]? = some (.blk b T0 cs)) (ht : takeN (cs.drop off) k = some vs) :
  Res1 P L g own (.cell t T) (.agg vs.toArray) := .agg h (rd_blk i ho ht) (by obtain ⟨h1, h2⟩ := takeN_spec ht; rw [h1, List.length_take]; omega)

/-! Splits. -/
theorem r_bool {X : Act → World → Prop} (t : Nat) {b : Bool} (hc : look L t = some (.bool b)) (ht : b = true → Run E n ((t, .bool true) :: L) g own X) (hf : b = false → Run E n ((t, .bool false) :: L) g own X) : Run E n L g own X := by
 cases b
 ·exact r_rw t hc rfl (hf rfl)
 ·exact r_rw t hc rfl (ht rfl)
theorem r_condb {c : Operand} {x y : Code} {b : Bool} (hc : ev L c = some (.bool b)) (ht : b = true → Run E n L g own (x.wp P Q)) (hf : b = false → Run E n L g own (y.wp P Q)) :
  Run E n L g own ((Code.cond c x y).wp P Q) := by
 cases b
 ·exact r_cond_false hc (hf rfl)
 ·exact r_cond_true hc (ht rfl)
def gslot (ops : Array Oper) (j : Nat) : Option Nat := match ops[j]? with
 | some o => o.dst
 | none => none
theorem r_gdec {dst : Option Tmp} {op : Op} {j t : Nat} {b : Bool} {p : Prop} [Decidable p] (_hs : gslot ops j = some t) (hc : look L t = some (.bool (decide p)))
  (ht : p → Run E n ((t, .bool true) :: L) g own (wpList P ops Q (⟨dst, op, ty, pos, after, some (j, b)⟩ :: rest))) (hf : ¬ p → Run E n ((t, .bool false) :: L) g own (wpList P ops Q (⟨dst, op, ty, pos, after, some (j, b)⟩ :: rest))) :
  Run E n L g own (wpList P ops Q (⟨dst, op, ty, pos, after, some (j, b)⟩ :: rest)) := r_dec t hc ht hf
theorem r_gbool {dst : Option Tmp} {op : Op} {j t : Nat} {b c : Bool} (_hs : gslot ops j = some t) (hc : look L t = some (.bool c))
  (ht : c = true → Run E n ((t, .bool true) :: L) g own (wpList P ops Q (⟨dst, op, ty, pos, after, some (j, b)⟩ :: rest))) (hf : c = false → Run E n ((t, .bool false) :: L) g own (wpList P ops Q (⟨dst, op, ty, pos, after, some (j, b)⟩ :: rest))) :
  Run E n L g own (wpList P ops Q (⟨dst, op, ty, pos, after, some (j, b)⟩ :: rest)) := r_bool t hc ht hf
/-! One evaluator for what needs no fact of the program. -/
def evOp (L : Slots) : Op → Option Value
 | .move x => ev L x
 | .assign x => ev L x
 | .pick c x y => match ev L c with
  | some (.bool true) => ev L x
  | some (.bool false) => ev L y
  | _ => none
 | .extract x i => match ev L x with
  | some (.tuple vs) => vs[i]?
  | _ => none
 | .nilCheck x => match ev L x with
  | some (.pointer (some a)) => some (.pointer (some a))
  | _ => none
 | .unOp .not _ x => match ev L x with
  | some (.bool b) => some (.bool (!b))
  | _ => none
 | .binOp .lss _ x y _ => match ev L x, ev L y with
  | some (.int .i64 p), some (.int .i64 q) => some (.bool (decide (p < q)))
  | some (.int .u8 p), some (.int .u8 q) => some (.bool (decide (p < q)))
  | _, _ => none
 | .binOp .leq _ x y _ => match ev L x, ev L y with
  | some (.int .i64 p), some (.int .i64 q) => some (.bool (decide (p ≤ q)))
  | some (.int .u8 p), some (.int .u8 q) => some (.bool (decide (p ≤ q)))
  | _, _ => none
 | .binOp .gtr _ x y _ => match ev L x, ev L y with
  | some (.int .i64 p), some (.int .i64 q) => some (.bool (decide (q < p)))
  | some (.int .u8 p), some (.int .u8 q) => some (.bool (decide (q < p)))
  | _, _ => none
 | .binOp .geq _ x y _ => match ev L x, ev L y with
  | some (.int .i64 p), some (.int .i64 q) => some (.bool (decide (q ≤ p)))
  | some (.int .u8 p), some (.int .u8 q) => some (.bool (decide (q ≤ p)))
  | _, _ => none
 | .binOp .eql _ x y _ => match ev L x, ev L y with
  | some (.int .i64 p), some (.int .i64 q) => some (.bool (decide (p = q)))
  | some (.int .u8 p), some (.int .u8 q) => some (.bool (decide (p = q)))
  | some (.string ⟨⟨p⟩⟩), some (.string ⟨⟨q⟩⟩) => some (.bool (decide (p = q)))
  | _, _ => none
 | .binOp .neq _ x y _ => match ev L x, ev L y with
  | some (.int .i64 p), some (.int .i64 q) => some (.bool (decide (p ≠ q)))
  | some (.int .u8 p), some (.int .u8 q) => some (.bool (decide (p ≠ q)))
  | some (.string ⟨⟨p⟩⟩), some (.string ⟨⟨q⟩⟩) => some (.bool (decide (p ≠ q)))
  | _, _ => none
 | _ => none

theorem val_ev {op : Op} {v : Value} (hv : evOp L op = some v) : Val P E n L g own ty op v := by
 cases op <;> simp only [evOp] at hv
 case move x => exact val_move hv
 case assign x => exact val_assign hv
 case pick c x y =>
  split at hv
  ·rename_i h; exact val_pick_true h hv
  ·rename_i h; exact val_pick_false h hv
  ·cases hv
 case extract x i =>
  split at hv
  ·rename_i h; exact val_extract h hv
  ·cases hv
 case nilCheck x =>
  split at hv
  ·rename_i ad h
   simp only [Option.some.injEq] at hv; subst hv
   exact fun a w dst pos after hF _ => by simp [execOp, hF.eval h]
  ·cases hv
 case unOp o T x =>
  cases o <;> simp only at hv <;> try (cases hv; done)
  split at hv
  ·rename_i h; simp only [Option.some.injEq] at hv; subst hv; exact val_not_lit h
  ·cases hv
 case binOp o T x y T' =>
  cases o <;> simp only at hv <;> try (cases hv; done)
  case lss => split at hv <;> first | (cases hv; done) | (rename_i h1 h2; simp only [Option.some.injEq] at hv; subst hv; exact val_lss h1 h2)
  case leq => split at hv <;> first | (cases hv; done) | (rename_i h1 h2; simp only [Option.some.injEq] at hv; subst hv; exact val_leq h1 h2)
  case gtr => split at hv <;> first | (cases hv; done) | (rename_i h1 h2; simp only [Option.some.injEq] at hv; subst hv; exact val_gtr h1 h2)
  case geq => split at hv <;> first | (cases hv; done) | (rename_i h1 h2; simp only [Option.some.injEq] at hv; subst hv; exact val_geq h1 h2)
  case eql => split at hv <;> first | (cases hv; done) | (rename_i h1 h2; simp only [Option.some.injEq] at hv; subst hv; first | exact val_eql h1 h2 | exact val_eql_str h1 h2)
  case neq => split at hv <;> first | (cases hv; done) | (rename_i h1 h2; simp only [Option.some.injEq] at hv; subst hv; first | exact val_neq h1 h2 | exact val_neq_str h1 h2)
 all_goals cases hv
theorem r_ev {op : Op} {v : Value} (hd : Nat.blt d n = true) (hv : evOp L op = some v) (k : Run E n ((d, v) :: L) g own (wpList P ops Q rest)) :
  Run E n L g own (wpList P ops Q (⟨some d, op, ty, pos, after, none⟩ :: rest)) := r_v hd (val_ev hv) k
theorem q_ev {op : Op} {v : Value} {K : Act → Prop} (hd : Nat.blt d n = true) (hv : evOp L op = some v) (k : Run E n ((d, v) :: L) g own (Wq P ops (Inv E g own) K rest)) :
  Run E n L g own (Wq P ops (Inv E g own) K (⟨some d, op, ty, pos, after, none⟩ :: rest)) := q_v hd (val_ev hv) k
theorem q_tev {op : Op} {v : Value} {j : Nat} {b : Bool} {K : Act → Prop} (hg : gd L ops j = some b) (hd : Nat.blt d n = true) (hv : evOp L op = some v) (k : Run E n ((d, v) :: L) g own (Wq P ops (Inv E g own) K rest)) :
  Run E n L g own (Wq P ops (Inv E g own) K (⟨some d, op, ty, pos, after, some (j, b)⟩ :: rest)) := q_take hg (q_ev hd hv k)
theorem q_gdec {dst : Option Tmp} {op : Op} {j t : Nat} {b : Bool} {p : Prop} [Decidable p] {K : Act → Prop} {C : World → Prop} (_hs : gslot ops j = some t) (hc : look L t = some (.bool (decide p)))
  (ht : p → Run E n ((t, .bool true) :: L) g own (Wq P ops C K (⟨dst, op, ty, pos, after, some (j, b)⟩ :: rest))) (hf : ¬ p → Run E n ((t, .bool false) :: L) g own (Wq P ops C K (⟨dst, op, ty, pos, after, some (j, b)⟩ :: rest))) :
  Run E n L g own (Wq P ops C K (⟨dst, op, ty, pos, after, some (j, b)⟩ :: rest)) := r_dec t hc ht hf
theorem q_gbool {dst : Option Tmp} {op : Op} {j t : Nat} {b c : Bool} {K : Act → Prop} {C : World → Prop} (_hs : gslot ops j = some t) (hc : look L t = some (.bool c))
  (ht : c = true → Run E n ((t, .bool true) :: L) g own (Wq P ops C K (⟨dst, op, ty, pos, after, some (j, b)⟩ :: rest))) (hf : c = false → Run E n ((t, .bool false) :: L) g own (Wq P ops C K (⟨dst, op, ty, pos, after, some (j, b)⟩ :: rest))) :
  Run E n L g own (Wq P ops C K (⟨dst, op, ty, pos, after, some (j, b)⟩ :: rest)) := r_bool t hc ht hf
theorem r_tev {op : Op} {v : Value} {j : Nat} {b : Bool} (hg : gd L ops j = some b) (hd : Nat.blt d n = true) (hv : evOp L op = some v) (k : Run E n ((d, v) :: L) g own (wpList P ops Q rest)) :
  Run E n L g own (wpList P ops Q (⟨some d, op, ty, pos, after, some (j, b)⟩ :: rest)) := r_take hg (r_ev hd hv k)
theorem r_sr {id : Nat} {l : List Oper} {y : Code} (h : Run E n L g own (wpList P l.toArray (Exit.then (y.wp P Q) Q) l)) : Run E n L g own ((Code.seq (.region id l.toArray false) y).wp P Q) := r_seq (r_region h)
theorem r_nn {next : Act → World → Prop} (h : Run E n L g own next) : Run E n L g own (wpList P ops (Exit.then next Q) []) := r_nil (r_then_normal h)
/-! Cuts: the ways through the first part meet again. -/
theorem r_cut (L' : Slots) (φ : Prop) {x y : Code} (h2 : φ → Run E n L' g own (y.wp P Q)) (h1 : ∀ K : Act → World → Prop, (∀ L'', φ → Sub L' L'' → Run E n L'' g own K) → Run E n L g own (x.wp P (Exit.then K Q))) :
  Run E n L g own ((Code.seq x y).wp P Q) := r_seq (h1 _ fun _ hφ hs => r_sub L' hs (h2 hφ))

/-! A guard that yielded nothing. -/
def gu (L : Slots) (ops : Array Oper) (j : Nat) : Bool := match ops[j]? with
 | some o => match o.dst with
  | some t => match look L t with
   | some (.tuple _) => true
   | _ => false
  | none => false
 | none => false
theorem gu_spec {a : Act} (hF : Fr n L a) {j : Nat} (h : gu L ops j = true) : yielded ops a.tmps j = none := by
 unfold gu at h
 split at h
 ·rename_i o ho
  split at h
  ·rename_i t ht
   split at h
   ·rename_i b' hb
    have := hF.at_ t _ hb
    simp [yielded, ho, ht, this]
   ·cases h
  ·cases h
 ·cases h
theorem r_passU {op : Op} {j : Nat} {b : Bool} (hg : gu L ops j = true) (hd : Nat.blt d n = true)
  (h : Run E n ((d, undef) :: L) g own (wpList P ops Q rest)) : Run E n L g own (wpList P ops Q (⟨some d, op, ty, pos, after, some (j, b)⟩ :: rest)) := by
 intro a w hF hI
 have hy := gu_spec (ops := ops) hF hg
 unfold wpList
 have : ((none : Option Bool) == some b) = false := by rfl
 simp only [Region.wanted, hy, this, Bool.false_eq_true, if_false]
 exact h _ w (hF.put hd undef) hI
theorem q_passU {op : Op} {j : Nat} {b : Bool} {K : Act → Prop} {C : World → Prop} (hg : gu L ops j = true) (hd : Nat.blt d n = true)
  (h : Run E n ((d, undef) :: L) g own (Wq P ops C K rest)) : Run E n L g own (Wq P ops C K (⟨some d, op, ty, pos, after, some (j, b)⟩ :: rest)) := fun a w hF hI => by
 have hy := gu_spec (ops := ops) hF hg
 unfold Wq wpQuiet
 have : ((none : Option Bool) == some b) = false := by rfl
 simp only [Region.wanted, hy, this, Bool.false_eq_true, if_false]
 exact h _ w (hF.put hd undef) hI

/-! The shapes of a goal: each is no step, and only tells which rules to try. -/
theorem is_w {op : Op} (h : Run E n L g own (wpList P ops Q (⟨some d, op, ty, pos, after, none⟩ :: rest))) : Run E n L g own (wpList P ops Q (⟨some d, op, ty, pos, after, none⟩ :: rest)) := h
theorem is_w0 {op : Op} (h : Run E n L g own (wpList P ops Q (⟨none, op, ty, pos, after, none⟩ :: rest))) : Run E n L g own (wpList P ops Q (⟨none, op, ty, pos, after, none⟩ :: rest)) := h
theorem is_g {dst : Option Tmp} {op : Op} {x : Nat × Bool} (h : Run E n L g own (wpList P ops Q (⟨dst, op, ty, pos, after, some x⟩ :: rest))) : Run E n L g own (wpList P ops Q (⟨dst, op, ty, pos, after, some x⟩ :: rest)) := h
theorem is_n (h : Run E n L g own (wpList P ops Q [])) : Run E n L g own (wpList P ops Q []) := h
theorem is_c {c : Code} (h : Run E n L g own (c.wp P Q)) : Run E n L g own (c.wp P Q) := h
theorem is_t {next : Act → World → Prop} {e : Exit} (h : Run E n L g own (Exit.then next Q e)) : Run E n L g own (Exit.then next Q e) := h
theorem is_b {id : Nat} {e : Exit} (h : Run E n L g own (Exit.inBlock id Q e)) : Run E n L g own (Exit.inBlock id Q e) := h
theorem is_q {op : Op} {C : World → Prop} {K : Act → Prop} (h : Run E n L g own (Wq P ops C K (⟨some d, op, ty, pos, after, none⟩ :: rest))) : Run E n L g own (Wq P ops C K (⟨some d, op, ty, pos, after, none⟩ :: rest)) := h
theorem is_qg {dst : Option Tmp} {op : Op} {x : Nat × Bool} {C : World → Prop} {K : Act → Prop} (h : Run E n L g own (Wq P ops C K (⟨dst, op, ty, pos, after, some x⟩ :: rest))) : Run E n L g own (Wq P ops C K (⟨dst, op, ty, pos, after, some x⟩ :: rest)) := h
theorem is_qn {C : World → Prop} {K : Act → Prop} (h : Run E n L g own (Wq P ops C K [])) : Run E n L g own (Wq P ops C K []) := h

/-! Composite literals. -/
def evp (L : Slots) : List (Nat × Operand) → Option (List (Nat × Value))
 | [] => some []
 | (i, x) :: r => match ev L x with
  | none => none
  | some v => match evp L r with
   | none => none
   | some vs => some ((i, v) :: vs)
theorem Fr.evps {a : Act} (h : Fr n L a) : ∀ {xs : List (Nat × Operand)} {vs : List (Nat × Value)}, evp L xs = some vs → xs.map (fun p => (p.1, a.eval p.2)) = vs
 | [], vs, hx => by simp [evp] at hx; simp [hx]
 | (i, x) :: r, vs, hx => by
  simp only [evp] at hx
  cases h1 : ev L x with
  | none => simp [h1] at hx
  | some v =>
   cases h2 : evp L r with
   | none => simp [h1, h2] at hx
   | some us =>
    simp [h1, h2] at hx
    subst hx
    simp [h.eval h1, h.evps h2]

def placesB (P : Program) (T : TypeId) : Option (List (Nat × Nat)) := match P.underlying T with
 | some (.struct fs) => fs.toList.mapM fun f => (P.info? f.type).map fun i => (f.offset, i.size)
 | _ => none
class Bld (P : Program) (T : TypeId) (places : outParam (List (Nat × Nat))) : Prop where
 h : placesB P T = some places
theorem places_run (w : World) : ∀ (fs : List Field) (ps : List (Nat × Nat)), (fs.mapM fun f => (P.info? f.type).map fun i => (f.offset, i.size)) = some ps →
  (fs.mapM (m := Sem) fun f => do pure (f.offset, ← sizeOf f.type)).run P w = .ok ps w
 | [], ps, h => by simp at h; subst h; simp
 | f :: fs, ps, h => by
  rw [List.mapM_cons] at h
  cases hi : P.info? f.type with
  | none => simp [hi] at h
  | some i =>
   cases hr : fs.mapM (fun f => (P.info? f.type).map fun i => (f.offset, i.size)) with
   | none => simp [hi, hr] at h
   | some qs =>
    simp [hi, hr] at h
    subst h
    rw [List.mapM_cons]
    have ih := places_run w fs qs hr
    have hf : (do pure (f.offset, ← sizeOf f.type) : Sem (Nat × Nat)).run P w = .ok (f.offset, i.size) w := by simp [sizeOf, typeInfo, hi]
    rw [Sem.run_bind, hf]
    simp only [Result.andThen_ok, Sem.run_bind, ih, Sem.run_pure]
theorem zero_run {T : TypeId} {zs : List Value} (hZ : Zero P T zs) (w : World) : ∃ z, (zeroValue T).run P w = .ok z w ∧ z.cells = zs.toArray := by
 have hz := hZ.z
 cases hi : P.info? T with
 | none => simp [hi] at hz
 | some i =>
  cases hz' : i.zero with
  | none => simp [hi, hz'] at hz
  | some z =>
   simp only [hi, Option.bind_some, hz', Option.map_some, Option.some.injEq] at hz
   exact ⟨z, by simp [zeroValue, typeInfo, hi, hz'], by rw [← hz]⟩
theorem val_build {T : TypeId} {places : List (Nat × Nat)} [hB : Bld P T places] {zs : List Value} [hZ : Zero P T zs] {parts : Array (Nat × Operand)} {vs : List (Nat × Value)} {r : List Value}
  (hx : evp L parts.toList = some vs) (hr : fillB (fun i => places[i]?) zs vs = some r) : Val P E n L g own ty (.build T parts) (.agg r.toArray) :=
 fun a w dst pos after hF _ => by
  have hb := hB.h
  unfold placesB at hb
  split at hb
  ·rename_i fs hfs
   have hp := places_run w fs.toList places hb
   have hp' : (fs.mapM (m := Sem) fun f => do pure (f.offset, ← sizeOf f.type)).run P w = .ok places.toArray w := by
    rw [Array.mapM_eq_mapM_toList]
    simp only [Sem.run_map, hp, Result.andThen_ok]
   obtain ⟨z, hz1, hz2⟩ := zero_run hZ w
   have hparts : (parts.map fun p => (p.1, a.eval p.2)).toList = vs := by simpa using hF.evps hx
   have hfill := fill_spec (fun i : Nat => places[i]?) vs zs r hr
   have hpl : (fun x : Nat => places.toArray[x]?) = (fun i : Nat => places[i]?) := by funext i; simp
   simp only [execOp, Instr.build, Sem.run_bind, hz1, Result.andThen_ok, run_underlying hfs, hp', hparts, hz2, hpl, hfill, Sem.run_pure]
  ·cases hb
theorem r_build {T : TypeId} {places : List (Nat × Nat)} [hB : Bld P T places] {zs : List Value} [hZ : Zero P T zs] {parts : Array (Nat × Operand)} {vs : List (Nat × Value)} {r : List Value} (hd : Nat.blt d n = true)
  (hx : evp L parts.toList = some vs) (hr : fillB (fun i => places[i]?) zs vs = some r) (k : Run E n ((d, .agg r.toArray) :: L) g own (wpList P ops Q rest)) :
  Run E n L g own (wpList P ops Q (⟨some d, .build T parts, ty, pos, after, none⟩ :: rest)) := r_v hd (val_build hx hr) k

def repN : Nat → List Value → List Value
 | 0, _ => []
 | k + 1, z => z ++ repN k z
theorem repN_spec (z : List Value) (sz : Nat) (hz : z.length = sz) (hsz : 0 < sz) (k : Nat) : ((Array.range (k * sz)).map (fun i => z.toArray[i % z.toArray.size]!)) = (repN k z).toArray := by
 apply Array.ext'
 simp only [Array.toList_map, Array.toList_range, List.size_toArray, hz]
 induction k with
 | zero => simp [repN]
 | succ k ih =>
  rw [repN, Nat.add_mul, Nat.one_mul, Nat.add_comm, List.range_add, List.map_append, List.map_map]
  congr 1
  ·apply List.ext_getElem
   ·simp [hz]
   ·intro i h1 h2
    simp only [List.length_map, List.length_range] at h1
    simp [Nat.mod_eq_of_lt h1, hz, h1]
  ·rw [← ih]
   apply List.map_congr_left
   intro i _
   simp
theorem r_buildSlice {T e : TypeId} {sz by0 : Nat} [hT : SlT P T e sz by0] {zs : List Value} [hZ : Zero P e zs] {len : Nat} {parts : Array (Nat × Operand)} {vs : List (Nat × Value)} {r : List Value} (hd : Nat.blt d n = true)
  (hx : evp L parts.toList = some vs) (hzl : zs.length = sz) (hsz : Nat.blt 0 sz = true) (hlen : Nat.ble (len * sz) 16777216 = true) (hr : fillB (fun i => some (i * sz, sz)) (repN len zs) vs = some r) (hrl : Nat.beq r.length (len * sz) = true)
  (k : ∀ b, Run E n ((d, .slice (some ⟨b, 0, none⟩) len len) :: L) g (.row e sz (.slice (some ⟨b, 0, none⟩) len len) len r :: own) (wpList P ops Q rest)) :
  Run E n L g own (wpList P ops Q (⟨some d, .buildSlice T len parts, ty, pos, after, none⟩ :: rest)) :=
 r_step fun a w hF hI => by
  have hlen' : len * sz ≤ 16777216 := Nat.le_of_ble_eq_true hlen
  have hsz' : 0 < sz := Nat.blt_eq.mp hsz
  have hrl' : r.length = len * sz := Nat.eq_of_beq_eq_true hrl
  have h1 : (sizeOf e).run P w = .ok sz w := by
   refine sizeOf_run ?_ w
   obtain ⟨i, hi, h2, _⟩ := infoSl hT
   simp [hi, h2]
  obtain ⟨z, hz1, hz2⟩ := zero_run hZ w
  have hparts : (parts.map fun p => (p.1, a.eval p.2)).toList = vs := by simpa using hF.evps hx
  have hfill := fill_spec (fun i => some (i * sz, sz)) vs (repN len zs) r hr
  have hrep := repN_spec zs sz hzl hsz' len
  have hexec : (execOp a.eval ⟨some d, .buildSlice T len parts, ty, pos, after, none⟩).run P w = .ok (.value (.slice (some ⟨w.heap.size, 0, none⟩) len len)) (w.alloc (.cells r.toArray e)) := by
   have hng : ¬ (len * sz > 2 ^ 24) := by omega
   by_cases h0 : len * sz = 0
   ·have hl0 : len = 0 := by
     rcases Nat.mul_eq_zero.1 h0 with h | h
     ·exact h
     ·omega
    have hz0 : ∀ f : Nat → Value, (Array.range (len * sz)).map f = (repN len zs).toArray := fun f => by simp [hl0, repN]
    simp only [execOp, Instr.buildSlice, Sem.run_bind, run_underlying hT.u, Result.andThen_ok, h1, hng, if_false, if_pos h0, Sem.run_pure, hz0, hparts, hfill, newRow, run_newObj]
    rfl
   ·simp only [execOp, Instr.buildSlice, Sem.run_bind, run_underlying hT.u, Result.andThen_ok, h1, hng, if_false, h0, hz1, Sem.run_pure, hz2, hrep, hparts, hfill, newRow, run_newObj]
    rfl
  unfold Oper.wp
  rw [hexec]
  refine k w.heap.size _ _ (hF.put hd _) ?_
  refine Inv.move (lent := []) (got := [.row e sz (.slice (some ⟨w.heap.size, 0, none⟩) len len) len r]) (kept := own) hI (by simp) rfl rfl rfl (fun b hb _ => Below.heap_alloc w _ b hb) (Ghost.le_refl g)
   (cov_keep hI.1 (lent := []) (by simp) (fun b hb _ => Below.heap_alloc w _ b hb)) (fun b o h => absurd rfl h) ?_ ?_ ?_ ?_
  ·intro q hq
   simp only [List.mem_singleton] at hq
   subst hq
   refine ⟨hrl', .inr ⟨w.heap.size, len, r.toArray, rfl, Nat.zero_le _, heap_alloc_new w _, Nat.le_refl _, ?_, by simp [hrl'], by simp [← hrl']⟩⟩
   have : len ≤ len * sz := Nat.le_mul_of_pos_right len hsz'
   unfold maxLen; omega
  ·simp [foots, Res.foot, Value.ownBlock]
  ·intro b hb o
   simp only [foots, Res.foot, Value.ownBlock, List.flatMap_cons, List.flatMap_nil, List.append_nil, Option.toList_some, List.mem_singleton] at hb
   subst hb
   exact cov_none hI.1.cov (Nat.le_refl _) o
  ·intro b hb
   simp only [foots, Res.foot, Value.ownBlock, List.flatMap_cons, List.flatMap_nil, List.append_nil, Option.toList_some, List.mem_singleton] at hb
   exact .inl (by omega)

/-! Checks, conversions. -/
theorem r_nilCheck0 {x : Operand} {b o : Nat} (hx : ev L x = some (ptr b o)) (k : Run E n L g own (wpList P ops Q rest)) :
  Run E n L g own (wpList P ops Q (⟨none, .nilCheck x, ty, pos, after, none⟩ :: rest)) :=
 r_step fun a w hF hI => by
  have h1 : (execOp a.eval ⟨none, .nilCheck x, ty, pos, after, none⟩).run P w = .ok (.value (ptr b o)) w := by simp [execOp, hF.eval hx]
  unfold Oper.wp
  rw [h1]
  exact k _ _ hF hI
theorem val_conv_str {x : Operand} {S T : TypeId} [hS : StrT P S] [hT : StrT P T] {p : List UInt8} (hx : ev L x = some (str p))
  : Val P E n L g own ty (.convert S T x) (str p) := fun a w dst pos after hF _ => by simp [execOp, hF.eval hx, convert, run_underlying hS.u, run_underlying hT.u]
theorem r_conv_str {x : Operand} {S T : TypeId} [hS : StrT P S] [hT : StrT P T] {p : List UInt8} (hd : Nat.blt d n = true) (hx : ev L x = some (str p))
  (k : Run E n ((d, str p) :: L) g own (wpList P ops Q rest)) :
  Run E n L g own (wpList P ops Q (⟨some d, .convert S T x, ty, pos, after, none⟩ :: rest)) := r_v hd (val_conv_str hx) k

/-! append, by what the source is. -/
theorem r_appendRow {x y : Operand} {T e e' : TypeId} {sz by0 : Nat} [hT : SlT P T e sz by0] {zs : List Value} [hZ : Zero P e zs] {v : Value} {m : Nat} {xs : List Value} {b m' c' : Nat} {news : List Value} (i j : Nat)
  (hd : Nat.blt d n = true) (hx : ev L x = some v) (hy : ev L y = some (.slice (some ⟨b, 0, none⟩) m' c')) (ho : own[i]? = some (.row e sz v m xs)) (hj : own[j]? = some (.row e' sz (.slice (some ⟨b, 0, none⟩) m' c') m' news))
  (hzl : Nat.beq zs.length sz = true) (hsz : Nat.blt 0 sz = true) (h1 : allOne news = true) (hb1 : m + m' ≤ maxLen) (hb2 : (m + m') * by0 ≤ 140737488355328)
  (k : ∀ v', (v' = .slice none 0 0 ↔ v = .slice none 0 0 ∧ m' = 0) → Run E n ((d, v') :: L) g (own.set i (.row e sz v' (m + m') (xs ++ news))) (wpList P ops Q rest)) :
  Run E n L g own (wpList P ops Q (⟨some d, .call ⟨.builtin .append, #[x, y], #[T, T]⟩, ty, pos, after, none⟩ :: rest)) := fun a w hF hI => by
 have hs : w.ownsRow 0 e' sz (.slice (some ⟨b, 0, none⟩) m' c') m' news := sat_at hI hj
 exact r_append i hd hx hy ho (Nat.eq_of_beq_eq_true hzl) (Nat.blt_eq.mp hsz) hs.1 (.inr ⟨_, _, rfl, rd_row' j hj (fun j x hx => by simpa using hx)⟩) (fun u hu => by
  have := allOne_spec h1 u hu
  cases u <;> simp_all [oneC, Value.oneCell']) hb1 hb2 k a w hF hI
end
end Go.Eng
-- sum 3761bdc893b715fe

/- The walking engine, fourth part: functions of the library that the model stands in for. -/
namespace Go.Eng
open Go Go.RowKit

def intFld (P : Program) (f : Field) (o : Nat) : Bool := f.name != "_" && f.offset == o && match P.underlying f.type with
 | some (.int _) => true
 | _ => false
def pairB (P : Program) (T : TypeId) : Bool := match P.underlying T with
 | some (.struct ⟨[f1, f2]⟩) => intFld P f1 0 && intFld P f2 1 && !P.stoodInHeld T && !P.eqGuardType P.depth T
 | _ => false
class Pair (P : Program) (T : TypeId) : Prop where
 h : pairB P T = true
theorem eq_int {P : Program} {f : Field} {o : Nat} (h : intFld P f o = true) (d : Nat) {xs ys : Array Value} {a b : Int} (hx : xs[o]? = some (.int .i64 a)) (hy : ys[o]? = some (.int .i64 b)) (w : World) :
  f.name ≠ "_" ∧ (part f.type xs f.offset).run P w = .ok (.int .i64 a) w ∧ (part f.type ys f.offset).run P w = .ok (.int .i64 b) w ∧ (Op.equalIn (d + 1) f.type (.int .i64 a) (.int .i64 b)).run P w = .ok (decide (a = b)) w := by
 unfold intFld at h
 simp only [Bool.and_eq_true, bne_iff_ne, ne_eq, beq_iff_eq] at h
 obtain ⟨⟨h1, h2⟩, h3⟩ := h
 subst h2
 split at h3
 ·rename_i k hk
  refine ⟨h1, ?_, ?_, ?_⟩
  ·simp [part, isAgg, run_underlying hk, hx]
  ·simp [part, isAgg, run_underlying hk, hy]
  ·simp only [Op.equalIn, Sem.run_bind, run_underlying hk, Result.andThen_ok, if_true]
   rfl
 ·cases h3
theorem eq_pair {P : Program} {T : TypeId} (h : pairB P T = true) (a b c d : Int) (w : World) : (Op.equal T (.agg #[.int .i64 a, .int .i64 b]) (.agg #[.int .i64 c, .int .i64 d])).run P w = .ok (decide (a = c ∧ b = d)) w ∧ P.eqGuardType P.depth T = false := by
 unfold pairB at h
 split at h
 ·rename_i f1 f2 hu
  simp only [Bool.and_eq_true, Bool.not_eq_true'] at h
  obtain ⟨⟨⟨h1, h2⟩, h3⟩, h4⟩ := h
  refine ⟨?_, h4⟩
  obtain ⟨m, hm⟩ : ∃ m, Op.maxDepth = m + 1 + 1 := ⟨9998, rfl⟩
  obtain ⟨n1, p1, q1, e1⟩ := eq_int h1 m (xs := #[.int .i64 a, .int .i64 b]) (ys := #[.int .i64 c, .int .i64 d]) rfl rfl w
  obtain ⟨n2, p2, q2, e2⟩ := eq_int h2 m (xs := #[.int .i64 a, .int .i64 b]) (ys := #[.int .i64 c, .int .i64 d]) rfl rfl w
  unfold Op.equal
  rw [hm, Op.equalIn]
  simp only [ Sem.run_bind, run_underlying hu, Result.andThen_ok]
  have hp : (program).run P w = .ok P w := rfl
  simp only [hp, Result.andThen_ok, h3, Bool.false_eq_true, if_false]
  simp [n1, n2, p1, p2, q1, q2, e1, e2]
  by_cases hac : a = c <;> by_cases hbd : b = d <;> simp [hac, hbd]
 ·cases h
class Ext (P : Program) (f : FuncId) (e : outParam (Array Value → Sem Value)) : Prop where
 h : ∃ fn, P.funcs[f]? = some fn ∧ (fn.name == "runtime.NumGoroutine") = false ∧ fn.body.isNone = true ∧ Extern.findNext fn = none ∧ Extern.find fn = some e

section
variable {P : Program} {E : Env} {n : Nat} {L : Slots} {g : Ghost} {own : List Res} {Q : Exit → Act → World → Prop} {ops : Array Oper} {rest : List Oper}
variable {d : Nat} {ty : TypeId} {pos : String} {after : Array Edge}
theorem val_ext {f : FuncId} {e : Array Value → Sem Value} [hE : Ext P f e] {xs : Array Operand} {ts : Array TypeId} {vals : List Value} {v : Value} (hx : evs L xs.toList = some vals) (he : ∀ w, (e vals.toArray).run P w = .ok v w) :
  Val P E n L g own ty (.call ⟨.value (.func f), xs, ts⟩) v := fun a w dst pos after hF _ => by
 obtain ⟨fn, h1, h2, h3, h4, h5⟩ := hE.h
 have hargs : (xs.map a.eval) = vals.toArray := by
  have := hF.evals hx
  apply Array.ext'
  simpa using this
 have hc := run_callFunc_extern h1 h2 h3 h4 h5 vals.toArray w
 rw [he w] at hc
 simpa [execOp, resolve, Act.eval, Deferred.ofValue, invoke, hargs] using hc

theorem val_eql_pair {x y : Operand} {T T' : TypeId} [hT : Pair P T] {p q r s : Int} (hx : ev L x = some (.agg #[.int .i64 p, .int .i64 q])) (hy : ev L y = some (.agg #[.int .i64 r, .int .i64 s])) :
  Val P E n L g own ty (.binOp .eql T x y T') (.bool (decide (p = r ∧ q = s))) := fun a w dst pos after hF _ => by
 obtain ⟨h1, h2⟩ := eq_pair hT.h p q r s w
 have hp : (program).run P w = .ok P w := rfl
 simp [execOp, hF.eval hx, hF.eval hy, eqGuard, binOp, hp, h2, h1]

def idxByte (c : UInt8) : List UInt8 → Int
 | [] => -1
 | x :: r => if x = c then 0 else if idxByte c r < 0 then -1 else idxByte c r + 1
theorem idxByte_cases (c : UInt8) : ∀ s : List UInt8, (idxByte c s = -1 ∧ ∀ x ∈ s, x ≠ c) ∨ (0 ≤ idxByte c s ∧ idxByte c s < s.length)
 | [] => .inl ⟨rfl, by simp⟩
 | x :: r => by
  simp only [idxByte]
  by_cases hx : x = c
  ·simp [hx]
  ·rw [if_neg hx]
   rcases idxByte_cases c r with ⟨h1, h2⟩ | ⟨h1, h2⟩
   ·exact .inl ⟨by rw [h1]; rfl, by intro y hy; rcases List.mem_cons.1 hy with rfl | hy; exact hx; exact h2 y hy⟩
   ·rw [if_neg (by omega)]
    exact .inr ⟨by omega, by simp; omega⟩
theorem idxByte_find (c : UInt8) (s : List UInt8) : ∀ (r : List UInt8) (k : Nat), s.drop k = r →
  (List.range' k r.length).find? (fun i => (⟨⟨s⟩⟩ : ByteArray)[i]! == c) = if idxByte c r < 0 then none else some (k + (idxByte c r).toNat) := by
 intro r
 induction r with
 | nil => intro k _; rfl
 | cons x r ih =>
  intro k hk
  have hlt : k < s.length := by
   rcases Nat.lt_or_ge k s.length with h | h
   ·exact h
   ·rw [List.drop_eq_nil_of_le h] at hk; cases hk
  have h0 : s[k] = x ∧ s.drop (k + 1) = r := by
   have := List.drop_eq_getElem_cons hlt
   rw [hk] at this
   simp only [List.cons.injEq] at this
   exact ⟨this.1.symm, this.2.symm⟩
  have hb : (⟨⟨s⟩⟩ : ByteArray)[k]! = x := by
   rw [← h0.1]
   have hsz : k < (⟨⟨s⟩⟩ : ByteArray).size := hlt
   rw [getElem!_pos _ k hsz]
   rfl
  rw [List.length_cons, List.range'_succ, List.find?_cons, hb, ih (k + 1) h0.2]
  by_cases hx : x = c
  ·have e : idxByte c (x :: r) = 0 := by simp [idxByte, hx]
   rw [e]; simp [hx]
  ·have hbe : (x == c) = false := by simpa using hx
   rw [hbe]
   rcases idxByte_cases c r with ⟨h1, _⟩ | ⟨h1, _⟩
   ·have e : idxByte c (x :: r) = -1 := by simp [idxByte, hx, h1]
    rw [e, h1]; rfl
   ·have e : idxByte c (x :: r) = idxByte c r + 1 := by simp only [idxByte]; rw [if_neg hx, if_neg (by omega)]
    rw [e, if_neg (by omega), if_neg (by omega)]
    simp only [Option.some.injEq]
    omega
theorem idx_run (s : List UInt8) (c : UInt8) (w : World) : (Extern.BytealgIndexByte.indexByte #[str s, .int .u8 c.toNat]).run P w = .ok (.int .i64 (idxByte c s)) w := by
 have hf := idxByte_find c s s 0 rfl
 rw [← List.range_eq_range'] at hf
 have hb : (Extern.Bytes.bytesOf (str s)).run P w = .ok ⟨⟨s⟩⟩ w := by simp [Extern.Bytes.bytesOf]
 have hc : (Extern.Bytes.asByte (.int .u8 c.toNat)).run P w = .ok c w := by simp [Extern.Bytes.asByte]
 show Sem.run P (do
  let b ← Extern.Bytes.bytesOf (str s)
  let c ← Extern.Bytes.asByte (.int .u8 c.toNat)
  match (List.range b.size).find? fun i => b[i]! == c with
  | some i => pure (goInt i)
  | none => pure (goInt (-1))) w = _
 simp only [Sem.run_bind, hb, hc, Result.andThen_ok]
 have hsz : (⟨⟨s⟩⟩ : ByteArray).size = s.length := rfl
 rw [hsz, hf]
 rcases idxByte_cases c s with ⟨h1, _⟩ | ⟨h1, _⟩
 ·rw [h1]; rfl
 ·rw [if_neg (by omega)]
  simp [goInt]
  omega
theorem pure_of_below {f : FuncId} {vals : List Value} {v : Value} (h : ∀ w, Holds g [] w → Calls P f vals.toArray w fun e w' => e = .returned v ∧ Below w.heap.size w w') : Pure P f vals g v := fun w hH =>
 (h w hH).mono fun e w' ⟨he, hb⟩ => ⟨v, g, [], he, ⟨rfl, rfl, rfl⟩,
  Inv.move (lent := []) (got := []) (kept := []) (Inv.start hH) hb.size hb.tape hb.os hb.output (fun b hlt _ => hb.block b hlt) (Ghost.le_refl g)
   (cov_keep (lent := []) hH (by simp) (fun b hlt _ => hb.block b hlt)) (fun _ _ h => absurd rfl h) (by simp) (by simp [foots]) (by simp [foots]) (by simp [foots])⟩
theorem r_shrink {X : Act → World → Prop} {g' : Ghost} (hE : E.g0 = g) (hle : Ghost.le g g') (h : Run E n L g own X) : Run E n L g' own X := fun a w hF hI => by
 subst hE
 refine h a w hF ⟨⟨fun b o v hv => hI.1.cov b o v (hle b o v hv), hI.1.sat, hI.1.dis, fun b hb o => ?_⟩, ⟨hI.2.size, hI.2.kept, hI.2.tape, hI.2.os, hI.2.output, Ghost.le_refl _, fun b o hne => absurd rfl hne, hI.2.ofoot⟩⟩
 have h0 := hI.1.gn b hb o
 cases hv : E.g0 b o with
 | none => rfl
 | some v => rw [hle b o v hv] at h0; cases h0
theorem SlAt.le {size m : Nat} {v : Value} {xs : List Value} (h : SlAt g size v m xs) : m ≤ 9223372036854775807 := by
 rcases h.2 with ⟨_, h0⟩ | ⟨b, off, cap, _, h1, h2, _⟩
 ·omega
 ·unfold maxLen at h2; omega
theorem SlAt.held {size m : Nat} {v : Value} {xs : List Value} {j : Nat} (h : SlAt g size v m xs) (hj : j < m) : ∃ b off cap, v = .slice (some ⟨b, off, none⟩) m cap ∧ ∀ k x, xs[k]? = some x → g b (off + k) = some x := by
 rcases h.2 with ⟨_, h0⟩ | ⟨b, off, cap, hv, _, _, hx⟩
 ·omega
 ·exact ⟨b, off, cap, hv, hx⟩
theorem val_len_at {x : Operand} {T e : TypeId} {k0 by0 size m : Nat} {v : Value} {xs : List Value} [hT : SlT P T e k0 by0] (hx : ev L x = some v) (hs : SlAt g size v m xs) : Val P E n L g own ty (.call ⟨.builtin .len, #[x], #[T]⟩) (.int .i64 m) := by
 rcases hs.2 with ⟨⟨a, c, hv⟩, h0⟩ | ⟨b, off, cap, hv, _⟩
 ·subst hv; subst h0; exact val_len_sl hx
 ·subst hv; exact val_len_sl hx
theorem r_len_at {x : Operand} {T e : TypeId} {k0 by0 size m : Nat} {v : Value} {xs : List Value} [hT : SlT P T e k0 by0] (hd : Nat.blt d n = true) (hx : ev L x = some v) (hs : SlAt g size v m xs) (k : Run E n ((d, .int .i64 m) :: L) g own (wpList P ops Q rest)) :
  Run E n L g own (wpList P ops Q (⟨some d, .call ⟨.builtin .len, #[x], #[T]⟩, ty, pos, after, none⟩ :: rest)) := r_v hd (val_len_at hx hs) k
theorem SlAt.cell {α : Type} {f : α → List Value} {size : Nat} (hf : ∀ x, (f x).length = size) {l : List α} {b off : Nat} (h : ∀ k x, (l.flatMap f)[k]? = some x → g b (off + k) = some x) {i : Nat} (hi : i < l.length) (j : Nat) {v : Value} (hv : (f l[i])[j]? = some v) :
  Rd g own b (off + i * size + j) [v] := by
 refine rd_g1 ?_
 have hj : j < size := by rw [← hf l[i]]; exact (List.getElem?_eq_some_iff.1 hv).1
 rw [Nat.add_assoc]
 refine h _ _ ?_
 rw [flat_get f size hf l i j hj, List.getElem?_eq_getElem hi]
 exact hv
end
end Go.Eng
-- sum 5211c320bbcf8a83

/- The walking engine, fifth part: make, bytes to strings, stores into rows of one's own, compared bools. -/
namespace Go.Eng
open Go Go.RowKit
section
variable {P : Program} {E : Env} {n : Nat} {L : Slots} {g : Ghost} {own : List Res} {Q : Exit → Act → World → Prop} {ops : Array Oper} {rest : List Oper}
variable {d : Nat} {ty : TypeId} {pos : String} {after : Array Edge}
theorem rd_elem {α : Type} {f : α → List Value} {size : Nat} (hf : ∀ x, (f x).length = size) {l : List α} {b off : Nat} (h : ∀ k x, (l.flatMap f)[k]? = some x → g b (off + k) = some x) {i : Nat} (hi : i < l.length) : Rd g own b (off + i * size) (f l[i]) := by
 refine rd_g (fun j x hx => ?_)
 have hj : j < size := by rw [← hf l[i]]; exact (List.getElem?_eq_some_iff.1 hx).1
 rw [Nat.add_assoc]
 refine h _ _ ?_
 rw [flat_get f size hf l i j hj, List.getElem?_eq_getElem hi]
 exact hx
end
end Go.Eng
-- sum 847e5a4f1aa89f01

/- The walking engine, sixth part: calls that borrow one resource and give it back as it was. -/
namespace Go.Eng
open Go Go.RowKit
section
variable {P : Program} {E : Env} {n : Nat} {L : Slots} {g : Ghost} {own : List Res} {Q : Exit → Act → World → Prop} {ops : Array Oper} {rest : List Oper}
variable {d : Nat} {ty : TypeId} {pos : String} {after : Array Edge}
def PureO (P : Program) (f : FuncId) (args : List Value) (g : Ghost) (r : Res) (v : Value) : Prop := Spec P f args g [r] fun v' g' own' => v' = v ∧ g' = g ∧ own' = [r]
theorem perm_at {own : List Res} {i : Nat} {r : Res} (h : own[i]? = some r) : own.Perm ([r] ++ own.eraseIdx i) := by
 obtain ⟨hi, he⟩ := List.getElem?_eq_some_iff.1 h
 have h1 : own = own.take i ++ r :: own.drop (i + 1) := by
  rw [← he]
  exact (List.take_append_drop i own).symm.trans (by rw [List.drop_eq_getElem_cons hi])
 have h2 : own.eraseIdx i = own.take i ++ own.drop (i + 1) := List.eraseIdx_eq_take_drop_succ own i
 rw [h2]
 conv => lhs; rw [h1]
 exact List.perm_middle
theorem r_callO {f : FuncId} {xs : Array Operand} {ts : Array TypeId} {vals : List Value} {r : Res} [hB : Body P f] {v : Value} (i : Nat) (hd : Nat.blt d n = true) (hx : evs L xs.toList = some vals) (ho : own[i]? = some r)
  (hs : PureO P f vals g r v) (k : Run E n ((d, v) :: L) g own (wpList P ops Q rest)) :
  Run E n L g own (wpList P ops Q (⟨some d, .call ⟨.value (.func f), xs, ts⟩, ty, pos, after, none⟩ :: rest)) :=
 r_call' (lent := [r]) hd hx (perm_at ho) hs fun _ _ _ ⟨h1, h2, h3⟩ _ => by
  subst h1; subst h2; subst h3
  exact r_perm (perm_at ho).symm k
theorem q_callO {f : FuncId} {xs : Array Operand} {ts : Array TypeId} {vals : List Value} {r : Res} [hB : Body P f] {v : Value} {K : Act → Prop} (i : Nat) (hd : Nat.blt d n = true) (hx : evs L xs.toList = some vals) (ho : own[i]? = some r)
  (hs : PureO P f vals g r v) (k : Run E n ((d, v) :: L) g own (Wq P ops (Inv E g own) K rest)) :
  Run E n L g own (Wq P ops (Inv E g own) K (⟨some d, .call ⟨.value (.func f), xs, ts⟩, ty, pos, after, none⟩ :: rest)) := fun a w hF hI => by
 have hb := hB.h
 unfold bodyB at hb
 split at hb
 ·rename_i fn hfn
  simp only [Bool.and_eq_true, Bool.not_eq_true', beq_eq_false_iff_ne, ne_eq] at hb
  have hargs : (xs.map a.eval) = vals.toArray := by
   have := hF.evals hx
   apply Array.ext'
   simpa using this
  have hbn : fn.body ≠ none := fun h => by simp [h] at hb
  have h1 : ∀ w', (execOp a.eval ⟨some d, .call ⟨.value (.func f), xs, ts⟩, ty, pos, after, none⟩).run P w' = .ok (.enter f vals.toArray) w' := fun w' => by
   simp [execOp, resolve, Act.eval, Deferred.ofValue, invoke, callFunc, hfn, hb.2, hbn, hargs]
  unfold Wq wpQuiet
  simp only [Region.wanted, if_true]
  refine ⟨v, fun w' hI' => ?_, k _ w (hF.put hd v) hI⟩
  unfold Oper.quietAt
  rw [h1 w']
  refine ⟨rfl, ?_⟩
  have hI2 : Inv E g ([r] ++ own.eraseIdx i) w' := hI'.perm (perm_at ho)
  have hH : Holds g [r] w' := (hI2.drop (List.sublist_append_left _ _)).1
  refine (hs w' hH).mono ?_
  rintro e w'' ⟨v', g', own', rfl, ⟨rfl, rfl, rfl⟩, hH', hS'⟩
  refine ⟨rfl, ?_⟩
  exact (Inv.move hI2 hS'.size hS'.tape hS'.os hS'.output hS'.kept hS'.gle hH'.cov hS'.gnew hH'.sat hH'.dis hH'.gn hS'.ofoot).perm (perm_at ho).symm
 ·cases hb
end
end Go.Eng
-- sum 32815b1b1b6dc242


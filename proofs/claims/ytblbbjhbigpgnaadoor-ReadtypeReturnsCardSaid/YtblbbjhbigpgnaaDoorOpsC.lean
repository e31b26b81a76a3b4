/- The walking engine, fourth part: functions of the library that the model stands in for. -/
import Derived.Test.YtblbbjhbigpgnaaDoorOpsB
namespace Go.Eng
open Go Go.RowKit

/-- A struct of two integers. -/
def intFld (P : Program) (f : Field) (o : Nat) : Bool := f.name != "_" && f.offset == o && match P.underlying f.type with
  | some (.int _) => true
  | _ => false
def pairB (P : Program) (T : TypeId) : Bool := match P.underlying T with
  | some (.struct ⟨[f1, f2]⟩) => intFld P f1 0 && intFld P f2 1 && !P.stoodInHeld T && !P.eqGuardType P.depth T
  | _ => false
class Pair (P : Program) (T : TypeId) : Prop where
  h : pairB P T = true
theorem eq_int {P : Program} {f : Field} {o : Nat} (h : intFld P f o = true) (d : Nat) {xs ys : Array Value} {a b : Int} (hx : xs[o]? = some (.int .i64 a)) (hy : ys[o]? = some (.int .i64 b)) (w : World) :
    f.name ≠ "_" ∧ (part f.type xs f.offset).run P w = .ok (.int .i64 a) w ∧ (part f.type ys f.offset).run P w = .ok (.int .i64 b) w ∧ (Op.equalIn (d + 1) f.type (.int .i64 a) (.int .i64 b)).run P w = .ok (decide (a = b)) w := by
  unfold intFld at h
  simp only [Bool.and_eq_true, bne_iff_ne, ne_eq, beq_iff_eq] at h
  obtain ⟨⟨h1, h2⟩, h3⟩ := h
  subst h2
  split at h3
  · rename_i k hk
    refine ⟨h1, ?_, ?_, ?_⟩
    · simp [part, isAgg, run_underlying hk, hx]
    · simp [part, isAgg, run_underlying hk, hy]
    · simp only [Op.equalIn, Sem.run_bind, run_underlying hk, Result.andThen_ok, if_true]
      rfl
  · cases h3
theorem eq_pair {P : Program} {T : TypeId} (h : pairB P T = true) (a b c d : Int) (w : World) : (Op.equal T (.agg #[.int .i64 a, .int .i64 b]) (.agg #[.int .i64 c, .int .i64 d])).run P w = .ok (decide (a = c ∧ b = d)) w ∧ P.eqGuardType P.depth T = false := by
  unfold pairB at h
  split at h
  · rename_i f1 f2 hu
    simp only [Bool.and_eq_true, Bool.not_eq_true'] at h
    obtain ⟨⟨⟨h1, h2⟩, h3⟩, h4⟩ := h
    refine ⟨?_, h4⟩
    obtain ⟨m, hm⟩ : ∃ m, Op.maxDepth = m + 1 + 1 := ⟨9998, rfl⟩
    obtain ⟨n1, p1, q1, e1⟩ := eq_int h1 m (xs := #[.int .i64 a, .int .i64 b]) (ys := #[.int .i64 c, .int .i64 d]) rfl rfl w
    obtain ⟨n2, p2, q2, e2⟩ := eq_int h2 m (xs := #[.int .i64 a, .int .i64 b]) (ys := #[.int .i64 c, .int .i64 d]) rfl rfl w
    unfold Op.equal
    rw [hm, Op.equalIn]
    simp only [ Sem.run_bind, run_underlying hu, Result.andThen_ok]
    have hp : (program).run P w = .ok P w := rfl
    simp only [hp, Result.andThen_ok, h3, Bool.false_eq_true, if_false]
    simp [n1, n2, p1, p2, q1, q2, e1, e2]
    by_cases hac : a = c <;> by_cases hbd : b = d <;> simp [hac, hbd]
  · cases h
class Ext (P : Program) (f : FuncId) (e : outParam (Array Value → Sem Value)) : Prop where
  h : ∃ fn, P.funcs[f]? = some fn ∧ (fn.name == "runtime.NumGoroutine") = false ∧ fn.body.isNone = true ∧ Extern.findNext fn = none ∧ Extern.find fn = some e

section
variable {P : Program} {E : Env} {n : Nat} {L : Slots} {g : Ghost} {own : List Res} {Q : Exit → Act → World → Prop} {ops : Array Oper} {rest : List Oper}
variable {d : Nat} {ty : TypeId} {pos : String} {after : Array Edge}
theorem val_ext {f : FuncId} {e : Array Value → Sem Value} [hE : Ext P f e] {xs : Array Operand} {ts : Array TypeId} {vals : List Value} {v : Value} (hx : evs L xs.toList = some vals) (he : ∀ w, (e vals.toArray).run P w = .ok v w) :
    Val P E n L g own ty (.call ⟨.value (.func f), xs, ts⟩) v := fun a w dst pos after hF _ => by
  obtain ⟨fn, h1, h2, h3, h4, h5⟩ := hE.h
  have hargs : (xs.map a.eval) = vals.toArray := by
    have := hF.evals hx
    apply Array.ext'
    simpa using this
  have hc := run_callFunc_extern h1 h2 h3 h4 h5 vals.toArray w
  rw [he w] at hc
  simpa [execOp, resolve, Act.eval, Deferred.ofValue, invoke, hargs] using hc

theorem val_neq_pair {x y : Operand} {T T' : TypeId} [hT : Pair P T] {p q r s : Int} (hx : ev L x = some (.agg #[.int .i64 p, .int .i64 q])) (hy : ev L y = some (.agg #[.int .i64 r, .int .i64 s])) :
    Val P E n L g own ty (.binOp .neq T x y T') (.bool (decide (¬ (p = r ∧ q = s)))) := fun a w dst pos after hF _ => by
  obtain ⟨h1, h2⟩ := eq_pair hT.h p q r s w
  have hp : (program).run P w = .ok P w := rfl
  simp [execOp, hF.eval hx, hF.eval hy, eqGuard, binOp, hp, h2, h1]
theorem val_eql_pair {x y : Operand} {T T' : TypeId} [hT : Pair P T] {p q r s : Int} (hx : ev L x = some (.agg #[.int .i64 p, .int .i64 q])) (hy : ev L y = some (.agg #[.int .i64 r, .int .i64 s])) :
    Val P E n L g own ty (.binOp .eql T x y T') (.bool (decide (p = r ∧ q = s))) := fun a w dst pos after hF _ => by
  obtain ⟨h1, h2⟩ := eq_pair hT.h p q r s w
  have hp : (program).run P w = .ok P w := rfl
  simp [execOp, hF.eval hx, hF.eval hy, eqGuard, binOp, hp, h2, h1]

/-- The index of the first c, or -1. -/
def idxByte (c : UInt8) : List UInt8 → Int
  | [] => -1
  | x :: r => if x = c then 0 else if idxByte c r < 0 then -1 else idxByte c r + 1
theorem idxByte_cases (c : UInt8) : ∀ s : List UInt8, (idxByte c s = -1 ∧ ∀ x ∈ s, x ≠ c) ∨ (0 ≤ idxByte c s ∧ idxByte c s < s.length)
  | [] => .inl ⟨rfl, by simp⟩
  | x :: r => by
    simp only [idxByte]
    by_cases hx : x = c
    · simp [hx]
    · rw [if_neg hx]
      rcases idxByte_cases c r with ⟨h1, h2⟩ | ⟨h1, h2⟩
      · exact .inl ⟨by rw [h1]; rfl, by intro y hy; rcases List.mem_cons.1 hy with rfl | hy; exact hx; exact h2 y hy⟩
      · rw [if_neg (by omega)]
        exact .inr ⟨by omega, by simp; omega⟩
theorem find_range (p : Nat → Bool) : ∀ n k : Nat, ((List.range' k n).find? p) = match (List.range' k n).find? p with | some i => some i | none => none := by
  intro n k; cases (List.range' k n).find? p <;> rfl
theorem idxByte_find (c : UInt8) (s : List UInt8) : ∀ (r : List UInt8) (k : Nat), s.drop k = r →
    (List.range' k r.length).find? (fun i => (⟨⟨s⟩⟩ : ByteArray)[i]! == c) = if idxByte c r < 0 then none else some (k + (idxByte c r).toNat) := by
  intro r
  induction r with
  | nil => intro k _; rfl
  | cons x r ih =>
    intro k hk
    have hlt : k < s.length := by
      rcases Nat.lt_or_ge k s.length with h | h
      · exact h
      · rw [List.drop_eq_nil_of_le h] at hk; cases hk
    have h0 : s[k] = x ∧ s.drop (k + 1) = r := by
      have := List.drop_eq_getElem_cons hlt
      rw [hk] at this
      simp only [List.cons.injEq] at this
      exact ⟨this.1.symm, this.2.symm⟩
    have hb : (⟨⟨s⟩⟩ : ByteArray)[k]! = x := by
      rw [← h0.1]
      have hsz : k < (⟨⟨s⟩⟩ : ByteArray).size := hlt
      rw [getElem!_pos _ k hsz]
      rfl
    rw [List.length_cons, List.range'_succ, List.find?_cons, hb, ih (k + 1) h0.2]
    by_cases hx : x = c
    · have e : idxByte c (x :: r) = 0 := by simp [idxByte, hx]
      rw [e]; simp [hx]
    · have hbe : (x == c) = false := by simpa using hx
      rw [hbe]
      rcases idxByte_cases c r with ⟨h1, _⟩ | ⟨h1, _⟩
      · have e : idxByte c (x :: r) = -1 := by simp [idxByte, hx, h1]
        rw [e, h1]; rfl
      · have e : idxByte c (x :: r) = idxByte c r + 1 := by simp only [idxByte]; rw [if_neg hx, if_neg (by omega)]
        rw [e, if_neg (by omega), if_neg (by omega)]
        simp only [Option.some.injEq]
        omega
theorem idx_run (s : List UInt8) (c : UInt8) (w : World) : (Extern.BytealgIndexByte.indexByte #[str s, .int .u8 c.toNat]).run P w = .ok (.int .i64 (idxByte c s)) w := by
  have hf := idxByte_find c s s 0 rfl
  rw [← List.range_eq_range'] at hf
  have hb : (Extern.Bytes.bytesOf (str s)).run P w = .ok ⟨⟨s⟩⟩ w := by simp [Extern.Bytes.bytesOf]
  have hc : (Extern.Bytes.asByte (.int .u8 c.toNat)).run P w = .ok c w := by simp [Extern.Bytes.asByte]
  show Sem.run P (do
    let b ← Extern.Bytes.bytesOf (str s)
    let c ← Extern.Bytes.asByte (.int .u8 c.toNat)
    match (List.range b.size).find? fun i => b[i]! == c with
    | some i => pure (goInt i)
    | none => pure (goInt (-1))) w = _
  simp only [Sem.run_bind, hb, hc, Result.andThen_ok]
  have hsz : (⟨⟨s⟩⟩ : ByteArray).size = s.length := rfl
  rw [hsz, hf]
  rcases idxByte_cases c s with ⟨h1, _⟩ | ⟨h1, _⟩
  · rw [h1]; rfl
  · rw [if_neg (by omega)]
    simp [goInt]
    omega
/-- A contract over every world in which below the heap's end nothing turns. -/
theorem pure_of_below {f : FuncId} {vals : List Value} {v : Value} (h : ∀ w, Holds g [] w → Calls P f vals.toArray w fun e w' => e = .returned v ∧ Below w.heap.size w w') : Pure P f vals g v := fun w hH =>
  (h w hH).mono fun e w' ⟨he, hb⟩ => ⟨v, g, [], he, ⟨rfl, rfl, rfl⟩,
    Inv.move (lent := []) (got := []) (kept := []) (Inv.start hH) hb.size hb.tape hb.os hb.output (fun b hlt _ => hb.block b hlt) (Ghost.le_refl g)
      (cov_keep (lent := []) hH (by simp) (fun b hlt _ => hb.block b hlt)) (fun _ _ h => absurd rfl h) (by simp) (by simp [foots]) (by simp [foots]) (by simp [foots])⟩
/-- What was made known in between may be forgotten. -/
theorem r_shrink {X : Act → World → Prop} {g' : Ghost} (hE : E.g0 = g) (hle : Ghost.le g g') (h : Run E n L g own X) : Run E n L g' own X := fun a w hF hI => by
  subst hE
  refine h a w hF ⟨⟨fun b o v hv => hI.1.cov b o v (hle b o v hv), hI.1.sat, hI.1.dis, fun b hb o => ?_⟩, ⟨hI.2.size, hI.2.kept, hI.2.tape, hI.2.os, hI.2.output, Ghost.le_refl _, fun b o hne => absurd rfl hne, hI.2.ofoot⟩⟩
  have h0 := hI.1.gn b hb o
  cases hv : E.g0 b o with
  | none => rfl
  | some v => rw [hle b o v hv] at h0; cases h0
theorem SlAt.le {size m : Nat} {v : Value} {xs : List Value} (h : SlAt g size v m xs) : m ≤ 9223372036854775807 := by
  rcases h.2 with ⟨_, h0⟩ | ⟨b, off, cap, _, h1, h2, _⟩
  · omega
  · unfold maxLen at h2; omega
theorem SlAt.held {size m : Nat} {v : Value} {xs : List Value} {j : Nat} (h : SlAt g size v m xs) (hj : j < m) : ∃ b off cap, v = .slice (some ⟨b, off, none⟩) m cap ∧ ∀ k x, xs[k]? = some x → g b (off + k) = some x := by
  rcases h.2 with ⟨_, h0⟩ | ⟨b, off, cap, hv, _, _, hx⟩
  · omega
  · exact ⟨b, off, cap, hv, hx⟩
theorem val_len_at {x : Operand} {T e : TypeId} {k0 by0 size m : Nat} {v : Value} {xs : List Value} [hT : SlT P T e k0 by0] (hx : ev L x = some v) (hs : SlAt g size v m xs) : Val P E n L g own ty (.call ⟨.builtin .len, #[x], #[T]⟩) (.int .i64 m) := by
  rcases hs.2 with ⟨⟨a, c, hv⟩, h0⟩ | ⟨b, off, cap, hv, _⟩
  · subst hv; subst h0; exact val_len_sl hx
  · subst hv; exact val_len_sl hx
theorem r_len_at {x : Operand} {T e : TypeId} {k0 by0 size m : Nat} {v : Value} {xs : List Value} [hT : SlT P T e k0 by0] (hd : Nat.blt d n = true) (hx : ev L x = some v) (hs : SlAt g size v m xs) (k : Run E n ((d, .int .i64 m) :: L) g own (wpList P ops Q rest)) :
    Run E n L g own (wpList P ops Q (⟨some d, .call ⟨.builtin .len, #[x], #[T]⟩, ty, pos, after, none⟩ :: rest)) := r_v hd (val_len_at hx hs) k
/-- A cell of an element, out of the list's elements. -/
theorem SlAt.cell {α : Type} {f : α → List Value} {size : Nat} (hf : ∀ x, (f x).length = size) {l : List α} {b off : Nat} (h : ∀ k x, (l.flatMap f)[k]? = some x → g b (off + k) = some x) {i : Nat} (hi : i < l.length) (j : Nat) {v : Value} (hv : (f l[i])[j]? = some v) :
    Rd g own b (off + i * size + j) [v] := by
  refine rd_g1 ?_
  have hj : j < size := by rw [← hf l[i]]; exact (List.getElem?_eq_some_iff.1 hv).1
  rw [Nat.add_assoc]
  refine h _ _ ?_
  rw [flat_get f size hf l i j hj, List.getElem?_eq_getElem hi]
  exact hv
end
end Go.Eng
-- sum 5211c320bbcf8a83

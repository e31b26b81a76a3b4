/- The walking engine, tenth part: calls through interfaces, type assertions, stand-ins that read, make or write memory (what errors.As needs). -/
import Derived.Test.YtblbbjhbigpgnaaDoorOpsH
import Derived.Test.YtblbbjhbigpgnaaDoorOpsC
namespace Go.Eng
open Go Go.RowKit
section
variable {P : Program} {E : Env} {n : Nat} {L : Slots} {g : Ghost} {own : List Res} {Q : Exit → Act → World → Prop} {ops : Array Oper} {rest : List Oper}
variable {d : Nat} {ty : TypeId} {pos : String} {after : Array Edge}
theorem args_run {a : Act} (hF : Fr n L a) {xs : Array Operand} {vals : List Value} (hx : evs L xs.toList = some vals) : (xs.map a.eval) = vals.toArray := by
  have := hF.evals hx
  apply Array.ext'
  simpa using this
/-- A stand-in that reads. -/
theorem val_extI {f : FuncId} {e : Array Value → Sem Value} [hE : Ext P f e] {xs : Array Operand} {ts : Array TypeId} {vals : List Value} {v : Value} (hx : evs L xs.toList = some vals) (he : ∀ w, Inv E g own w → (e vals.toArray).run P w = .ok v w) :
    Val P E n L g own ty (.call ⟨.value (.func f), xs, ts⟩) v := fun a w dst pos after hF hI => by
  obtain ⟨fn, h1, h2, h3, h4, h5⟩ := hE.h
  have hargs := args_run hF hx
  have hc := run_callFunc_extern h1 h2 h3 h4 h5 vals.toArray w
  rw [he w hI] at hc
  simpa [execOp, resolve, Act.eval, Deferred.ofValue, invoke, hargs] using hc
/-- A stand-in that makes a block. -/
theorem r_extA {f : FuncId} {e : Array Value → Sem Value} [hE : Ext P f e] {xs : Array Operand} {ts : Array TypeId} {vals : List Value} {mk : Nat → Value} {T : TypeId} {cs : List Value} (hd : Nat.blt d n = true) (hx : evs L xs.toList = some vals)
    (he : ∀ w, (e vals.toArray).run P w = .ok (mk w.heap.size) (w.alloc (.cells cs.toArray T))) (k : ∀ b, Run E n ((d, mk b) :: L) g (.blk b T cs :: own) (wpList P ops Q rest)) :
    Run E n L g own (wpList P ops Q (⟨some d, .call ⟨.value (.func f), xs, ts⟩, ty, pos, after, none⟩ :: rest)) := r_step fun a w hF hI => by
  obtain ⟨fn, h1, h2, h3, h4, h5⟩ := hE.h
  have hargs := args_run hF hx
  have hc := run_callFunc_extern h1 h2 h3 h4 h5 vals.toArray w
  rw [he w] at hc
  have hr : (execOp a.eval ⟨some d, .call ⟨.value (.func f), xs, ts⟩, ty, pos, after, none⟩).run P w = .ok (.value (mk w.heap.size)) (w.alloc (.cells cs.toArray T)) := by
    simpa [execOp, resolve, Act.eval, Deferred.ofValue, invoke, hargs] using hc
  unfold Oper.wp
  rw [hr]
  exact k _ _ _ (hF.put hd _) (hI.alloc T cs)
/-- A stand-in that writes a block of one's own and yields nothing. -/
theorem r_extW {f : FuncId} {e : Array Value → Sem Value} [hE : Ext P f e] {xs : Array Operand} {ts : Array TypeId} {vals : List Value} {v : Value} {b : Nat} {T : TypeId} {cs cs' : List Value} (i : Nat) (hd : Nat.blt d n = true) (hx : evs L xs.toList = some vals) (ho : own[i]? = some (.blk b T cs))
    (he : ∀ w, Inv E g own w → (e vals.toArray).run P w = .ok v (w.setRow b cs'.toArray)) (k : Run E n ((d, v) :: L) g (own.set i (.blk b T cs')) (wpList P ops Q rest)) :
    Run E n L g own (wpList P ops Q (⟨some d, .call ⟨.value (.func f), xs, ts⟩, ty, pos, after, none⟩ :: rest)) := r_step fun a w hF hI => by
  obtain ⟨fn, h1, h2, h3, h4, h5⟩ := hE.h
  have hargs := args_run hF hx
  have hc := run_callFunc_extern h1 h2 h3 h4 h5 vals.toArray w
  rw [he w hI] at hc
  have hr : (execOp a.eval ⟨some d, .call ⟨.value (.func f), xs, ts⟩, ty, pos, after, none⟩).run P w = .ok (.value v) (w.setRow b cs'.toArray) := by
    simpa [execOp, resolve, Act.eval, Deferred.ofValue, invoke, hargs] using hc
  unfold Oper.wp
  rw [hr]
  exact k _ _ (hF.put hd v) (hI.setBlk ho cs')
/-- A method through an interface, that the model stands in for. -/
theorem val_invoke {x : Operand} {name : String} {f : FuncId} {e : Array Value → Sem Value} [hE : Ext P f e] {xs : Array Operand} {ts : Array TypeId} {vals : List Value} {T : TypeId} {u u' v : Value} (hx : ev L x = some (.iface T u)) (hxs : evs L xs.toList = some vals)
    (hm : ∀ w, (Go.method (P.types.size + Made.depth) T u name).run P w = .ok (f, u') w) (he : ∀ w, (e (u' :: vals).toArray).run P w = .ok v w) :
    Val P E n L g own ty (.call ⟨.invoke x name, xs, ts⟩) v := fun a w dst pos after hF _ => by
  obtain ⟨fn, h1, h2, h3, h4, h5⟩ := hE.h
  have hargs := args_run hF hxs
  have hc := run_callFunc_extern h1 h2 h3 h4 h5 (u' :: vals).toArray w
  rw [he w] at hc
  have hp : (program).run P w = .ok P w := rfl
  have hcm : (callMethod (.iface T u) name vals.toArray).run P w = .ok (.value v) w := by
    unfold callMethod
    simp only [Sem.run_bind, hp, Result.andThen_ok, hm w]
    simpa using hc
  simp [execOp, resolve, invoke, hF.eval hx, hargs, hcm]
/-- A method through an interface, that has a body. -/
theorem r_invokeP {x : Operand} {name : String} {f : FuncId} {xs : Array Operand} {ts : Array TypeId} {vals : List Value} {T : TypeId} {u u' v : Value} [hB : Body P f] (hd : Nat.blt d n = true) (hx : ev L x = some (.iface T u)) (hxs : evs L xs.toList = some vals)
    (hm : ∀ w, (Go.method (P.types.size + Made.depth) T u name).run P w = .ok (f, u') w) (hs : Pure P f (u' :: vals) g v) (k : Run E n ((d, v) :: L) g own (wpList P ops Q rest)) :
    Run E n L g own (wpList P ops Q (⟨some d, .call ⟨.invoke x name, xs, ts⟩, ty, pos, after, none⟩ :: rest)) := r_step fun a w hF hI => by
  have hb := hB.h
  unfold bodyB at hb
  split at hb
  · rename_i fn hfn
    simp only [Bool.and_eq_true, Bool.not_eq_true', beq_eq_false_iff_ne, ne_eq] at hb
    have hargs := args_run hF hxs
    have hbn : fn.body ≠ none := fun h => by simp [h] at hb
    have hp : (program).run P w = .ok P w := rfl
    have hcm : (callMethod (.iface T u) name vals.toArray).run P w = .ok (.enter f (u' :: vals).toArray) w := by
      unfold callMethod
      simp only [Sem.run_bind, hp, Result.andThen_ok, hm w]
      simp [callFunc, hp, hfn, hb.2, hbn]
    have h1 : (execOp a.eval ⟨some d, .call ⟨.invoke x name, xs, ts⟩, ty, pos, after, none⟩).run P w = .ok (.enter f (u' :: vals).toArray) w := by
      simp [execOp, resolve, invoke, hF.eval hx, hargs, hcm]
    unfold Oper.wp
    rw [h1]
    have hI' : Inv E g ([] ++ own) w := hI
    have hH : Holds g [] w := (hI'.drop (List.sublist_append_left _ _)).1
    refine (hs w hH).mono ?_
    rintro e w' ⟨v', g', own', rfl, ⟨rfl, rfl, rfl⟩, hH', hS'⟩
    refine k _ _ (hF.put hd _) ?_
    exact Inv.move hI' hS'.size hS'.tape hS'.os hS'.output hS'.kept hS'.gle hH'.cov hS'.gnew hH'.sat hH'.dis hH'.gn hS'.ofoot
  · cases hb
theorem val_tassert {x : Operand} {X T : TypeId} {u v : Value} (hx : ev L x = some u) (h : ∀ w, (Instr.typeAssert u X T true).run P w = .ok v w) : Val P E n L g own ty (.typeAssert x X T true) v := fun a w dst pos after hF _ => by
  simp [execOp, hF.eval hx, h w]
theorem blk_cell {w : World} {i b o : Nat} {T : TypeId} {cs : List Value} {v : Value} (hI : Inv E g own w) (h : own[i]? = some (.blk b T cs)) (hv : cs[o]? = some v) : w.cell? ⟨b, o, none⟩ = some v := by
  have hs : w.heap[b]? = some (.cells cs.toArray T (0, 0)) := sat_at hI h
  simp [World.cell?, hs, hv]
end
end Go.Eng
-- sum 5c37b61a6227fa84

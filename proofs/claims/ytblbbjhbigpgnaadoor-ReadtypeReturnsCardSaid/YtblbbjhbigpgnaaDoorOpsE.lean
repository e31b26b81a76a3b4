/- The walking engine, sixth part: calls that borrow one resource and give it back as it was. -/
import Derived.Test.YtblbbjhbigpgnaaDoorOpsD
namespace Go.Eng
open Go Go.RowKit
section
variable {P : Program} {E : Env} {n : Nat} {L : Slots} {g : Ghost} {own : List Res} {Q : Exit → Act → World → Prop} {ops : Array Oper} {rest : List Oper}
variable {d : Nat} {ty : TypeId} {pos : String} {after : Array Edge}
/-- A function that hands back one value, borrows r and leaves all as it was. -/
def PureO (P : Program) (f : FuncId) (args : List Value) (g : Ghost) (r : Res) (v : Value) : Prop := Spec P f args g [r] fun v' g' own' => v' = v ∧ g' = g ∧ own' = [r]
theorem perm_at {own : List Res} {i : Nat} {r : Res} (h : own[i]? = some r) : own.Perm ([r] ++ own.eraseIdx i) := by
  obtain ⟨hi, he⟩ := List.getElem?_eq_some_iff.1 h
  have h1 : own = own.take i ++ r :: own.drop (i + 1) := by
    rw [← he]
    exact (List.take_append_drop i own).symm.trans (by rw [List.drop_eq_getElem_cons hi])
  have h2 : own.eraseIdx i = own.take i ++ own.drop (i + 1) := List.eraseIdx_eq_take_drop_succ own i
  rw [h2]
  conv => lhs; rw [h1]
  exact List.perm_middle
theorem r_callO {f : FuncId} {xs : Array Operand} {ts : Array TypeId} {vals : List Value} {r : Res} [hB : Body P f] {v : Value} (i : Nat) (hd : Nat.blt d n = true) (hx : evs L xs.toList = some vals) (ho : own[i]? = some r)
    (hs : PureO P f vals g r v) (k : Run E n ((d, v) :: L) g own (wpList P ops Q rest)) :
    Run E n L g own (wpList P ops Q (⟨some d, .call ⟨.value (.func f), xs, ts⟩, ty, pos, after, none⟩ :: rest)) :=
  r_call' (lent := [r]) hd hx (perm_at ho) hs fun _ _ _ ⟨h1, h2, h3⟩ _ => by
    subst h1; subst h2; subst h3
    exact r_perm (perm_at ho).symm k
theorem q_callO {f : FuncId} {xs : Array Operand} {ts : Array TypeId} {vals : List Value} {r : Res} [hB : Body P f] {v : Value} {K : Act → Prop} (i : Nat) (hd : Nat.blt d n = true) (hx : evs L xs.toList = some vals) (ho : own[i]? = some r)
    (hs : PureO P f vals g r v) (k : Run E n ((d, v) :: L) g own (Wq P ops (Inv E g own) K rest)) :
    Run E n L g own (Wq P ops (Inv E g own) K (⟨some d, .call ⟨.value (.func f), xs, ts⟩, ty, pos, after, none⟩ :: rest)) := fun a w hF hI => by
  have hb := hB.h
  unfold bodyB at hb
  split at hb
  · rename_i fn hfn
    simp only [Bool.and_eq_true, Bool.not_eq_true', beq_eq_false_iff_ne, ne_eq] at hb
    have hargs : (xs.map a.eval) = vals.toArray := by
      have := hF.evals hx
      apply Array.ext'
      simpa using this
    have hbn : fn.body ≠ none := fun h => by simp [h] at hb
    have h1 : ∀ w', (execOp a.eval ⟨some d, .call ⟨.value (.func f), xs, ts⟩, ty, pos, after, none⟩).run P w' = .ok (.enter f vals.toArray) w' := fun w' => by
      simp [execOp, resolve, Act.eval, Deferred.ofValue, invoke, callFunc, hfn, hb.2, hbn, hargs]
    unfold Wq wpQuiet
    simp only [Region.wanted, if_true]
    refine ⟨v, fun w' hI' => ?_, k _ w (hF.put hd v) hI⟩
    unfold Oper.quietAt
    rw [h1 w']
    refine ⟨rfl, ?_⟩
    have hI2 : Inv E g ([r] ++ own.eraseIdx i) w' := hI'.perm (perm_at ho)
    have hH : Holds g [r] w' := (hI2.drop (List.sublist_append_left _ _)).1
    refine (hs w' hH).mono ?_
    rintro e w'' ⟨v', g', own', rfl, ⟨rfl, rfl, rfl⟩, hH', hS'⟩
    refine ⟨rfl, ?_⟩
    exact (Inv.move hI2 hS'.size hS'.tape hS'.os hS'.output hS'.kept hS'.gle hH'.cov hS'.gnew hH'.sat hH'.dis hH'.gn hS'.ofoot).perm (perm_at ho).symm
  · cases hb
/-- A contract over every world in which below the heap's end nothing turns, where one block is known whole. -/
theorem pureO_of_below {f : FuncId} {vals : List Value} {v : Value} {b : Nat} {o : Obj} (h : ∀ w, w.heap[b]? = some o → Calls P f vals.toArray w fun e w' => e = .returned v ∧ Below w.heap.size w w') :
    PureO P f vals g (.obj b o) v := fun w hH => by
  have hb : w.heap[b]? = some o := hH.sat (.obj b o) (by simp)
  refine (h w hb).mono fun e w' ⟨he, hb'⟩ => ⟨v, g, [.obj b o], he, ⟨rfl, rfl, rfl⟩, ?_⟩
  have hlt : b < w.heap.size := (Array.getElem?_eq_some_iff.1 hb).1
  have hI := Inv.start hH
  have hsat : ∀ r ∈ [Res.obj b o], r.sat w' := by
    intro r hr
    rw [List.mem_singleton] at hr
    subst hr
    show w'.heap[b]? = _
    rw [hb'.block b hlt]; exact hb
  exact Inv.move (lent := [.obj b o]) (got := [.obj b o]) (kept := []) hI hb'.size hb'.tape hb'.os hb'.output (fun c hc _ => hb'.block c hc) (Ghost.le_refl g)
    (cov_keep (lent := []) hH (by simp) (fun c hc _ => hb'.block c hc)) (fun _ _ h => absurd rfl h) hsat hH.dis hH.gn (fun c hc => .inr hc)
end
end Go.Eng
-- sum 32815b1b1b6dc242

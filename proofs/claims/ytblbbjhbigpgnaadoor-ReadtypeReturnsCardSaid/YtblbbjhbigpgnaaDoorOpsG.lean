/- The walking engine, eighth part: slices compared with nil, append of nothing. -/
import Derived.Test.YtblbbjhbigpgnaaDoorOpsF
import Derived.WalkSpells
import Derived.Lib.LazyBuf
import Derived.StillTail
namespace Go.Eng
open Go Go.RowKit
section
variable {P : Program} {E : Env} {n : Nat} {L : Slots} {g : Ghost} {own : List Res} {Q : Exit → Act → World → Prop} {ops : Array Oper} {rest : List Oper}
variable {d : Nat} {ty : TypeId} {pos : String} {after : Array Edge}
theorem val_eql_slnil {x y : Operand} {T T' e : TypeId} {k0 by0 : Nat} [hT : SlT P T e k0 by0] {a : Option Addr} {m c : Nat} (hx : ev L x = some (.slice a m c)) (hy : ev L y = some (.slice none 0 0)) :
    Val P E n L g own ty (.binOp .eql T x y T') (.bool a.isNone) := fun aa w dst pos after hF _ => by
  have h := Lib.run_eql_slice_nil (P := P) w T e a m c 0 0 hT.u
  simp [execOp, hF.eval hx, hF.eval hy, eqGuard, h]
theorem r_append0 {x y : Operand} {T e : TypeId} {sz by0 : Nat} [hT : SlT P T e sz by0] {v : Value} {m c' : Nat} {xs : List Value} {base : Option Addr} (i : Nat)
    (hd : Nat.blt d n = true) (hx : ev L x = some v) (hy : ev L y = some (.slice base 0 c')) (ho : own[i]? = some (.row e sz v m xs))
    (k : Run E n ((d, v) :: L) g own (wpList P ops Q rest)) :
    Run E n L g own (wpList P ops Q (⟨some d, .call ⟨.builtin .append, #[x, y], #[T, T]⟩, ty, pos, after, none⟩ :: rest)) :=
  r_step fun a w hF hI => by
    obtain ⟨inf, hi, hisz, hiby⟩ := infoSl hT
    have hown : w.ownsRow 0 e sz v m xs := sat_at hI ho
    have hrun : (Builtin.append_ #[T, T] ty #[v, .slice base 0 c']).run P w = .ok v w := by
      obtain ⟨hxl, hown⟩ := hown
      rcases hown with ⟨rfl, rfl⟩ | ⟨gb, cap, cur, rfl, _, hg, hnc, hcm, hcs, _⟩
      · cases base <;> simp [Builtin.append_, run_underlying hT.u, sizeOf, typeInfo, hi, Builtin.lenOf, Builtin.firstCells, loadCells, loadCellsFrom]
      · cases base <;> simp [Builtin.append_, run_underlying hT.u, sizeOf, typeInfo, hi, Builtin.lenOf, Builtin.firstCells, loadCells, loadCellsFrom, hnc, storeCells]
    have hr : (execOp a.eval ⟨some d, .call ⟨.builtin .append, #[x, y], #[T, T]⟩, ty, pos, after, none⟩).run P w = .ok (.value v) w := by
      simp [execOp, resolve, invoke, builtin, hF.eval hx, hF.eval hy, hrun]
    unfold Oper.wp
    rw [hr]
    exact k _ _ (hF.put hd v) hI
/-- append of what is known to a row of one's own, whatever its length. -/
theorem r_appendAt {x y : Operand} {T e : TypeId} {sz by0 : Nat} [hT : SlT P T e sz by0] {zs : List Value} [hZ : Zero P e zs] {v : Value} {m : Nat} {xs : List Value} {u : Value} {m' : Nat} {news : List Value} (i : Nat)
    (hd : Nat.blt d n = true) (hx : ev L x = some v) (hy : ev L y = some u) (ho : own[i]? = some (.row e sz v m xs)) (hu : SlAt g sz u m' news)
    (hzl : Nat.beq zs.length sz = true) (hsz : Nat.blt 0 sz = true) (h1 : ∀ u ∈ news, oneC u = true) (hb1 : m + m' ≤ maxLen) (hb2 : (m + m') * by0 ≤ 140737488355328)
    (k : ∀ v', (v' = .slice none 0 0 ↔ v = .slice none 0 0 ∧ m' = 0) → Run E n ((d, v') :: L) g (own.set i (.row e sz v' (m + m') (xs ++ news))) (wpList P ops Q rest)) :
    Run E n L g own (wpList P ops Q (⟨some d, .call ⟨.builtin .append, #[x, y], #[T, T]⟩, ty, pos, after, none⟩ :: rest)) := by
  obtain ⟨hl, h0 | ⟨b, off, cap, rfl, _, _, hx3⟩⟩ := hu
  · obtain ⟨⟨a, c, rfl⟩, rfl⟩ := h0
    have hn : news = [] := List.eq_nil_of_length_eq_zero (by simpa using hl)
    subst hn
    refine r_append0 i hd hx hy ho ?_
    have := k v (by simp)
    have hset : own.set i (.row e sz v m xs) = own := by
      refine List.ext_getElem? fun j => ?_
      rw [List.getElem?_set]
      split
      · rename_i hj
        subst hj
        rw [ho]
        simp [(List.getElem?_eq_some_iff.1 ho).1]
      · rfl
    simpa [hset] using this
  · exact r_append i hd hx hy ho (Nat.eq_of_beq_eq_true hzl) (Nat.blt_eq.mp hsz) hl (.inr ⟨_, _, rfl, rd_g hx3⟩) h1 hb1 hb2 k
end
end Go.Eng
namespace Go.Eng
open Go Go.RowKit
/-! Regions that draw their order, whose head only reads and whose tail comes in one order. -/
def St (P : Program) (ops : Array Oper) (K : Act → World → Prop) (l : List Oper) : Act → World → Prop := fun a w => wpStill P ops w (fun a' => K a' w) l a
section
variable {P : Program} {E : Env} {n : Nat} {L : Slots} {g : Ghost} {own : List Res} {Q : Exit → Act → World → Prop} {ops : Array Oper} {rest : List Oper}
variable {d : Nat} {ty : TypeId} {pos : String} {after : Array Edge} {K : Act → World → Prop}
theorem s_region {id : Nat} {l : List Oper} (m : Nat) (hm : MixedB P = true) (hB : Region.lexTailB .any l.toArray m = true)
    (h : Run E n L g own (St P l.toArray (wpList P l.toArray Q (l.drop m)) (l.take m))) : Run E n L g own ((Code.region id l.toArray true).wp P Q) := fun a w hF hI =>
  wp_region_still_tail m hm hB (h a _ hF hI.drew)
theorem s_end (h : Run E n L g own K) : Run E n L g own (St P ops K []) := h
theorem s_v {op : Op} (h : Nat.blt d n = true) (hv : ∃ v, Val P E n L g own ty op v ∧ Run E n ((d, v) :: L) g own (St P ops K rest)) : Run E n L g own (St P ops K (⟨some d, op, ty, pos, after, none⟩ :: rest)) := fun a w hF hI => by
  obtain ⟨v, hv, k⟩ := hv
  have h1 := hv a w (some d) pos after hF hI
  unfold St wpStill
  simp only [Region.wanted, if_true]
  unfold Oper.still
  rw [h1]
  exact ⟨rfl, k _ w (hF.put h v) hI⟩
end
end Go.Eng
namespace Go.Eng
open Go Go.RowKit
/-- A contract of a function that borrows one resource and hands back another in its place. -/
def SpecL (P : Program) (f : FuncId) (args : List Value) (g : Ghost) (r : Res) (Φ : Value → Ghost → Res → Prop) : Prop := Spec P f args g [r] fun v g' own' => ∃ r', own' = [r'] ∧ Φ v g' r'
section
variable {P : Program} {E : Env} {n : Nat} {L : Slots} {g : Ghost} {own : List Res} {Q : Exit → Act → World → Prop} {ops : Array Oper} {rest : List Oper}
variable {d : Nat} {ty : TypeId} {pos : String} {after : Array Edge}
theorem r_callL {f : FuncId} {xs : Array Operand} {ts : Array TypeId} {vals : List Value} {r : Res} [hB : Body P f] {Φ : Value → Ghost → Res → Prop} (i : Nat) (hd : Nat.blt d n = true) (hx : evs L xs.toList = some vals) (ho : own[i]? = some r)
    (hs : SpecL P f vals g r Φ) (k : ∀ v g' r', Φ v g' r' → Ghost.le g g' → Run E n ((d, v) :: L) g' (own.set i r') (wpList P ops Q rest)) :
    Run E n L g own (wpList P ops Q (⟨some d, .call ⟨.value (.func f), xs, ts⟩, ty, pos, after, none⟩ :: rest)) :=
  r_call' (lent := [r]) hd hx (perm_at ho) hs fun v g' own' ⟨r', h1, h3⟩ hle => by
    subst h1
    have hlt : i < own.length := (List.getElem?_eq_some_iff.1 ho).1
    have hp := perm_at (own := own.set i r') (i := i) (r := r') (by simp [hlt])
    rw [List.eraseIdx_set_eq] at hp
    exact r_perm hp.symm (k v g' r' h3 hle)
end
end Go.Eng
-- sum dd6ad717afe20822

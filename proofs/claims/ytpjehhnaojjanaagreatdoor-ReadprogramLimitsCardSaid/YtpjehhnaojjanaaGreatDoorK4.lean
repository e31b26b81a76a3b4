/- The walking engine, seventh part: regions that draw their order and in which some operations act ('h_*': what only reads is taken first, what acts comes up when nothing else can); calls of function values. -/
import Derived.Test.YtpjehhnaojjanaaGreatDoorK3
import Derived.OrdersHeld
import Derived.WalkSpells
import Derived.Lib.LazyBuf
import Derived.StillTail
import Derived.Test.YtpjehhnaojjanaaGreatDoorTy
import Derived.Test.YtpjehhnaojjanaaGreatDoorK1
namespace Go.Eng
open Go Go.RowKit
def GFact (E : Env) (g : Ghost) : Prop := Ghost.le E.g0 g ∧ ∀ b o, g b o ≠ E.g0 b o → E.w0.heap.size ≤ b ∨ b ∈ E.F0
theorem GFact.of {E : Env} {g : Ghost} {own : List Res} {w : World} (h : Inv E g own w) : GFact E g := ⟨h.2.gle, h.2.gnew⟩
theorem Inv.back {E : Env} {g g' : Ghost} {own own' : List Res} {w : World} (hG : GFact E g) (hle : Ghost.le g g') (hs : own.Sublist own') (h : Inv E g' own' w) : Inv E g own w := by
 have h1 : Inv E g' own w := h.drop hs
 refine ⟨⟨fun b o v hv => h1.1.cov b o v (hle b o v hv), h1.1.sat, h1.1.dis, fun b hb o => ?_⟩, ⟨h1.2.size, h1.2.kept, h1.2.tape, h1.2.os, h1.2.output, hG.1, hG.2, h1.2.ofoot⟩⟩
 cases hv : g b o with
 | none => rfl
 | some v => have := h1.1.gn b hb o; rw [hle b o v hv] at this; cases this
class NP (Q : Exit → Act → World → Prop) : Prop where
 no : ∀ c a w, ¬ Q (.panic c) a w
instance {next : Act → World → Prop} {Q : Exit → Act → World → Prop} [h : NP Q] : NP (Exit.then next Q) := ⟨fun c a w hq => h.no c a w hq⟩
instance {id : Nat} {Q : Exit → Act → World → Prop} [h : NP Q] : NP (Exit.inBlock id Q) := ⟨fun c a w hq => h.no c a w hq⟩
instance {P : Program} {fn : Func} {E : Env} {Post : Value → Ghost → List Res → Prop} : NP (bodyPost P fn (Ends E Post)) := ⟨fun _ _ _ ⟨_, _, _, _, h, _⟩ => by cases h⟩
theorem upon_then {P : Program} {o : Oper} {a : Act} {K : Act → World → Prop} {Q : Exit → Act → World → Prop} {r : Result Next} (h : o.upon P a K (Exit.then K Q) r) : o.upon P a K Q r := by
 cases r with
 | ok n w' =>
  cases n <;> simp only [Oper.upon] at h ⊢
  case value => exact h
  case skip => exact h
  case defer => exact h
  case enter f args =>
   refine Calls.mono h fun e w'' he => ?_
   cases e with
   | returned u => exact he
   | panicked c => exact he
   | outgrown => exact he
  case row => exact h
 | halt x w' =>
  cases x <;> simp only [Oper.upon] at h ⊢
  case panic u => exact h
def Hq (P : Program) (ops : Array Oper) (Q : Exit → Act → World → Prop) (S : World → Prop) (fuel : Nat) (listed : Array Bool) : Act → World → Prop := wpAnyH P .any ops Q S fuel listed
section
variable {P : Program} {E : Env} {n : Nat} {L : Slots} {g : Ghost} {own : List Res} {Q : Exit → Act → World → Prop} {ops : Array Oper} {rest : List Oper}
variable {d : Nat} {ty : TypeId} {pos : String} {after : Array Edge} {fuel : Nat} {listed : Array Bool} {own0 : List Res} {S : World → Prop}
theorem all_cons {v : Value} {r : List Value} (h : oneC v = true) (h' : allOne r = true) : allOne (v :: r) = true := by simp only [allOne, h, h']
/-! What kind of operation comes next (for the search alone). -/
theorem h_begin {id : Nat} {l : List Oper} (own0 : List Res) (hm : MixedB P = true) (hs : own0.Sublist own)
  (h : GFact E g → Run E n L g own (Hq P l.toArray Q (Inv E g own0) l.length (Array.replicate l.length false))) : Run E n L g own ((Code.region id l.toArray true).wp P Q) := fun a w hF hI =>
 wp_region_held (S := Inv E g own0) hm (by
  have := h (GFact.of hI) a _ hF hI.drew
  unfold Hq at this
  simpa using this)
theorem erase_sub : ∀ (js : List Nat) (own : List Res), (js.foldl (fun l j => l.eraseIdx j) own).Sublist own
 | [], own => List.Sublist.refl _
 | j :: js, own => (erase_sub js (own.eraseIdx j)).trans (List.eraseIdx_sublist ..)
theorem h_beginE {id : Nat} {l : List Oper} (js : List Nat) (hm : MixedB P = true)
  (h : GFact E g → Run E n L g own (Hq P l.toArray Q (Inv E g (js.foldl (fun l j => l.eraseIdx j) own)) l.length (Array.replicate l.length false))) : Run E n L g own ((Code.region id l.toArray true).wp P Q) :=
 h_begin _ hm (erase_sub js own) h
theorem h_done (hr : Region.ready .any ops listed = []) (h : Run E n L g own (Q .normal)) : Run E n L g own (Hq P ops Q S fuel listed) := fun a w hF hI => wpAnyH_done hr (h a w hF hI) fuel
theorem h_take [hN : NP Q] {g0 : Ghost} {op : Op} {v : Value} (i : Nat) (hi : ops[i]? = some ⟨some d, op, ty, pos, after, none⟩) (hB : (Region.noSelect ops && Region.free .any ops listed i && (Region.ready .any ops listed).contains i) = true)
  (hd : Nat.blt d n = true) (hG : GFact E g0) (hle : Ghost.le g0 g) (hsub : own0.Sublist own) (hv : Val P E n L g0 own0 ty op v)
  (k : Run E n ((d, v) :: L) g own (Hq P ops Q (Inv E g0 own0) fuel (listed.setIfInBounds i true))) : Run E n L g own (Hq P ops Q (Inv E g0 own0) (fuel + 1) listed) := fun a w hF hI => by
 simp only [Bool.and_eq_true] at hB
 refine wpAnyH_take hi hB.1.1 hB.1.2 hB.2 (fun c a' w' h => absurd h (hN.no c _ w')) (v := v) (.inl ⟨rfl, fun w' hw' => hv a w' (some d) pos after hF hw'⟩) (hI.back hG hle hsub) ?_
 exact k _ w (hF.put hd v) hI
theorem h_takeG [hN : NP Q] {g0 : Ghost} {op : Op} {v : Value} {j : Nat} {b : Bool} (i : Nat) (hi : ops[i]? = some ⟨some d, op, ty, pos, after, some (j, b)⟩) (hg : gd L ops j = some b) (hB : (Region.noSelect ops && Region.free .any ops listed i && (Region.ready .any ops listed).contains i) = true)
  (hd : Nat.blt d n = true) (hG : GFact E g0) (hle : Ghost.le g0 g) (hsub : own0.Sublist own) (hv : Val P E n L g0 own0 ty op v)
  (k : Run E n ((d, v) :: L) g own (Hq P ops Q (Inv E g0 own0) fuel (listed.setIfInBounds i true))) : Run E n L g own (Hq P ops Q (Inv E g0 own0) (fuel + 1) listed) := fun a w hF hI => by
 simp only [Bool.and_eq_true] at hB
 refine wpAnyH_take hi hB.1.1 hB.1.2 hB.2 (fun c a' w' h => absurd h (hN.no c _ w')) (v := v) (.inl ⟨?_, fun w' hw' => ?_⟩) (hI.back hG hle hsub) ?_
 ·simp [Region.wanted, gd_spec hF hg]
 ·have := hv a w' (some d) pos after hF hw'
  simpa [execOp] using this
 ·exact k _ w (hF.put hd v) hI
theorem h_pass [hN : NP Q] {g0 : Ghost} {op : Op} {j : Nat} {b b' : Bool} (i : Nat) (hi : ops[i]? = some ⟨some d, op, ty, pos, after, some (j, b)⟩) (hg : gd L ops j = some b') (hne : (b' == b) = false) (hB : (Region.noSelect ops && Region.free .any ops listed i && (Region.ready .any ops listed).contains i) = true)
  (hd : Nat.blt d n = true) (hG : GFact E g0) (hle : Ghost.le g0 g) (hsub : own0.Sublist own)
  (k : Run E n ((d, undef) :: L) g own (Hq P ops Q (Inv E g0 own0) fuel (listed.setIfInBounds i true))) : Run E n L g own (Hq P ops Q (Inv E g0 own0) (fuel + 1) listed) := fun a w hF hI => by
 simp only [Bool.and_eq_true] at hB
 refine wpAnyH_take hi hB.1.1 hB.1.2 hB.2 (fun c a' w' h => absurd h (hN.no c _ w')) (v := undef) (.inr ⟨?_, rfl⟩) (hI.back hG hle hsub) ?_
 ·have hne' : ¬ b' = b := by simpa using hne
  simp [Region.wanted, gd_spec hF hg, hne']
 ·exact k _ w (hF.put hd undef) hI
theorem h_passA [hN : NP Q] {g0 : Ghost} {op : Op} {j : Nat} {b b' : Bool} (i : Nat) (hi : ops[i]? = some ⟨some d, op, ty, pos, after, some (j, b)⟩) (hg : gd L ops j = some b') (hne : (b' == b) = false) (hB : (Region.noSelect ops && Region.free .any ops listed i && (Region.ready .any ops listed).contains i) = true)
  (hd : Nat.blt d n = true) (hG : GFact E g0) (k : Run E n ((d, undef) :: L) g own (Hq P ops Q (Inv E g0 own0) fuel (listed.setIfInBounds i true)))
  (hle : Ghost.le g0 g := by first | exact Ghost.le_refl _ | assumption) (hsub : own0.Sublist own := by repeat' (first | exact List.nil_sublist _ | refine List.Sublist.cons_cons _ ?_ | refine List.Sublist.cons _ ?_)) : Run E n L g own (Hq P ops Q (Inv E g0 own0) (fuel + 1) listed) := h_pass i hi hg hne hB hd hG hle hsub k
theorem h_takeX [hN : NP Q] {g0 : Ghost} {op : Op} (i : Nat) (hi : ops[i]? = some ⟨some d, op, ty, pos, after, none⟩) (hB : (Region.noSelect ops && Region.free .any ops listed i && (Region.ready .any ops listed).contains i) = true)
  (hd : Nat.blt d n = true) (hG : GFact E g0) (hle : Ghost.le g0 g) (hsub : own0.Sublist own) (h : ∃ v, Val P E n L g0 own0 ty op v ∧ Run E n ((d, v) :: L) g own (Hq P ops Q (Inv E g0 own0) fuel (listed.setIfInBounds i true))) : Run E n L g own (Hq P ops Q (Inv E g0 own0) (fuel + 1) listed) :=
 let ⟨_, hv, k⟩ := h
 h_take i hi hB hd hG hle hsub hv k
theorem h_takeXA [hN : NP Q] {g0 : Ghost} {op : Op} (i : Nat) (hi : ops[i]? = some ⟨some d, op, ty, pos, after, none⟩) (hB : (Region.noSelect ops && Region.free .any ops listed i && (Region.ready .any ops listed).contains i) = true)
  (hd : Nat.blt d n = true) (hG : GFact E g0) (h : ∃ v, Val P E n L g0 own0 ty op v ∧ Run E n ((d, v) :: L) g own (Hq P ops Q (Inv E g0 own0) fuel (listed.setIfInBounds i true)))
  (hle : Ghost.le g0 g := by first | exact Ghost.le_refl _ | assumption) (hsub : own0.Sublist own := by repeat' (first | exact List.nil_sublist _ | refine List.Sublist.cons_cons _ ?_ | refine List.Sublist.cons _ ?_)) : Run E n L g own (Hq P ops Q (Inv E g0 own0) (fuel + 1) listed) := h_takeX i hi hB hd hG hle hsub h
theorem h_takeGX [hN : NP Q] {g0 : Ghost} {op : Op} {j : Nat} {b : Bool} (i : Nat) (hi : ops[i]? = some ⟨some d, op, ty, pos, after, some (j, b)⟩) (hg : gd L ops j = some b) (hB : (Region.noSelect ops && Region.free .any ops listed i && (Region.ready .any ops listed).contains i) = true)
  (hd : Nat.blt d n = true) (hG : GFact E g0) (hle : Ghost.le g0 g) (hsub : own0.Sublist own) (h : ∃ v, Val P E n L g0 own0 ty op v ∧ Run E n ((d, v) :: L) g own (Hq P ops Q (Inv E g0 own0) fuel (listed.setIfInBounds i true))) : Run E n L g own (Hq P ops Q (Inv E g0 own0) (fuel + 1) listed) :=
 let ⟨_, hv, k⟩ := h
 h_takeG i hi hg hB hd hG hle hsub hv k
theorem h_takeGXA [hN : NP Q] {g0 : Ghost} {op : Op} {j : Nat} {b : Bool} (i : Nat) (hi : ops[i]? = some ⟨some d, op, ty, pos, after, some (j, b)⟩) (hg : gd L ops j = some b) (hB : (Region.noSelect ops && Region.free .any ops listed i && (Region.ready .any ops listed).contains i) = true)
  (hd : Nat.blt d n = true) (hG : GFact E g0) (h : ∃ v, Val P E n L g0 own0 ty op v ∧ Run E n ((d, v) :: L) g own (Hq P ops Q (Inv E g0 own0) fuel (listed.setIfInBounds i true)))
  (hle : Ghost.le g0 g := by first | exact Ghost.le_refl _ | assumption) (hsub : own0.Sublist own := by repeat' (first | exact List.nil_sublist _ | refine List.Sublist.cons_cons _ ?_ | refine List.Sublist.cons _ ?_)) : Run E n L g own (Hq P ops Q (Inv E g0 own0) (fuel + 1) listed) := h_takeGX i hi hg hB hd hG hle hsub h
theorem h_one {o : Oper} (i : Nat) (hr : Region.ready .any ops listed = [i]) (hi : ops[i]? = some o)
  (h : Run E n L g own (wpList P ops (Exit.then (fun a w => S w ∧ Hq P ops Q S fuel (listed.setIfInBounds i true) a w) Q) [o])) : Run E n L g own (Hq P ops Q S (fuel + 1) listed) := fun a w hF hI => by
 refine wpAnyH_all hr (by simp) ?_
 intro j hj
 obtain rfl : j = i := by simpa using hj
 have h1 := h a w hF hI
 unfold wpOp
 simp only [hi]
 unfold wpList at h1
 split
 ·rename_i hw
  rw [if_pos hw] at h1
  rcases h1 with h1 | ⟨h1, h2⟩
  ·exact .inl (upon_then h1)
  ·exact .inr ⟨h1, h2⟩
 ·rename_i hw
  rw [if_neg hw] at h1
  exact h1
theorem h_two {o o' : Oper} (i i' : Nat) (hr : Region.ready .any ops listed = [i, i']) (hi : ops[i]? = some o) (hi' : ops[i']? = some o')
  (h : Run E n L g own (wpList P ops (Exit.then (fun a w => S w ∧ Hq P ops Q S fuel (listed.setIfInBounds i true) a w) Q) [o]))
  (h' : Run E n L g own (wpList P ops (Exit.then (fun a w => S w ∧ Hq P ops Q S fuel (listed.setIfInBounds i' true) a w) Q) [o'])) : Run E n L g own (Hq P ops Q S (fuel + 1) listed) := fun a w hF hI => by
 have aux : ∀ (j : Nat) (q : Oper), ops[j]? = some q → wpList P ops (Exit.then (fun a w => S w ∧ Hq P ops Q S fuel (listed.setIfInBounds j true) a w) Q) [q] a w →
   wpOp P ops Q j (fun a' w' => S w' ∧ wpAnyH P .any ops Q S fuel (listed.setIfInBounds j true) a' w') a w := by
  intro j q hq h1
  unfold wpOp
  simp only [hq]
  unfold wpList at h1
  split
  ·rename_i hw
   rw [if_pos hw] at h1
   rcases h1 with h1 | ⟨h1, h2⟩
   ·exact .inl (upon_then h1)
   ·exact .inr ⟨h1, h2⟩
  ·rename_i hw
   rw [if_neg hw] at h1
   exact h1
 refine wpAnyH_all hr (by simp) ?_
 intro j hj
 simp only [List.mem_cons, List.not_mem_nil, or_false] at hj
 rcases hj with rfl | rfl
 ·exact aux _ _ hi (h a w hF hI)
 ·exact aux _ _ hi' (h' a w hF hI)
theorem h_kept {g0 : Ghost} {K : Act → World → Prop} (hG : GFact E g0) (hle : Ghost.le g0 g) (hsub : own0.Sublist own) (k : Run E n L g own K) :
  Run E n L g own (fun a w => Inv E g0 own0 w ∧ K a w) := fun a w hF hI => ⟨hI.back hG hle hsub, k a w hF hI⟩
theorem h_keptA {g0 : Ghost} {K : Act → World → Prop} (hG : GFact E g0) (k : Run E n L g own K)
  (hle : Ghost.le g0 g := by first | exact Ghost.le_refl _ | assumption) (hsub : own0.Sublist own := by repeat' (first | exact List.nil_sublist _ | refine List.Sublist.cons_cons _ ?_ | refine List.Sublist.cons _ ?_)) :
  Run E n L g own (fun a w => Inv E g0 own0 w ∧ K a w) := h_kept hG hle hsub k
theorem r_callF' {x : Operand} {f : FuncId} {us cs : List Value} {xs : Array Operand} {ts : Array TypeId} {vals : List Value} {lent kept : List Res} [hB : Body P f] {Post : Value → Ghost → List Res → Prop} (hd : Nat.blt d n = true)
  (hc : ev L x = some (.func (.func f) us.toArray cs.toArray)) (hx : evs L xs.toList = some vals)
  (hp : own.Perm (lent ++ kept)) (hs : Spec P f (us ++ vals ++ cs) g lent Post)
  (k : ∀ v g' own', Post v g' own' → Ghost.le g g' → Run E n ((d, v) :: L) g' (own' ++ kept) (wpList P ops Q rest)) :
  Run E n L g own (wpList P ops Q (⟨some d, .call ⟨.value x, xs, ts⟩, ty, pos, after, none⟩ :: rest)) :=
 r_step fun a w hF hI => by
  have hb := hB.h
  unfold bodyB at hb
  split at hb
  ·rename_i fn hfn
   simp only [Bool.and_eq_true, Bool.not_eq_true', beq_eq_false_iff_ne, ne_eq] at hb
   have hargs : (xs.map a.eval) = vals.toArray := by
    have := hF.evals hx
    apply Array.ext'
    simpa using this
   have hbn : fn.body ≠ none := fun h => by simp [h] at hb
   have h1 : (execOp a.eval ⟨some d, .call ⟨.value x, xs, ts⟩, ty, pos, after, none⟩).run P w = .ok (.enter f (us ++ vals ++ cs).toArray) w := by
    simp [execOp, resolve, hF.eval hc, Deferred.ofValue, invoke, callFunc, hfn, hb.2, hbn, hargs]
   unfold Oper.wp
   rw [h1]
   have hI' : Inv E g (lent ++ kept) w := hI.perm hp
   have hH : Holds g lent w := (hI'.drop (List.sublist_append_left _ _)).1
   refine (hs w hH).mono ?_
   rintro e w' ⟨v, g', own', rfl, hpost, hH', hS'⟩
   refine k v g' own' hpost hS'.gle _ _ (hF.put hd v) ?_
   exact Inv.move hI' hS'.size hS'.tape hS'.os hS'.output hS'.kept hS'.gle hH'.cov hS'.gnew hH'.sat hH'.dis hH'.gn hS'.ofoot
  ·cases hb
end
theorem lkInt {o : Option Value} {k : IntKind} {a b : Int} (h : o = some (.int k a)) (e : a = b) : o = some (.int k b) := by rw [h, e]
def SpecN (P : Program) (f : FuncId) (args : List Value) (g : Ghost) (Φ : Value → Ghost → Prop) : Prop := Spec P f args g [] fun v g' own' => Φ v g' ∧ own' = []
section
variable {P : Program} {E : Env} {n : Nat} {L : Slots} {g : Ghost} {own : List Res} {Q : Exit → Act → World → Prop} {ops : Array Oper} {rest : List Oper}
variable {d : Nat} {ty : TypeId} {pos : String} {after : Array Edge}
theorem r_callN {f : FuncId} {xs : Array Operand} {ts : Array TypeId} {vals : List Value} [hB : Body P f] {Φ : Value → Ghost → Prop} (hd : Nat.blt d n = true) (hx : evs L xs.toList = some vals)
  (hs : SpecN P f vals g Φ) (k : ∀ v g', Φ v g' → Ghost.le g g' → Run E n ((d, v) :: L) g' own (wpList P ops Q rest)) :
  Run E n L g own (wpList P ops Q (⟨some d, .call ⟨.value (.func f), xs, ts⟩, ty, pos, after, none⟩ :: rest)) :=
 r_call hd hx hs fun v g' own' ⟨h1, h3⟩ hle => by
  subst h3
  exact k v g' h1 hle
end
end Go.Eng
-- sum ecfdc956d289790c

/- The walking engine, eighth part: slices compared with nil, append of nothing. -/
namespace Go.Eng
open Go Go.RowKit
section
variable {P : Program} {E : Env} {n : Nat} {L : Slots} {g : Ghost} {own : List Res} {Q : Exit → Act → World → Prop} {ops : Array Oper} {rest : List Oper}
variable {d : Nat} {ty : TypeId} {pos : String} {after : Array Edge}
theorem val_eql_slnil {x y : Operand} {T T' e : TypeId} {k0 by0 : Nat} [hT : SlT P T e k0 by0] {a : Option Addr} {m c : Nat} (hx : ev L x = some (.slice a m c)) (hy : ev L y = some (.slice none 0 0)) :
  Val P E n L g own ty (.binOp .eql T x y T') (.bool a.isNone) := fun aa w dst pos after hF _ => by
 have h := Lib.run_eql_slice_nil (P := P) w T e a m c 0 0 hT.u
 simp [execOp, hF.eval hx, hF.eval hy, eqGuard, h]
theorem r_append0 {x y : Operand} {T e : TypeId} {sz by0 : Nat} [hT : SlT P T e sz by0] {v : Value} {m c' : Nat} {xs : List Value} {base : Option Addr} (i : Nat)
  (hd : Nat.blt d n = true) (hx : ev L x = some v) (hy : ev L y = some (.slice base 0 c')) (ho : own[i]? = some (.row e sz v m xs))
  (k : Run E n ((d, v) :: L) g own (wpList P ops Q rest)) :
  Run E n L g own (wpList P ops Q (⟨some d, .call ⟨.builtin .append, #[x, y], #[T, T]⟩, ty, pos, after, none⟩ :: rest)) :=
 r_step fun a w hF hI => by
  obtain ⟨inf, hi, hisz, hiby⟩ := infoSl hT
  have hown : w.ownsRow 0 e sz v m xs := sat_at hI ho
  have hrun : (Builtin.append_ #[T, T] ty #[v, .slice base 0 c']).run P w = .ok v w := by
   obtain ⟨hxl, hown⟩ := hown
   rcases hown with ⟨rfl, rfl⟩ | ⟨gb, cap, cur, rfl, _, hg, hnc, hcm, hcs, _⟩
   ·cases base <;> simp [Builtin.append_, run_underlying hT.u, sizeOf, typeInfo, hi, Builtin.lenOf, Builtin.firstCells, loadCells, loadCellsFrom]
   ·cases base <;> simp [Builtin.append_, run_underlying hT.u, sizeOf, typeInfo, hi, Builtin.lenOf, Builtin.firstCells, loadCells, loadCellsFrom, hnc, storeCells]
  have hr : (execOp a.eval ⟨some d, .call ⟨.builtin .append, #[x, y], #[T, T]⟩, ty, pos, after, none⟩).run P w = .ok (.value v) w := by
   simp [execOp, resolve, invoke, builtin, hF.eval hx, hF.eval hy, hrun]
  unfold Oper.wp
  rw [hr]
  exact k _ _ (hF.put hd v) hI
theorem r_appendAt {x y : Operand} {T e : TypeId} {sz by0 : Nat} [hT : SlT P T e sz by0] {zs : List Value} [hZ : Zero P e zs] {v : Value} {m : Nat} {xs : List Value} {u : Value} {m' : Nat} {news : List Value} (i : Nat)
  (hd : Nat.blt d n = true) (hx : ev L x = some v) (hy : ev L y = some u) (ho : own[i]? = some (.row e sz v m xs)) (hu : SlAt g sz u m' news)
  (hzl : Nat.beq zs.length sz = true) (hsz : Nat.blt 0 sz = true) (h1 : ∀ u ∈ news, oneC u = true) (hb1 : m + m' ≤ maxLen) (hb2 : (m + m') * by0 ≤ 140737488355328)
  (k : ∀ v', (v' = .slice none 0 0 ↔ v = .slice none 0 0 ∧ m' = 0) → Run E n ((d, v') :: L) g (own.set i (.row e sz v' (m + m') (xs ++ news))) (wpList P ops Q rest)) :
  Run E n L g own (wpList P ops Q (⟨some d, .call ⟨.builtin .append, #[x, y], #[T, T]⟩, ty, pos, after, none⟩ :: rest)) := by
 obtain ⟨hl, h0 | ⟨b, off, cap, rfl, _, _, hx3⟩⟩ := hu
 ·obtain ⟨⟨a, c, rfl⟩, rfl⟩ := h0
  have hn : news = [] := List.eq_nil_of_length_eq_zero (by simpa using hl)
  subst hn
  refine r_append0 i hd hx hy ho ?_
  have := k v (by simp)
  have hset : own.set i (.row e sz v m xs) = own := by
   refine List.ext_getElem? fun j => ?_
   rw [List.getElem?_set]
   split
   ·rename_i hj
    subst hj
    rw [ho]
    simp [(List.getElem?_eq_some_iff.1 ho).1]
   ·rfl
  simpa [hset] using this
 ·exact r_append i hd hx hy ho (Nat.eq_of_beq_eq_true hzl) (Nat.blt_eq.mp hsz) hl (.inr ⟨_, _, rfl, rd_g hx3⟩) h1 hb1 hb2 k
end
/-! Regions that draw their order, whose head only reads and whose tail comes in one order. -/
def St (P : Program) (ops : Array Oper) (K : Act → World → Prop) (l : List Oper) : Act → World → Prop := fun a w => wpStill P ops w (fun a' => K a' w) l a
section
variable {P : Program} {E : Env} {n : Nat} {L : Slots} {g : Ghost} {own : List Res} {Q : Exit → Act → World → Prop} {ops : Array Oper} {rest : List Oper}
variable {d : Nat} {ty : TypeId} {pos : String} {after : Array Edge} {K : Act → World → Prop}
theorem s_region {id : Nat} {l : List Oper} (m : Nat) (hm : MixedB P = true) (hB : Region.lexTailB .any l.toArray m = true)
  (h : Run E n L g own (St P l.toArray (wpList P l.toArray Q (l.drop m)) (l.take m))) : Run E n L g own ((Code.region id l.toArray true).wp P Q) := fun a w hF hI =>
 wp_region_still_tail m hm hB (h a _ hF hI.drew)
theorem s_end (h : Run E n L g own K) : Run E n L g own (St P ops K []) := h
theorem s_v {op : Op} (h : Nat.blt d n = true) (hv : ∃ v, Val P E n L g own ty op v ∧ Run E n ((d, v) :: L) g own (St P ops K rest)) : Run E n L g own (St P ops K (⟨some d, op, ty, pos, after, none⟩ :: rest)) := fun a w hF hI => by
 obtain ⟨v, hv, k⟩ := hv
 have h1 := hv a w (some d) pos after hF hI
 unfold St wpStill
 simp only [Region.wanted, if_true]
 unfold Oper.still
 rw [h1]
 exact ⟨rfl, k _ w (hF.put h v) hI⟩
end
def SpecL (P : Program) (f : FuncId) (args : List Value) (g : Ghost) (r : Res) (Φ : Value → Ghost → Res → Prop) : Prop := Spec P f args g [r] fun v g' own' => ∃ r', own' = [r'] ∧ Φ v g' r'
section
variable {P : Program} {E : Env} {n : Nat} {L : Slots} {g : Ghost} {own : List Res} {Q : Exit → Act → World → Prop} {ops : Array Oper} {rest : List Oper}
variable {d : Nat} {ty : TypeId} {pos : String} {after : Array Edge}
theorem r_callL {f : FuncId} {xs : Array Operand} {ts : Array TypeId} {vals : List Value} {r : Res} [hB : Body P f] {Φ : Value → Ghost → Res → Prop} (i : Nat) (hd : Nat.blt d n = true) (hx : evs L xs.toList = some vals) (ho : own[i]? = some r)
  (hs : SpecL P f vals g r Φ) (k : ∀ v g' r', Φ v g' r' → Ghost.le g g' → Run E n ((d, v) :: L) g' (own.set i r') (wpList P ops Q rest)) :
  Run E n L g own (wpList P ops Q (⟨some d, .call ⟨.value (.func f), xs, ts⟩, ty, pos, after, none⟩ :: rest)) :=
 r_call' (lent := [r]) hd hx (perm_at ho) hs fun v g' own' ⟨r', h1, h3⟩ hle => by
  subst h1
  have hlt : i < own.length := (List.getElem?_eq_some_iff.1 ho).1
  have hp := perm_at (own := own.set i r') (i := i) (r := r') (by simp [hlt])
  rw [List.eraseIdx_set_eq] at hp
  exact r_perm hp.symm (k v g' r' h3 hle)
end
end Go.Eng
-- sum dd6ad717afe20822

/- Small words, and the walk of Mod. -/
namespace Go.Proofs.YtpjehhnaojjanaaGreatDoor
open Go Go.Eng Go.Proofs
set_option maxRecDepth 10000
set_option maxHeartbeats 4000000
attribute [local irreducible] wpList Code.wp Run bodyPost Go.Eng.Ends Exit.then Exit.inBlock Again Wq Kq
theorem vb {a b : Bool} (h : a = true ↔ b = true) : Value.bool a = .bool b := by rw [Bool.eq_iff_iff.2 h]
theorem vi {k : IntKind} {a b : Int} (h : a = b) : Value.int k a = .int k b := by rw [h]
def modI (n m : Int) : Int := if m < 1 then 0 else n % m
theorem tmod_mod (a m : Int) (h : 1 ≤ m) : (if a.tmod m < 0 then a.tmod m + m else a.tmod m) = a % m := by
 rw [Int.tmod_eq_emod]
 have h1 := Int.emod_nonneg a (by omega : m ≠ 0)
 have h2 := Int.emod_lt_of_pos a (by omega : 0 < m)
 by_cases hd : 0 ≤ a ∨ m ∣ a
 ·rw [if_pos hd]; simp; omega
 ·rw [if_neg hd]
  have : (m.natAbs : Int) = m := by omega
  rw [this]
  have h3 : a % m ≠ 0 := fun h0 => hd (.inr (Int.dvd_of_emod_eq_zero h0))
  rw [if_pos (by omega)]; omega
theorem Mod_spec (g : Ghost) (a m : Int) (hm : m ≤ 9223372036854775807) : Pure Tryz.prog 18 [.int .i64 a, .int .i64 m] g (.int .i64 (modI a m)) := by
 refine spec_of_run Tryz.func18 rfl Tryz.ntmps18 rfl fun E hE => ?_
 refine r_sr <| r_ev rfl rfl <| r_nn <| r_seq <| r_sr <| r_ev rfl rfl <| r_ev rfl rfl <| r_nn ?_
 refine r_cond rfl (fun h => ?_) (fun h => ?_)
 ·refine r_sr <| r_ev rfl rfl <| r_nn <| r_retc <| r_then_ret ?_
  exact r_ret1 [] rfl rfl (by simp) ⟨vi (by simp [modI, h]), rfl, rfl⟩
 ·have hk := tmod_mod a m (by omega)
  have hb := Int.emod_lt_of_pos a (by omega : 0 < m)
  have hb' := Int.emod_nonneg a (by omega : m ≠ 0)
  refine r_skip <| r_then_normal <| r_sr <| r_ev rfl rfl <| r_ev rfl rfl ?_
  refine r_rem rfl rfl rfl (by omega) ?_
  refine r_ev rfl rfl <| r_nn <| r_seq <| r_sr <| r_ev rfl rfl <| r_ev rfl rfl <| r_nn ?_
  refine r_cond rfl (fun h2 => ?_) (fun h2 => ?_)
  ·rw [if_pos h2] at hk
   refine r_region <| r_ev rfl rfl <| r_ev rfl rfl ?_
   refine r_add rfl rfl rfl (by omega) ?_
   refine r_ev rfl rfl <| r_nn <| r_sr <| r_ev rfl rfl <| r_ev rfl rfl <| r_nn <| r_retc ?_
   exact r_ret1 [] rfl rfl (by simp) ⟨vi (by simp only [modI]; rw [if_neg h]; exact hk), rfl, rfl⟩
  ·rw [if_neg h2] at hk
   refine r_skip <| r_then_normal <| r_sr <| r_ev rfl rfl <| r_ev rfl rfl <| r_nn <| r_retc ?_
   exact r_ret1 [] rfl rfl (by simp) ⟨vi (by simp only [modI]; rw [if_neg h]; exact hk), rfl, rfl⟩

end Go.Proofs.YtpjehhnaojjanaaGreatDoor
-- sum 5c4407555e93b668

/- Types in memory, and the walks of what makes and compares them: types.Con, types.Arrow, the reference's Con, Arrow, Named, Int, Equal. -/
namespace Go.Proofs.YtpjehhnaojjanaaGreatDoor
open Go Go.Eng Go.Th Go.Proofs
set_option maxRecDepth 10000
set_option maxHeartbeats 4000000
attribute [local irreducible] wpList Code.wp Run bodyPost Go.Eng.Ends Exit.then Exit.inBlock Again Wq Kq
def tyCells (t : Ty) (sl : Value) : List Value := [.int .i64 t.kind, str t.name, .int .i64 t.id, .int .i64 t.home, sl]
mutual
def TyAt (g : Ghost) : Ty → List Value → Prop
 | .mk k n i h ta, cs => ∃ sl xs, cs = [.int .i64 k, str n, .int .i64 i, .int .i64 h, sl] ∧ SlAt g 5 sl ta.length xs ∧ TysAt g ta xs
def TysAt (g : Ghost) : List Ty → List Value → Prop
 | [], xs => xs = []
 | a :: ta, xs => ∃ c r, xs = c ++ r ∧ TyAt g a c ∧ TysAt g ta r
end
mutual
theorem TyAt.mono {g g' : Ghost} (hle : Ghost.le g g') : ∀ (t : Ty) (cs : List Value), TyAt g t cs → TyAt g' t cs
 | .mk k n i h ta, cs, ht => by
  unfold TyAt at ht ⊢
  obtain ⟨sl, xs, h1, h2, h3⟩ := ht
  exact ⟨sl, xs, h1, h2.mono hle, TysAt.mono hle ta xs h3⟩
theorem TysAt.mono {g g' : Ghost} (hle : Ghost.le g g') : ∀ (ta : List Ty) (xs : List Value), TysAt g ta xs → TysAt g' ta xs
 | [], xs, ht => by unfold TysAt at ht ⊢; exact ht
 | a :: ta, xs, ht => by
  unfold TysAt at ht ⊢
  obtain ⟨c, r, h1, h2, h3⟩ := ht
  exact ⟨c, r, h1, TyAt.mono hle a c h2, TysAt.mono hle ta r h3⟩
end
theorem SlAt.one {g : Ghost} {size : Nat} {v : Value} {n : Nat} {xs : List Value} (h : SlAt g size v n xs) : oneC v = true := by
 rcases h.2 with ⟨⟨a, c, rfl⟩, _⟩ | ⟨b, off, cap, rfl, _⟩ <;> rfl
theorem SlAt.form {g : Ghost} {size : Nat} {v : Value} {n : Nat} {xs : List Value} (h : SlAt g size v n xs) : ∃ a m c, v = .slice a m c := by
 rcases h.2 with ⟨⟨a, c, rfl⟩, _⟩ | ⟨b, off, cap, rfl, _⟩
 ·exact ⟨_, _, _, rfl⟩
 ·exact ⟨_, _, _, rfl⟩
theorem TyAt.one {g : Ghost} {t : Ty} {cs : List Value} (h : TyAt g t cs) : cs.length = 5 ∧ ∀ u ∈ cs, oneC u = true := by
 cases t with
 | mk k n i hh ta =>
  unfold TyAt at h
  obtain ⟨sl, xs, rfl, h2, _⟩ := h
  refine ⟨rfl, ?_⟩
  intro u hu
  simp only [List.mem_cons, List.not_mem_nil, or_false] at hu
  rcases hu with rfl | rfl | rfl | rfl | rfl
  ·rfl
  ·rfl
  ·rfl
  ·rfl
  ·exact SlAt.one h2
theorem TysAt.one {g : Ghost} : ∀ {ta : List Ty} {xs : List Value}, TysAt g ta xs → xs.length = ta.length * 5 ∧ ∀ u ∈ xs, oneC u = true
 | [], xs, h => by unfold TysAt at h; subst h; simp
 | a :: ta, xs, h => by
  unfold TysAt at h
  obtain ⟨c, r, rfl, h1, h2⟩ := h
  have i1 := h1.one
  have i2 := TysAt.one h2
  refine ⟨by rw [List.length_append, i1.1, i2.1, List.length_cons]; omega, fun u hu => ?_⟩
  rcases List.mem_append.1 hu with hu | hu
  ·exact i1.2 u hu
  ·exact i2.2 u hu
theorem TysAt.get {g : Ghost} : ∀ {ta : List Ty} {xs : List Value}, TysAt g ta xs → ∀ (i : Nat) (h : i < ta.length), ∃ c, TyAt g ta[i] c ∧ ∀ j x, c[j]? = some x → xs[i * 5 + j]? = some x
 | [], xs, _, i, h => by simp at h
 | a :: ta, xs, ht, 0, _ => by
  unfold TysAt at ht
  obtain ⟨c, r, rfl, h1, h2⟩ := ht
  refine ⟨c, h1, fun j x hx => ?_⟩
  rw [Nat.zero_mul, Nat.zero_add, List.getElem?_append_left (List.getElem?_eq_some_iff.1 hx).1]
  exact hx
 | a :: ta, xs, ht, i + 1, h => by
  unfold TysAt at ht
  obtain ⟨c, r, rfl, h1, h2⟩ := ht
  obtain ⟨c', h3, h4⟩ := TysAt.get h2 i (by simpa using h)
  refine ⟨c', h3, fun j x hx => ?_⟩
  have hl := h1.one.1
  rw [List.getElem?_append_right (by rw [hl]; omega), hl, show (i + 1) * 5 + j - 5 = i * 5 + j by omega]
  exact h4 j x hx
theorem TysAt.snoc {g : Ghost} {a : Ty} {c : List Value} (hc : TyAt g a c) : ∀ {ta : List Ty} {xs : List Value}, TysAt g ta xs → TysAt g (ta ++ [a]) (xs ++ c)
 | [], xs, h => by
  unfold TysAt at h
  subst h
  simp only [List.nil_append]
  unfold TysAt
  exact ⟨c, [], by simp, hc, by unfold TysAt; rfl⟩
 | b :: ta, xs, h => by
  unfold TysAt at h
  obtain ⟨d, r, rfl, h1, h2⟩ := h
  simp only [List.cons_append]
  unfold TysAt
  exact ⟨d, r ++ c, by simp, h1, TysAt.snoc hc h2⟩
def TyV (g : Ghost) (v : Value) (t : Ty) : Prop := ∃ sl, v = .agg #[.int .i64 t.kind, str t.name, .int .i64 t.id, .int .i64 t.home, sl] ∧ TyAt g t (tyCells t sl)
theorem TyV.mono {g g' : Ghost} (hle : Ghost.le g g') {v : Value} {t : Ty} (h : TyV g v t) : TyV g' v t := by
 obtain ⟨sl, h1, h2⟩ := h
 exact ⟨sl, h1, h2.mono hle⟩
theorem TyAt.args {g : Ghost} {t : Ty} {sl : Value} (h : TyAt g t (tyCells t sl)) : ∃ xs, SlAt g 5 sl t.args.length xs ∧ TysAt g t.args xs := by
 cases t with
 | mk k n i hh ta =>
  unfold TyAt at h
  obtain ⟨sl', xs, h1, h2, h3⟩ := h
  simp only [tyCells, List.cons.injEq, and_true, true_and, Ty.kind, Ty.name, Ty.id, Ty.home] at h1
  obtain ⟨_, _, _, _, rfl⟩ := h1
  exact ⟨xs, h2, h3⟩
theorem TyAt.mk {g : Ghost} {t : Ty} {sl : Value} {xs : List Value} (h2 : SlAt g 5 sl t.args.length xs) (h3 : TysAt g t.args xs) : TyAt g t (tyCells t sl) := by
 cases t with
 | mk k n i hh ta =>
  unfold TyAt
  exact ⟨sl, xs, rfl, h2, h3⟩
theorem TyAt.cells {g : Ghost} {t : Ty} {cs : List Value} (h : TyAt g t cs) : ∃ sl, cs = tyCells t sl := by
 cases t with
 | mk k n i hh ta =>
  unfold TyAt at h
  obtain ⟨sl, xs, h1, _⟩ := h
  exact ⟨sl, h1⟩
theorem TyV.of {g : Ghost} {t : Ty} {sl : Value} {xs : List Value} (h2 : SlAt g 5 sl t.args.length xs) (h3 : TysAt g t.args xs) : TyV g (.agg #[.int .i64 t.kind, str t.name, .int .i64 t.id, .int .i64 t.home, sl]) t := ⟨sl, rfl, .mk h2 h3⟩
theorem slNil (g : Ghost) (size : Nat) : SlAt g size (.slice none 0 0) 0 [] := ⟨by simp, .inl ⟨⟨_, _, rfl⟩, rfl⟩⟩
theorem tysNil (g : Ghost) : TysAt g [] [] := by unfold TysAt; rfl
theorem noT_V (g : Ghost) : TyV g (.agg #[.int .i64 0, str [], .int .i64 0, .int .i64 0, .slice none 0 0]) noT := TyV.of (t := noT) (slNil g 5) (tysNil g)
theorem Clone_spec (g : Ghost) (v : Value) (n : Nat) (xs : List Value) (hs : SlAt g 5 v n xs) (h1 : ∀ u ∈ xs, oneC u = true) (hn : n ≤ 1000000) :
  SpecN Tryz.prog 197 [v] g fun w g' => SlAt g' 5 w n xs := by
 obtain ⟨a, m, c, rfl⟩ := SlAt.form hs
 refine spec_of_run Tryz.func197 rfl Tryz.ntmps197 rfl fun E hE => ?_
 refine r_sr <| r_ev rfl rfl <| r_nn <| r_seq <| r_sr <| r_ev rfl rfl ?_
 refine r_v rfl (val_eql_slnil rfl rfl) ?_
 refine r_nn ?_
 cases a with
 | none =>
  have h0 : n = 0 ∧ xs = [] := by
   rcases hs.2 with ⟨_, h0⟩ | ⟨b, off, cap, he, _⟩
   ·have hl := hs.1
    rw [h0, Nat.zero_mul] at hl
    exact ⟨h0, List.eq_nil_of_length_eq_zero hl⟩
   ·simp at he
  obtain ⟨rfl, rfl⟩ := h0
  refine r_cond_true rfl <| r_sr <| r_ev rfl rfl <| r_nn <| r_retc <| r_then_ret ?_
  exact r_ret1 [] rfl rfl (by simp) ⟨slNil g 5, rfl⟩
 | some ad =>
  refine r_cond_false rfl <| r_skip <| r_then_normal <| r_sr ?_
  refine r_buildSlice rfl rfl (by rfl) (by rfl) (by rfl) (by rfl) (by rfl) (fun b2 => ?_)
  refine r_ev rfl rfl ?_
  refine r_appendAt 0 rfl rfl rfl rfl hs (by rfl) (by rfl) h1 (by unfold maxLen; omega) (by omega) (fun v' _ => ?_)
  rw [Nat.zero_add]
  refine r_publishRow (fun g1 hg1 hs1 => ?_)
  refine r_ev rfl rfl <| r_nn <| r_retc ?_
  exact r_ret1 [] rfl rfl (by simp) ⟨hs1, rfl⟩
theorem tCon_spec (g : Ghost) (name : Bytes) (v : Value) (ta : List Ty) (xs : List Value) (hs : SlAt g 5 v ta.length xs) (ht : TysAt g ta xs) (hn : ta.length ≤ 1000000) :
  SpecN Tryz.prog 169 [str name, v] g fun w g' => TyV g' w (conT name ta) := by
 refine spec_of_run Tryz.func169 rfl Tryz.ntmps169 rfl fun E hE => ?_
 refine r_sr ?_
 refine r_alloc rfl (fun b4 => ?_)
 refine r_nn <| r_sr <| r_ev rfl rfl <| r_ev rfl rfl ?_
 refine r_callN rfl rfl (Clone_spec g v ta.length xs hs ht.one.2 hn) ?_
 rintro w g1 hs1 hle
 obtain ⟨a, m, c, rfl⟩ := SlAt.form hs1
 refine r_build rfl rfl (by rfl) ?_; refine r_storeA 0 rfl rfl rfl rfl (by rfl) (by repeat' (first | exact rfl | assumption | refine all_cons ?_ ?_)) rfl ?_; refine r_nn <| r_retc ?_
 exact r_retA [] rfl (res_blk 0 rfl rfl (by rfl)) (by simp) ⟨TyV.of (t := conT name ta) hs1 (ht.mono hle), rfl⟩
theorem two_tys {g : Ghost} {t u : Ty} {sl sl' : Value} (h1 : TyAt g t (tyCells t sl)) (h2 : TyAt g u (tyCells u sl')) : TysAt g [t, u] (tyCells t sl ++ tyCells u sl') := by
 unfold TysAt
 refine ⟨_, _, rfl, h1, ?_⟩
 unfold TysAt
 exact ⟨_, [], by simp, h2, tysNil g⟩
theorem tArrow_spec (g : Ghost) (t u : Ty) (v w : Value) (hv : TyV g v t) (hw : TyV g w u) : SpecN Tryz.prog 151 [v, w] g fun x g' => TyV g' x (arrowT t u) := by
 obtain ⟨sl, rfl, h1⟩ := hv
 obtain ⟨sl', rfl, h2⟩ := hw
 obtain ⟨_, hs1, _⟩ := h1.args
 obtain ⟨_, hs2, _⟩ := h2.args
 obtain ⟨a, m, c, rfl⟩ := SlAt.form hs1
 obtain ⟨a', m', c', rfl⟩ := SlAt.form hs2
 refine spec_of_run Tryz.func151 rfl Tryz.ntmps151 rfl fun E hE => ?_
 refine r_sr ?_
 refine r_box rfl rfl rfl (fun b2 => ?_)
 refine r_box rfl rfl rfl (fun b3 => ?_)
 refine r_alloc rfl (fun b4 => ?_)
 refine r_nn <| r_sr <| r_loadB 2 rfl rfl rfl (by rfl) ?_; refine r_loadB 1 rfl rfl rfl (by rfl) ?_
 refine r_buildSlice rfl rfl (by rfl) (by rfl) (by rfl) (by rfl) (by rfl) (fun b5 => ?_)
 refine r_publishRow (fun g1 hg1 hs => ?_)
 refine r_callN rfl rfl (tCon_spec g1 arrowB _ [t, u] _ hs (two_tys (h1.mono hg1) (h2.mono hg1)) (by simp)) ?_
 rintro x g2 ⟨sx, rfl, hx⟩ hle
 obtain ⟨_, hsx, _⟩ := hx.args
 obtain ⟨ax, mx, cx, rfl⟩ := SlAt.form hsx
 refine r_storeA 0 rfl rfl rfl rfl (by rfl) (by repeat' (first | exact rfl | assumption | refine all_cons ?_ ?_)) rfl ?_; refine r_nn <| r_retc ?_
 exact r_retA [] rfl (res_blk 0 rfl rfl (by rfl)) (by simp) ⟨⟨_, rfl, hx⟩, rfl⟩
theorem rCon_spec (g : Ghost) (name : Bytes) (v : Value) (ta : List Ty) (xs : List Value) (hs : SlAt g 5 v ta.length xs) (ht : TysAt g ta xs) (hn : ta.length ≤ 1000000) :
  SpecN Tryz.prog 60 [str name, v] g fun w g' => TyV g' w (conT name ta) := by
 refine spec_of_run Tryz.func60 rfl Tryz.ntmps60 rfl fun E hE => ?_
 refine r_sr ?_
 refine r_alloc rfl (fun b4 => ?_)
 refine r_nn <| r_sr <| r_ev rfl rfl <| r_ev rfl rfl ?_
 refine r_nilRow 49 5 ?_
 refine r_appendAt 0 rfl rfl rfl rfl hs (by rfl) (by rfl) ht.one.2 (by unfold maxLen; omega) (by omega) (fun v' _ => ?_)
 rw [Nat.zero_add]
 refine r_publishRow (fun g1 hg1 hs1 => ?_)
 obtain ⟨a, m, c, rfl⟩ := SlAt.form hs1
 refine r_build rfl rfl (by rfl) ?_; refine r_storeA 0 rfl rfl rfl rfl (by rfl) (by repeat' (first | exact rfl | assumption | refine all_cons ?_ ?_)) rfl ?_; refine r_nn <| r_retc ?_
 exact r_retA [] rfl (res_blk 0 rfl rfl (by rfl)) (by simp) ⟨TyV.of (t := conT name ta) hs1 (ht.mono hg1), rfl⟩
theorem rArrow_spec (g : Ghost) (t u : Ty) (v w : Value) (hv : TyV g v t) (hw : TyV g w u) : SpecN Tryz.prog 23 [v, w] g fun x g' => TyV g' x (arrowT t u) := by
 obtain ⟨sl, rfl, h1⟩ := hv
 obtain ⟨sl', rfl, h2⟩ := hw
 obtain ⟨_, hs1, _⟩ := h1.args
 obtain ⟨_, hs2, _⟩ := h2.args
 obtain ⟨a, m, c, rfl⟩ := SlAt.form hs1
 obtain ⟨a', m', c', rfl⟩ := SlAt.form hs2
 refine spec_of_run Tryz.func23 rfl Tryz.ntmps23 rfl fun E hE => ?_
 refine r_sr ?_
 refine r_box rfl rfl rfl (fun b2 => ?_)
 refine r_box rfl rfl rfl (fun b3 => ?_)
 refine r_alloc rfl (fun b4 => ?_)
 refine r_nn <| r_sr <| r_loadB 2 rfl rfl rfl (by rfl) ?_; refine r_loadB 1 rfl rfl rfl (by rfl) ?_
 refine r_buildSlice rfl rfl (by rfl) (by rfl) (by rfl) (by rfl) (by rfl) (fun b5 => ?_)
 refine r_publishRow (fun g1 hg1 hs => ?_)
 refine r_callN rfl rfl (rCon_spec g1 arrowB _ [t, u] _ hs (two_tys (h1.mono hg1) (h2.mono hg1)) (by simp)) ?_
 rintro x g2 ⟨sx, rfl, hx⟩ hle
 obtain ⟨_, hsx, _⟩ := hx.args
 obtain ⟨ax, mx, cx, rfl⟩ := SlAt.form hsx
 refine r_storeA 0 rfl rfl rfl rfl (by rfl) (by repeat' (first | exact rfl | assumption | refine all_cons ?_ ?_)) rfl ?_; refine r_nn <| r_retc ?_
 exact r_retA [] rfl (res_blk 0 rfl rfl (by rfl)) (by simp) ⟨⟨_, rfl, hx⟩, rfl⟩
theorem rNamed_spec (g : Ghost) (name : Bytes) : Pure Tryz.prog 36 [str name] g (.agg #[.int .i64 5, str name, .int .i64 0, .int .i64 0, .slice none 0 0]) := by
 refine spec_of_run Tryz.func36 rfl Tryz.ntmps36 rfl fun E hE => ?_
 refine r_sr <| r_alloc rfl (fun b => ?_); refine r_nn <| r_sr <| r_ev rfl rfl <| r_build rfl rfl (by rfl) ?_; refine r_storeA 0 rfl rfl rfl rfl (by rfl) (by repeat' (first | exact rfl | assumption | refine all_cons ?_ ?_)) rfl ?_; refine r_nn <| r_retc ?_
 exact r_retA [] rfl (res_blk 0 rfl rfl (by rfl)) (by simp) ⟨rfl, rfl, rfl⟩
theorem nameT_V (g : Ghost) (name : Bytes) : TyV g (.agg #[.int .i64 5, str name, .int .i64 0, .int .i64 0, .slice none 0 0]) (nameT name) := TyV.of (t := nameT name) (slNil g 5) (tysNil g)
theorem rInt_spec (g : Ghost) : SpecN Tryz.prog 22 [] g fun w g' => TyV g' w intT := by
 refine spec_of_run Tryz.func22 rfl Tryz.ntmps22 rfl fun E hE => ?_
 refine r_sr ?_
 refine r_alloc rfl (fun b0 => ?_)
 refine r_nn <| r_sr ?_
 refine r_callN rfl rfl (rCon_spec g intB _ [] _ (slNil g 5) (tysNil g) (by simp)) ?_
 rintro x g2 ⟨sx, rfl, hx⟩ hle
 obtain ⟨_, hsx, _⟩ := hx.args
 obtain ⟨ax, mx, cx, rfl⟩ := SlAt.form hsx
 refine r_storeA 0 rfl rfl rfl rfl (by rfl) (by repeat' (first | exact rfl | assumption | refine all_cons ?_ ?_)) rfl ?_; refine r_nn <| r_retc ?_
 exact r_retA [] rfl (res_blk 0 rfl rfl (by rfl)) (by simp) ⟨⟨_, rfl, hx⟩, rfl⟩
end Go.Proofs.YtpjehhnaojjanaaGreatDoor
-- sum 1646cac9616c9c58

/- Expressions in memory. -/
namespace Go.Proofs.YtpjehhnaojjanaaGreatDoor
open Go Go.Eng Go.Th Go.Proofs
def AllAt {α : Type} (R : α → List Value → Prop) : List α → List Value → Prop
 | [], xs => xs = []
 | a :: l, xs => ∃ c r, xs = c ++ r ∧ R a c ∧ AllAt R l r
theorem AllAt.mono {α : Type} {R R' : α → List Value → Prop} (h : ∀ a c, R a c → R' a c) : ∀ {l : List α} {xs : List Value}, AllAt R l xs → AllAt R' l xs
 | [], _, hx => hx
 | _ :: _, _, ⟨c, r, e, h1, h2⟩ => ⟨c, r, e, h _ _ h1, AllAt.mono h h2⟩
theorem AllAt.one {α : Type} {R : α → List Value → Prop} {sz : Nat} (h : ∀ a c, R a c → c.length = sz ∧ ∀ u ∈ c, oneC u = true) : ∀ {l : List α} {xs : List Value}, AllAt R l xs → xs.length = l.length * sz ∧ ∀ u ∈ xs, oneC u = true
 | [], xs, hx => by
  have : xs = [] := hx
  subst this; simp
 | a :: l, xs, hx => by
  obtain ⟨c, r, rfl, h1, h2⟩ := hx
  have i1 := h _ _ h1
  have i2 := AllAt.one h h2
  refine ⟨by rw [List.length_append, i1.1, i2.1, List.length_cons, Nat.add_mul]; omega, fun u hu => ?_⟩
  rcases List.mem_append.1 hu with hu | hu
  ·exact i1.2 u hu
  ·exact i2.2 u hu
theorem AllAt.snoc {α : Type} {R : α → List Value → Prop} {a : α} {c : List Value} (hc : R a c) : ∀ {l : List α} {xs : List Value}, AllAt R l xs → AllAt R (l ++ [a]) (xs ++ c)
 | [], xs, hx => by
  have : xs = [] := hx
  subst this
  exact ⟨c, [], by simp, hc, rfl⟩
 | b :: l, xs, hx => by
  obtain ⟨c', r, rfl, h1, h2⟩ := hx
  exact ⟨c', r ++ c, by simp, h1, AllAt.snoc hc h2⟩
theorem AllAt.get {α : Type} {R : α → List Value → Prop} {sz : Nat} (hR : ∀ a c, R a c → c.length = sz) : ∀ {l : List α} {xs : List Value}, AllAt R l xs → ∀ (i : Nat) (h : i < l.length), ∃ c, R l[i] c ∧ ∀ j x, c[j]? = some x → xs[i * sz + j]? = some x
 | [], _, _, i, h => by simp at h
 | a :: l, xs, hx, i, h => by
  obtain ⟨c, r, rfl, h1, h2⟩ := hx
  have hl := hR _ _ h1
  cases i with
  | zero =>
   refine ⟨c, h1, fun j x hj => ?_⟩
   have hjl := (List.getElem?_eq_some_iff.1 hj).1
   rw [Nat.zero_mul, Nat.zero_add, List.getElem?_append_left hjl]
   exact hj
  | succ i =>
   obtain ⟨c', h3, h4⟩ := AllAt.get hR h2 i (by simpa using h)
   refine ⟨c', h3, fun j x hj => ?_⟩
   rw [List.getElem?_append_right (by rw [hl, Nat.add_mul]; omega), hl, show (i + 1) * sz + j - sz = i * sz + j by rw [Nat.add_mul]; omega]
   exact h4 j x hj
mutual
def ExAt (g : Ghost) : Ex → List Value → Prop
 | .mk k p n m ks ra t, cs => ∃ slk xk sla xa tc, cs = [.int .i64 k, .int .i64 p, str n, .int .i64 m, slk, sla] ++ tc ∧ SlAt g 11 slk ks.length xk ∧ ExsAt g ks xk ∧ SlAt g 14 sla ra.length xa ∧ ArsAt g ra xa ∧ TyAt g t tc
def ExsAt (g : Ghost) : List Ex → List Value → Prop
 | [], xs => xs = []
 | a :: l, xs => ∃ c r, xs = c ++ r ∧ ExAt g a c ∧ ExsAt g l r
def ArAt (g : Ghost) : Ar → List Value → Prop
 | .mk p c vs b, cs => ∃ slv bc, cs = [.int .i64 p, str c, slv] ++ bc ∧ SlAt g 1 slv vs.length (vs.map str) ∧ ExAt g b bc
def ArsAt (g : Ghost) : List Ar → List Value → Prop
 | [], xs => xs = []
 | a :: l, xs => ∃ c r, xs = c ++ r ∧ ArAt g a c ∧ ArsAt g l r
end
theorem exs_all {g : Ghost} : ∀ {l : List Ex} {xs : List Value}, ExsAt g l xs ↔ AllAt (ExAt g) l xs
 | [], xs => by unfold ExsAt AllAt; exact Iff.rfl
 | a :: l, xs => by
  unfold ExsAt AllAt
  constructor
  ·rintro ⟨c, r, e, h1, h2⟩; exact ⟨c, r, e, h1, exs_all.1 h2⟩
  ·rintro ⟨c, r, e, h1, h2⟩; exact ⟨c, r, e, h1, exs_all.2 h2⟩
theorem ars_all {g : Ghost} : ∀ {l : List Ar} {xs : List Value}, ArsAt g l xs ↔ AllAt (ArAt g) l xs
 | [], xs => by unfold ArsAt AllAt; exact Iff.rfl
 | a :: l, xs => by
  unfold ArsAt AllAt
  constructor
  ·rintro ⟨c, r, e, h1, h2⟩; exact ⟨c, r, e, h1, ars_all.1 h2⟩
  ·rintro ⟨c, r, e, h1, h2⟩; exact ⟨c, r, e, h1, ars_all.2 h2⟩
mutual
theorem ExAt.mono {g g' : Ghost} (hle : Ghost.le g g') : ∀ (e : Ex) (cs : List Value), ExAt g e cs → ExAt g' e cs
 | .mk k p n m ks ra t, cs, h => by
  unfold ExAt at h ⊢
  obtain ⟨slk, xk, sla, xa, tc, h1, h2, h3, h4, h5, h6⟩ := h
  exact ⟨slk, xk, sla, xa, tc, h1, h2.mono hle, ExsAt.mono hle ks xk h3, h4.mono hle, ArsAt.mono hle ra xa h5, h6.mono hle⟩
theorem ExsAt.mono {g g' : Ghost} (hle : Ghost.le g g') : ∀ (l : List Ex) (xs : List Value), ExsAt g l xs → ExsAt g' l xs
 | [], xs, h => by unfold ExsAt at h ⊢; exact h
 | a :: l, xs, h => by
  unfold ExsAt at h ⊢
  obtain ⟨c, r, h1, h2, h3⟩ := h
  exact ⟨c, r, h1, ExAt.mono hle a c h2, ExsAt.mono hle l r h3⟩
theorem ArAt.mono {g g' : Ghost} (hle : Ghost.le g g') : ∀ (a : Ar) (cs : List Value), ArAt g a cs → ArAt g' a cs
 | .mk p c vs b, cs, h => by
  unfold ArAt at h ⊢
  obtain ⟨slv, bc, h1, h2, h3⟩ := h
  exact ⟨slv, bc, h1, h2.mono hle, ExAt.mono hle b bc h3⟩
theorem ArsAt.mono {g g' : Ghost} (hle : Ghost.le g g') : ∀ (l : List Ar) (xs : List Value), ArsAt g l xs → ArsAt g' l xs
 | [], xs, h => by unfold ArsAt at h ⊢; exact h
 | a :: l, xs, h => by
  unfold ArsAt at h ⊢
  obtain ⟨c, r, h1, h2, h3⟩ := h
  exact ⟨c, r, h1, ArAt.mono hle a c h2, ArsAt.mono hle l r h3⟩
end
theorem ExAt.form {g : Ghost} {e : Ex} {cs : List Value} (h : ExAt g e cs) : ∃ (a1 : Option Addr) (m1 c1 : Nat) (a2 : Option Addr) (m2 c2 : Nat) (a3 : Option Addr) (m3 c3 : Nat) (xk xa : List Value),
  cs = [.int .i64 e.kind, .int .i64 e.pos, str e.name, .int .i64 e.num, .slice a1 m1 c1, .slice a2 m2 c2, .int .i64 e.ty.kind, str e.ty.name, .int .i64 e.ty.id, .int .i64 e.ty.home, .slice a3 m3 c3] ∧
  SlAt g 11 (.slice a1 m1 c1) e.kids.length xk ∧ ExsAt g e.kids xk ∧ SlAt g 14 (.slice a2 m2 c2) e.arms.length xa ∧ ArsAt g e.arms xa ∧ TyAt g e.ty (tyCells e.ty (.slice a3 m3 c3)) := by
 cases e with
 | mk k p n m ks ra t =>
  unfold ExAt at h
  obtain ⟨slk, xk, sla, xa, tc, rfl, h2, h3, h4, h5, h6⟩ := h
  obtain ⟨sl, rfl⟩ := h6.cells
  obtain ⟨_, hsl, _⟩ := h6.args
  obtain ⟨a1, m1, c1, rfl⟩ := SlAt.form h2
  obtain ⟨a2, m2, c2, rfl⟩ := SlAt.form h4
  obtain ⟨a3, m3, c3, rfl⟩ := SlAt.form hsl
  exact ⟨a1, m1, c1, a2, m2, c2, a3, m3, c3, xk, xa, rfl, h2, h3, h4, h5, h6⟩
theorem ExAt.one {g : Ghost} {e : Ex} {cs : List Value} (h : ExAt g e cs) : cs.length = 11 ∧ ∀ u ∈ cs, oneC u = true := by
 obtain ⟨a1, m1, c1, a2, m2, c2, a3, m3, c3, xk, xa, rfl, _⟩ := h.form
 refine ⟨rfl, ?_⟩
 intro u hu
 simp only [List.mem_cons, List.not_mem_nil, or_false] at hu
 rcases hu with rfl | rfl | rfl | rfl | rfl | rfl | rfl | rfl | rfl | rfl | rfl <;> rfl
theorem ArAt.one {g : Ghost} {a : Ar} {cs : List Value} (h : ArAt g a cs) : cs.length = 14 ∧ ∀ u ∈ cs, oneC u = true := by
 cases a with
 | mk p c vs b =>
  unfold ArAt at h
  obtain ⟨slv, bc, rfl, h2, h3⟩ := h
  have h4 := h3.one
  obtain ⟨a1, m1, c1, rfl⟩ := SlAt.form h2
  refine ⟨by rw [List.length_append, h4.1]; rfl, ?_⟩
  intro u hu
  rcases List.mem_append.1 hu with hu | hu
  ·simp only [List.mem_cons, List.not_mem_nil, or_false] at hu
   rcases hu with rfl | rfl | rfl <;> rfl
  ·exact h4.2 u hu
def ExV (g : Ghost) (v : Value) (e : Ex) : Prop := ∃ cs, v = .agg cs.toArray ∧ ExAt g e cs
theorem ExV.mono {g g' : Ghost} (hle : Ghost.le g g') {v : Value} {e : Ex} (h : ExV g v e) : ExV g' v e := by
 obtain ⟨cs, h1, h2⟩ := h
 exact ⟨cs, h1, h2.mono hle⟩
theorem ExAt.mk {g : Ghost} {e : Ex} {slk sla sl : Value} {xk xa : List Value} (h1 : SlAt g 11 slk e.kids.length xk) (h2 : ExsAt g e.kids xk) (h3 : SlAt g 14 sla e.arms.length xa) (h4 : ArsAt g e.arms xa) (h5 : TyAt g e.ty (tyCells e.ty sl)) :
  ExAt g e ([.int .i64 e.kind, .int .i64 e.pos, str e.name, .int .i64 e.num, slk, sla] ++ tyCells e.ty sl) := by
 cases e with
 | mk k p n m ks ra t => unfold ExAt; exact ⟨slk, xk, sla, xa, _, rfl, h1, h2, h3, h4, h5⟩
end Go.Proofs.YtpjehhnaojjanaaGreatDoor
-- sum fc286b758d01791e

/- The walks of the reference of chapter 2 (typedholesref2): what each function hands back. -/
namespace Go.Proofs.YtpjehhnaojjanaaGreatDoor
open Go Go.Eng Go.Th Go.Proofs
set_option maxRecDepth 10000
set_option maxHeartbeats 4000000
attribute [local irreducible] wpList Code.wp Run bodyPost Go.Eng.Ends Exit.then Exit.inBlock Again Wq Kq
theorem headD_eq' {s : Bytes} (h : 0 < s.length) : s.headD 0 = s[0] := by
 cases s with
 | nil => simp at h
 | cons a l => rfl
end Go.Proofs.YtpjehhnaojjanaaGreatDoor
-- sum 210665afa0acb524


/- The walks of the reference of chapter 2, second part: Mod, Valid, Scan, Join. -/
namespace Go.Proofs.YtpjehhnaojjanaaGreatDoor
open Go Go.Eng Go.Th Go.Proofs
set_option maxRecDepth 10000
set_option maxHeartbeats 4000000
attribute [local irreducible] wpList Code.wp Run bodyPost Go.Eng.Ends Exit.then Exit.inBlock Again Wq Kq
def tokCells (t : Tok) : List Value := [.int .i64 t.kind, str t.text, .int .i64 t.pos]
@[reducible] def tokV (t : Tok) : Value := .agg #[.int .i64 t.kind, str t.text, .int .i64 t.pos]
theorem tokCells_len (t : Tok) : (tokCells t).length = 3 := rfl

end Go.Proofs.YtpjehhnaojjanaaGreatDoor
-- sum 2dd3be15207b247a


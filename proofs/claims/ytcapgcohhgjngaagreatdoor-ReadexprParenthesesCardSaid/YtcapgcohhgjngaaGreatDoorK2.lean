/- The walking engine, seventh part: regions that draw their order and in which some operations act ('h_*': what only reads is taken first, what acts comes up when nothing else can); calls of function values. -/
import Derived.Test.YtcapgcohhgjngaaGreatDoorK1
import Derived.OrdersHeld
import Derived.WalkSpells
import Derived.Lib.LazyBuf
import Derived.StillTail
namespace Go.Eng
open Go Go.RowKit
/-- What the walk knows of the ghost at the region's start. -/
def GFact (E : Env) (g : Ghost) : Prop := Ghost.le E.g0 g ∧ ∀ b o, g b o ≠ E.g0 b o → E.w0.heap.size ≤ b ∨ b ∈ E.F0
theorem GFact.of {E : Env} {g : Ghost} {own : List Res} {w : World} (h : Inv E g own w) : GFact E g := ⟨h.2.gle, h.2.gnew⟩
theorem Inv.back {E : Env} {g g' : Ghost} {own own' : List Res} {w : World} (hG : GFact E g) (hle : Ghost.le g g') (hs : own.Sublist own') (h : Inv E g' own' w) : Inv E g own w := by
  have h1 : Inv E g' own w := h.drop hs
  refine ⟨⟨fun b o v hv => h1.1.cov b o v (hle b o v hv), h1.1.sat, h1.1.dis, fun b hb o => ?_⟩, ⟨h1.2.size, h1.2.kept, h1.2.tape, h1.2.os, h1.2.output, hG.1, hG.2, h1.2.ofoot⟩⟩
  cases hv : g b o with
  | none => rfl
  | some v => have := h1.1.gn b hb o; rw [hle b o v hv] at this; cases this
/-- The exits of a panic are shut. -/
class NP (Q : Exit → Act → World → Prop) : Prop where
  no : ∀ c a w, ¬ Q (.panic c) a w
instance {next : Act → World → Prop} {Q : Exit → Act → World → Prop} [h : NP Q] : NP (Exit.then next Q) := ⟨fun c a w hq => h.no c a w hq⟩
instance {id : Nat} {Q : Exit → Act → World → Prop} [h : NP Q] : NP (Exit.inBlock id Q) := ⟨fun c a w hq => h.no c a w hq⟩
instance {P : Program} {fn : Func} {E : Env} {Post : Value → Ghost → List Res → Prop} : NP (bodyPost P fn (Ends E Post)) := ⟨fun _ _ _ ⟨_, _, _, _, h, _⟩ => by cases h⟩
theorem upon_then {P : Program} {o : Oper} {a : Act} {K : Act → World → Prop} {Q : Exit → Act → World → Prop} {r : Result Next} (h : o.upon P a K (Exit.then K Q) r) : o.upon P a K Q r := by
  cases r with
  | ok n w' =>
    cases n <;> simp only [Oper.upon] at h ⊢
    case value => exact h
    case skip => exact h
    case defer => exact h
    case enter f args =>
      refine Calls.mono h fun e w'' he => ?_
      cases e with
      | returned u => exact he
      | panicked c => exact he
      | outgrown => exact he
    case row => exact h
  | halt x w' =>
    cases x <;> simp only [Oper.upon] at h ⊢
    case panic u => exact h
/-- A drawn region on its way. -/
def Hq (P : Program) (ops : Array Oper) (Q : Exit → Act → World → Prop) (S : World → Prop) (fuel : Nat) (listed : Array Bool) : Act → World → Prop := wpAnyH P .any ops Q S fuel listed
section
variable {P : Program} {E : Env} {n : Nat} {L : Slots} {g : Ghost} {own : List Res} {Q : Exit → Act → World → Prop} {ops : Array Oper} {rest : List Oper}
variable {d : Nat} {ty : TypeId} {pos : String} {after : Array Edge} {fuel : Nat} {listed : Array Bool} {own0 : List Res} {S : World → Prop}
theorem all_cons {v : Value} {r : List Value} (h : oneC v = true) (h' : allOne r = true) : allOne (v :: r) = true := by simp only [allOne, h, h']
theorem cells_one {v : Value} (h : oneC v = true) : cellsOf v = some [v] := by cases v <;> simp_all [oneC, cellsOf]
theorem r_rowOne {X : Act → World → Prop} {T : TypeId} {size m : Nat} {v : Value} {xs : List Value} (i : Nat) (h : own[i]? = some (.row T size v m xs)) (k : oneC v = true → Run E n L g own X) : Run E n L g own X := fun a w hF hI => by
  have hs : w.ownsRow 0 T size v m xs := sat_at hI h
  refine k ?_ a w hF hI
  rcases hs.2 with ⟨rfl, _⟩ | ⟨b, cap, cur, rfl, _⟩ <;> rfl
/-! What kind of operation comes next (for the search alone). -/
theorem is_wb {o : BinOp} {T T' : TypeId} {x y : Operand} (h : Run E n L g own (wpList P ops Q (⟨some d, .binOp o T x y T', ty, pos, after, none⟩ :: rest))) : Run E n L g own (wpList P ops Q (⟨some d, .binOp o T x y T', ty, pos, after, none⟩ :: rest)) := h
theorem is_wix {T : TypeId} {x y : Operand} (h : Run E n L g own (wpList P ops Q (⟨some d, .index T x y, ty, pos, after, none⟩ :: rest))) : Run E n L g own (wpList P ops Q (⟨some d, .index T x y, ty, pos, after, none⟩ :: rest)) := h
theorem is_wia {T : TypeId} {x y : Operand} (h : Run E n L g own (wpList P ops Q (⟨some d, .indexAddr T x y, ty, pos, after, none⟩ :: rest))) : Run E n L g own (wpList P ops Q (⟨some d, .indexAddr T x y, ty, pos, after, none⟩ :: rest)) := h
theorem is_wc {c : Call} (h : Run E n L g own (wpList P ops Q (⟨some d, .call c, ty, pos, after, none⟩ :: rest))) : Run E n L g own (wpList P ops Q (⟨some d, .call c, ty, pos, after, none⟩ :: rest)) := h
theorem is_qb {o : BinOp} {T T' : TypeId} {x y : Operand} {C : World → Prop} {K : Act → Prop} (h : Run E n L g own (Wq P ops C K (⟨some d, .binOp o T x y T', ty, pos, after, none⟩ :: rest))) : Run E n L g own (Wq P ops C K (⟨some d, .binOp o T x y T', ty, pos, after, none⟩ :: rest)) := h
theorem is_qix {T : TypeId} {x y : Operand} {C : World → Prop} {K : Act → Prop} (h : Run E n L g own (Wq P ops C K (⟨some d, .index T x y, ty, pos, after, none⟩ :: rest))) : Run E n L g own (Wq P ops C K (⟨some d, .index T x y, ty, pos, after, none⟩ :: rest)) := h
theorem is_qia {T : TypeId} {x y : Operand} {C : World → Prop} {K : Act → Prop} (h : Run E n L g own (Wq P ops C K (⟨some d, .indexAddr T x y, ty, pos, after, none⟩ :: rest))) : Run E n L g own (Wq P ops C K (⟨some d, .indexAddr T x y, ty, pos, after, none⟩ :: rest)) := h
theorem is_qc {c : Call} {C : World → Prop} {K : Act → Prop} (h : Run E n L g own (Wq P ops C K (⟨some d, .call c, ty, pos, after, none⟩ :: rest))) : Run E n L g own (Wq P ops C K (⟨some d, .call c, ty, pos, after, none⟩ :: rest)) := h
theorem h_begin {id : Nat} {l : List Oper} (own0 : List Res) (hm : MixedB P = true) (hs : own0.Sublist own)
    (h : GFact E g → Run E n L g own (Hq P l.toArray Q (Inv E g own0) l.length (Array.replicate l.length false))) : Run E n L g own ((Code.region id l.toArray true).wp P Q) := fun a w hF hI =>
  wp_region_held (S := Inv E g own0) hm (by
    have := h (GFact.of hI) a _ hF hI.drew
    unfold Hq at this
    simpa using this)
/-- What the region leaves alone is told by the places of the rest (the greatest first). -/
theorem erase_sub : ∀ (js : List Nat) (own : List Res), (js.foldl (fun l j => l.eraseIdx j) own).Sublist own
  | [], own => List.Sublist.refl _
  | j :: js, own => (erase_sub js (own.eraseIdx j)).trans (List.eraseIdx_sublist ..)
theorem h_beginE {id : Nat} {l : List Oper} (js : List Nat) (hm : MixedB P = true)
    (h : GFact E g → Run E n L g own (Hq P l.toArray Q (Inv E g (js.foldl (fun l j => l.eraseIdx j) own)) l.length (Array.replicate l.length false))) : Run E n L g own ((Code.region id l.toArray true).wp P Q) :=
  h_begin _ hm (erase_sub js own) h
theorem h_done (hr : Region.ready .any ops listed = []) (h : Run E n L g own (Q .normal)) : Run E n L g own (Hq P ops Q S fuel listed) := fun a w hF hI => wpAnyH_done hr (h a w hF hI) fuel
/-- Another condition from here on. -/
theorem wpAnyH_mono {S S' : World → Prop} (hS : ∀ w, S' w → S w) : ∀ (fuel : Nat) (listed : Array Bool) (a : Act) (w : World), wpAnyH P .any ops Q S' fuel listed a w → wpAnyH P .any ops Q S fuel listed a w
  | 0, _, _, _, h => h
  | fuel + 1, _, _, _, h => ⟨h.1, fun i hi => wpOp_mono (fun a' w' h' => ⟨hS w' h'.1, wpAnyH_mono hS fuel _ a' w' h'.2⟩) (h.2 i hi)⟩
theorem h_more {g0 : Ghost} (own1 : List Res) (hG : GFact E g0) (hle : Ghost.le g0 g) (hs0 : own0.Sublist own1) (hs : own1.Sublist own)
    (h : GFact E g → Run E n L g own (Hq P ops Q (Inv E g own1) fuel listed)) : Run E n L g own (Hq P ops Q (Inv E g0 own0) fuel listed) := fun a w hF hI =>
  wpAnyH_mono (fun w' hw' => hw'.back hG hle hs0) fuel listed a w (h (GFact.of hI) a w hF hI)
theorem h_take [hN : NP Q] {g0 : Ghost} {op : Op} {v : Value} (i : Nat) (hi : ops[i]? = some ⟨some d, op, ty, pos, after, none⟩) (hB : (Region.noSelect ops && Region.free .any ops listed i && (Region.ready .any ops listed).contains i) = true)
    (hd : Nat.blt d n = true) (hG : GFact E g0) (hle : Ghost.le g0 g) (hsub : own0.Sublist own) (hv : Val P E n L g0 own0 ty op v)
    (k : Run E n ((d, v) :: L) g own (Hq P ops Q (Inv E g0 own0) fuel (listed.setIfInBounds i true))) : Run E n L g own (Hq P ops Q (Inv E g0 own0) (fuel + 1) listed) := fun a w hF hI => by
  simp only [Bool.and_eq_true] at hB
  refine wpAnyH_take hi hB.1.1 hB.1.2 hB.2 (fun c a' w' h => absurd h (hN.no c _ w')) (v := v) (.inl ⟨rfl, fun w' hw' => hv a w' (some d) pos after hF hw'⟩) (hI.back hG hle hsub) ?_
  exact k _ w (hF.put hd v) hI
theorem h_takeG [hN : NP Q] {g0 : Ghost} {op : Op} {v : Value} {j : Nat} {b : Bool} (i : Nat) (hi : ops[i]? = some ⟨some d, op, ty, pos, after, some (j, b)⟩) (hg : gd L ops j = some b) (hB : (Region.noSelect ops && Region.free .any ops listed i && (Region.ready .any ops listed).contains i) = true)
    (hd : Nat.blt d n = true) (hG : GFact E g0) (hle : Ghost.le g0 g) (hsub : own0.Sublist own) (hv : Val P E n L g0 own0 ty op v)
    (k : Run E n ((d, v) :: L) g own (Hq P ops Q (Inv E g0 own0) fuel (listed.setIfInBounds i true))) : Run E n L g own (Hq P ops Q (Inv E g0 own0) (fuel + 1) listed) := fun a w hF hI => by
  simp only [Bool.and_eq_true] at hB
  refine wpAnyH_take hi hB.1.1 hB.1.2 hB.2 (fun c a' w' h => absurd h (hN.no c _ w')) (v := v) (.inl ⟨?_, fun w' hw' => ?_⟩) (hI.back hG hle hsub) ?_
  · simp [Region.wanted, gd_spec hF hg]
  · have := hv a w' (some d) pos after hF hw'
    simpa [execOp] using this
  · exact k _ w (hF.put hd v) hI
theorem h_pass [hN : NP Q] {g0 : Ghost} {op : Op} {j : Nat} {b b' : Bool} (i : Nat) (hi : ops[i]? = some ⟨some d, op, ty, pos, after, some (j, b)⟩) (hg : gd L ops j = some b') (hne : (b' == b) = false) (hB : (Region.noSelect ops && Region.free .any ops listed i && (Region.ready .any ops listed).contains i) = true)
    (hd : Nat.blt d n = true) (hG : GFact E g0) (hle : Ghost.le g0 g) (hsub : own0.Sublist own)
    (k : Run E n ((d, undef) :: L) g own (Hq P ops Q (Inv E g0 own0) fuel (listed.setIfInBounds i true))) : Run E n L g own (Hq P ops Q (Inv E g0 own0) (fuel + 1) listed) := fun a w hF hI => by
  simp only [Bool.and_eq_true] at hB
  refine wpAnyH_take hi hB.1.1 hB.1.2 hB.2 (fun c a' w' h => absurd h (hN.no c _ w')) (v := undef) (.inr ⟨?_, rfl⟩) (hI.back hG hle hsub) ?_
  · have hne' : ¬ b' = b := by simpa using hne
    simp [Region.wanted, gd_spec hF hg, hne']
  · exact k _ w (hF.put hd undef) hI
theorem h_takeX [hN : NP Q] {g0 : Ghost} {op : Op} (i : Nat) (hi : ops[i]? = some ⟨some d, op, ty, pos, after, none⟩) (hB : (Region.noSelect ops && Region.free .any ops listed i && (Region.ready .any ops listed).contains i) = true)
    (hd : Nat.blt d n = true) (hG : GFact E g0) (hle : Ghost.le g0 g) (hsub : own0.Sublist own) (h : ∃ v, Val P E n L g0 own0 ty op v ∧ Run E n ((d, v) :: L) g own (Hq P ops Q (Inv E g0 own0) fuel (listed.setIfInBounds i true))) : Run E n L g own (Hq P ops Q (Inv E g0 own0) (fuel + 1) listed) :=
  let ⟨_, hv, k⟩ := h
  h_take i hi hB hd hG hle hsub hv k
theorem h_takeGX [hN : NP Q] {g0 : Ghost} {op : Op} {j : Nat} {b : Bool} (i : Nat) (hi : ops[i]? = some ⟨some d, op, ty, pos, after, some (j, b)⟩) (hg : gd L ops j = some b) (hB : (Region.noSelect ops && Region.free .any ops listed i && (Region.ready .any ops listed).contains i) = true)
    (hd : Nat.blt d n = true) (hG : GFact E g0) (hle : Ghost.le g0 g) (hsub : own0.Sublist own) (h : ∃ v, Val P E n L g0 own0 ty op v ∧ Run E n ((d, v) :: L) g own (Hq P ops Q (Inv E g0 own0) fuel (listed.setIfInBounds i true))) : Run E n L g own (Hq P ops Q (Inv E g0 own0) (fuel + 1) listed) :=
  let ⟨_, hv, k⟩ := h
  h_takeG i hi hg hB hd hG hle hsub hv k
theorem is_hn {op : Op} (i : Nat) (_hi : ops[i]? = some ⟨some d, op, ty, pos, after, none⟩) (k : Run E n L g own (Hq P ops Q S fuel listed)) : Run E n L g own (Hq P ops Q S fuel listed) := k
theorem is_hg {op : Op} {x : Nat × Bool} (i : Nat) (_hi : ops[i]? = some ⟨some d, op, ty, pos, after, some x⟩) (k : Run E n L g own (Hq P ops Q S fuel listed)) : Run E n L g own (Hq P ops Q S fuel listed) := k
/-- What alone can come up comes up. -/
theorem h_one {o : Oper} (i : Nat) (hr : Region.ready .any ops listed = [i]) (hi : ops[i]? = some o)
    (h : Run E n L g own (wpList P ops (Exit.then (fun a w => S w ∧ Hq P ops Q S fuel (listed.setIfInBounds i true) a w) Q) [o])) : Run E n L g own (Hq P ops Q S (fuel + 1) listed) := fun a w hF hI => by
  refine wpAnyH_all hr (by simp) ?_
  intro j hj
  obtain rfl : j = i := by simpa using hj
  have h1 := h a w hF hI
  unfold wpOp
  simp only [hi]
  unfold wpList at h1
  split
  · rename_i hw
    rw [if_pos hw] at h1
    rcases h1 with h1 | ⟨h1, h2⟩
    · exact .inl (upon_then h1)
    · exact .inr ⟨h1, h2⟩
  · rename_i hw
    rw [if_neg hw] at h1
    exact h1
theorem h_two {o o' : Oper} (i i' : Nat) (hr : Region.ready .any ops listed = [i, i']) (hi : ops[i]? = some o) (hi' : ops[i']? = some o')
    (h : Run E n L g own (wpList P ops (Exit.then (fun a w => S w ∧ Hq P ops Q S fuel (listed.setIfInBounds i true) a w) Q) [o]))
    (h' : Run E n L g own (wpList P ops (Exit.then (fun a w => S w ∧ Hq P ops Q S fuel (listed.setIfInBounds i' true) a w) Q) [o'])) : Run E n L g own (Hq P ops Q S (fuel + 1) listed) := fun a w hF hI => by
  have aux : ∀ (j : Nat) (q : Oper), ops[j]? = some q → wpList P ops (Exit.then (fun a w => S w ∧ Hq P ops Q S fuel (listed.setIfInBounds j true) a w) Q) [q] a w →
      wpOp P ops Q j (fun a' w' => S w' ∧ wpAnyH P .any ops Q S fuel (listed.setIfInBounds j true) a' w') a w := by
    intro j q hq h1
    unfold wpOp
    simp only [hq]
    unfold wpList at h1
    split
    · rename_i hw
      rw [if_pos hw] at h1
      rcases h1 with h1 | ⟨h1, h2⟩
      · exact .inl (upon_then h1)
      · exact .inr ⟨h1, h2⟩
    · rename_i hw
      rw [if_neg hw] at h1
      exact h1
  refine wpAnyH_all hr (by simp) ?_
  intro j hj
  simp only [List.mem_cons, List.not_mem_nil, or_false] at hj
  rcases hj with rfl | rfl
  · exact aux _ _ hi (h a w hF hI)
  · exact aux _ _ hi' (h' a w hF hI)
/-- Behind what came up: the condition anew. -/
theorem h_kept {g0 : Ghost} {K : Act → World → Prop} (hG : GFact E g0) (hle : Ghost.le g0 g) (hsub : own0.Sublist own) (k : Run E n L g own K) :
    Run E n L g own (fun a w => Inv E g0 own0 w ∧ K a w) := fun a w hF hI => ⟨hI.back hG hle hsub, k a w hF hI⟩
/-- A call of a function value. -/
theorem r_callF' {x : Operand} {f : FuncId} {us cs : List Value} {xs : Array Operand} {ts : Array TypeId} {vals : List Value} {lent kept : List Res} [hB : Body P f] {Post : Value → Ghost → List Res → Prop} (hd : Nat.blt d n = true)
    (hc : ev L x = some (.func (.func f) us.toArray cs.toArray)) (hx : evs L xs.toList = some vals)
    (hp : own.Perm (lent ++ kept)) (hs : Spec P f (us ++ vals ++ cs) g lent Post)
    (k : ∀ v g' own', Post v g' own' → Ghost.le g g' → Run E n ((d, v) :: L) g' (own' ++ kept) (wpList P ops Q rest)) :
    Run E n L g own (wpList P ops Q (⟨some d, .call ⟨.value x, xs, ts⟩, ty, pos, after, none⟩ :: rest)) :=
  r_step fun a w hF hI => by
    have hb := hB.h
    unfold bodyB at hb
    split at hb
    · rename_i fn hfn
      simp only [Bool.and_eq_true, Bool.not_eq_true', beq_eq_false_iff_ne, ne_eq] at hb
      have hargs : (xs.map a.eval) = vals.toArray := by
        have := hF.evals hx
        apply Array.ext'
        simpa using this
      have hbn : fn.body ≠ none := fun h => by simp [h] at hb
      have h1 : (execOp a.eval ⟨some d, .call ⟨.value x, xs, ts⟩, ty, pos, after, none⟩).run P w = .ok (.enter f (us ++ vals ++ cs).toArray) w := by
        simp [execOp, resolve, hF.eval hc, Deferred.ofValue, invoke, callFunc, hfn, hb.2, hbn, hargs]
      unfold Oper.wp
      rw [h1]
      have hI' : Inv E g (lent ++ kept) w := hI.perm hp
      have hH : Holds g lent w := (hI'.drop (List.sublist_append_left _ _)).1
      refine (hs w hH).mono ?_
      rintro e w' ⟨v, g', own', rfl, hpost, hH', hS'⟩
      refine k v g' own' hpost hS'.gle _ _ (hF.put hd v) ?_
      exact Inv.move hI' hS'.size hS'.tape hS'.os hS'.output hS'.kept hS'.gle hH'.cov hS'.gnew hH'.sat hH'.dis hH'.gn hS'.ofoot
    · cases hb
end
end Go.Eng
namespace Go.Eng
open Go Go.RowKit
theorem lkInt {o : Option Value} {k : IntKind} {a b : Int} (h : o = some (.int k a)) (e : a = b) : o = some (.int k b) := by rw [h, e]
theorem lkStr {o : Option Value} {a b : List UInt8} (h : o = some (str a)) (e : a = b) : o = some (str b) := by rw [h, e]
/-- A contract of a function that borrows one resource and hands it back. -/
def SpecO (P : Program) (f : FuncId) (args : List Value) (g : Ghost) (r : Res) (Φ : Value → Ghost → Prop) : Prop := Spec P f args g [r] fun v g' own' => Φ v g' ∧ own' = [r]
/-- A contract of a function that borrows nothing and hands nothing back. -/
def SpecN (P : Program) (f : FuncId) (args : List Value) (g : Ghost) (Φ : Value → Ghost → Prop) : Prop := Spec P f args g [] fun v g' own' => Φ v g' ∧ own' = []
section
variable {P : Program} {E : Env} {n : Nat} {L : Slots} {g : Ghost} {own : List Res} {Q : Exit → Act → World → Prop} {ops : Array Oper} {rest : List Oper}
variable {d : Nat} {ty : TypeId} {pos : String} {after : Array Edge}
theorem r_callSO {f : FuncId} {xs : Array Operand} {ts : Array TypeId} {vals : List Value} {r : Res} [hB : Body P f] {Φ : Value → Ghost → Prop} (i : Nat) (hd : Nat.blt d n = true) (hx : evs L xs.toList = some vals) (ho : own[i]? = some r)
    (hs : SpecO P f vals g r Φ) (k : ∀ v g', Φ v g' → Ghost.le g g' → Run E n ((d, v) :: L) g' own (wpList P ops Q rest)) :
    Run E n L g own (wpList P ops Q (⟨some d, .call ⟨.value (.func f), xs, ts⟩, ty, pos, after, none⟩ :: rest)) :=
  r_call' (lent := [r]) hd hx (perm_at ho) hs fun v g' own' ⟨h1, h3⟩ hle => by
    subst h3
    exact r_perm (perm_at ho).symm (k v g' h1 hle)
theorem r_callN {f : FuncId} {xs : Array Operand} {ts : Array TypeId} {vals : List Value} [hB : Body P f] {Φ : Value → Ghost → Prop} (hd : Nat.blt d n = true) (hx : evs L xs.toList = some vals)
    (hs : SpecN P f vals g Φ) (k : ∀ v g', Φ v g' → Ghost.le g g' → Run E n ((d, v) :: L) g' own (wpList P ops Q rest)) :
    Run E n L g own (wpList P ops Q (⟨some d, .call ⟨.value (.func f), xs, ts⟩, ty, pos, after, none⟩ :: rest)) :=
  r_call hd hx hs fun v g' own' ⟨h1, h3⟩ hle => by
    subst h3
    exact k v g' h1 hle
theorem specN_of_below {f : FuncId} {vals : List Value} {Φ : Value → Prop} (h : ∀ w, Holds g [] w → Calls P f vals.toArray w fun e w' => ∃ v, e = .returned v ∧ Φ v ∧ Below w.heap.size w w') : SpecN P f vals g fun v g' => Φ v ∧ g' = g := fun w hH =>
  (h w hH).mono fun e w' ⟨v, he, hv, hb⟩ => ⟨v, g, [], he, ⟨⟨hv, rfl⟩, rfl⟩,
    Inv.move (lent := []) (got := []) (kept := []) (Inv.start hH) hb.size hb.tape hb.os hb.output (fun b hlt _ => hb.block b hlt) (Ghost.le_refl g)
      (cov_keep (lent := []) hH (by simp) (fun b hlt _ => hb.block b hlt)) (fun _ _ h => absurd rfl h) (by simp) (by simp [foots]) (by simp [foots]) (by simp [foots])⟩
theorem val_subK {x y : Operand} {T T' : TypeId} {K : IntKind} {p q : Int} (hx : ev L x = some (.int K p)) (hy : ev L y = some (.int K q)) (hw : K.wrap (p - q) = p - q) :
    Val P E n L g own ty (.binOp .sub T x y T') (.int K (p - q)) := fun a w dst pos after hF _ => by simp [execOp, hF.eval hx, hF.eval hy, eqGuard, binOp, Op.intArith, hw]
theorem val_neq_bool {x y : Operand} {T T' : TypeId} {p q : Bool} (hx : ev L x = some (.bool p)) (hy : ev L y = some (.bool q)) (hT : P.underlying T = some .bool) :
    Val P E n L g own ty (.binOp .neq T x y T') (.bool (!(p == q))) := fun a w dst pos after hF _ => by
  have h : (Op.equal T (.bool p) (.bool q)).run P w = .ok (p == q) w := by
    obtain ⟨m, hm⟩ : ∃ m, Op.maxDepth = m + 1 := ⟨9999, rfl⟩
    unfold Op.equal
    rw [hm, Op.equalIn]
    simp only [Sem.run_bind, run_underlying hT, Result.andThen_ok]
    rfl
  simp [execOp, hF.eval hx, hF.eval hy, eqGuard, binOp, h]
end
end Go.Eng
-- sum e4cb2fab76fe95f4
/- The walking engine, eighth part: slices compared with nil, append of nothing. -/
namespace Go.Eng
open Go Go.RowKit
section
variable {P : Program} {E : Env} {n : Nat} {L : Slots} {g : Ghost} {own : List Res} {Q : Exit → Act → World → Prop} {ops : Array Oper} {rest : List Oper}
variable {d : Nat} {ty : TypeId} {pos : String} {after : Array Edge}
theorem val_eql_slnil {x y : Operand} {T T' e : TypeId} {k0 by0 : Nat} [hT : SlT P T e k0 by0] {a : Option Addr} {m c : Nat} (hx : ev L x = some (.slice a m c)) (hy : ev L y = some (.slice none 0 0)) :
    Val P E n L g own ty (.binOp .eql T x y T') (.bool a.isNone) := fun aa w dst pos after hF _ => by
  have h := Lib.run_eql_slice_nil (P := P) w T e a m c 0 0 hT.u
  simp [execOp, hF.eval hx, hF.eval hy, eqGuard, h]
theorem r_append0 {x y : Operand} {T e : TypeId} {sz by0 : Nat} [hT : SlT P T e sz by0] {v : Value} {m c' : Nat} {xs : List Value} {base : Option Addr} (i : Nat)
    (hd : Nat.blt d n = true) (hx : ev L x = some v) (hy : ev L y = some (.slice base 0 c')) (ho : own[i]? = some (.row e sz v m xs))
    (k : Run E n ((d, v) :: L) g own (wpList P ops Q rest)) :
    Run E n L g own (wpList P ops Q (⟨some d, .call ⟨.builtin .append, #[x, y], #[T, T]⟩, ty, pos, after, none⟩ :: rest)) :=
  r_step fun a w hF hI => by
    obtain ⟨inf, hi, hisz, hiby⟩ := infoSl hT
    have hown : w.ownsRow 0 e sz v m xs := sat_at hI ho
    have hrun : (Builtin.append_ #[T, T] ty #[v, .slice base 0 c']).run P w = .ok v w := by
      obtain ⟨hxl, hown⟩ := hown
      rcases hown with ⟨rfl, rfl⟩ | ⟨gb, cap, cur, rfl, _, hg, hnc, hcm, hcs, _⟩
      · cases base <;> simp [Builtin.append_, run_underlying hT.u, sizeOf, typeInfo, hi, Builtin.lenOf, Builtin.firstCells, loadCells, loadCellsFrom]
      · cases base <;> simp [Builtin.append_, run_underlying hT.u, sizeOf, typeInfo, hi, Builtin.lenOf, Builtin.firstCells, loadCells, loadCellsFrom, hnc, storeCells]
    have hr : (execOp a.eval ⟨some d, .call ⟨.builtin .append, #[x, y], #[T, T]⟩, ty, pos, after, none⟩).run P w = .ok (.value v) w := by
      simp [execOp, resolve, invoke, builtin, hF.eval hx, hF.eval hy, hrun]
    unfold Oper.wp
    rw [hr]
    exact k _ _ (hF.put hd v) hI
/-- append of what is known to a row of one's own, whatever its length. -/
theorem r_appendAt {x y : Operand} {T e : TypeId} {sz by0 : Nat} [hT : SlT P T e sz by0] {zs : List Value} [hZ : Zero P e zs] {v : Value} {m : Nat} {xs : List Value} {u : Value} {m' : Nat} {news : List Value} (i : Nat)
    (hd : Nat.blt d n = true) (hx : ev L x = some v) (hy : ev L y = some u) (ho : own[i]? = some (.row e sz v m xs)) (hu : SlAt g sz u m' news)
    (hzl : Nat.beq zs.length sz = true) (hsz : Nat.blt 0 sz = true) (h1 : ∀ u ∈ news, oneC u = true) (hb1 : m + m' ≤ maxLen) (hb2 : (m + m') * by0 ≤ 140737488355328)
    (k : ∀ v', (v' = .slice none 0 0 ↔ v = .slice none 0 0 ∧ m' = 0) → Run E n ((d, v') :: L) g (own.set i (.row e sz v' (m + m') (xs ++ news))) (wpList P ops Q rest)) :
    Run E n L g own (wpList P ops Q (⟨some d, .call ⟨.builtin .append, #[x, y], #[T, T]⟩, ty, pos, after, none⟩ :: rest)) := by
  obtain ⟨hl, h0 | ⟨b, off, cap, rfl, _, _, hx3⟩⟩ := hu
  · obtain ⟨⟨a, c, rfl⟩, rfl⟩ := h0
    have hn : news = [] := List.eq_nil_of_length_eq_zero (by simpa using hl)
    subst hn
    refine r_append0 i hd hx hy ho ?_
    have := k v (by simp)
    have hset : own.set i (.row e sz v m xs) = own := by
      refine List.ext_getElem? fun j => ?_
      rw [List.getElem?_set]
      split
      · rename_i hj
        subst hj
        rw [ho]
        simp [(List.getElem?_eq_some_iff.1 ho).1]
      · rfl
    simpa [hset] using this
  · exact r_append i hd hx hy ho (Nat.eq_of_beq_eq_true hzl) (Nat.blt_eq.mp hsz) hl (.inr ⟨_, _, rfl, rd_g hx3⟩) h1 hb1 hb2 k
end
end Go.Eng
namespace Go.Eng
open Go Go.RowKit
/-! Regions that draw their order, whose head only reads and whose tail comes in one order. -/
def St (P : Program) (ops : Array Oper) (K : Act → World → Prop) (l : List Oper) : Act → World → Prop := fun a w => wpStill P ops w (fun a' => K a' w) l a
section
variable {P : Program} {E : Env} {n : Nat} {L : Slots} {g : Ghost} {own : List Res} {Q : Exit → Act → World → Prop} {ops : Array Oper} {rest : List Oper}
variable {d : Nat} {ty : TypeId} {pos : String} {after : Array Edge} {K : Act → World → Prop}
theorem s_region {id : Nat} {l : List Oper} (m : Nat) (hm : MixedB P = true) (hB : Region.lexTailB .any l.toArray m = true)
    (h : Run E n L g own (St P l.toArray (wpList P l.toArray Q (l.drop m)) (l.take m))) : Run E n L g own ((Code.region id l.toArray true).wp P Q) := fun a w hF hI =>
  wp_region_still_tail m hm hB (h a _ hF hI.drew)
theorem s_end (h : Run E n L g own K) : Run E n L g own (St P ops K []) := h
theorem s_v {op : Op} (h : Nat.blt d n = true) (hv : ∃ v, Val P E n L g own ty op v ∧ Run E n ((d, v) :: L) g own (St P ops K rest)) : Run E n L g own (St P ops K (⟨some d, op, ty, pos, after, none⟩ :: rest)) := fun a w hF hI => by
  obtain ⟨v, hv, k⟩ := hv
  have h1 := hv a w (some d) pos after hF hI
  unfold St wpStill
  simp only [Region.wanted, if_true]
  unfold Oper.still
  rw [h1]
  exact ⟨rfl, k _ w (hF.put h v) hI⟩
end
end Go.Eng
namespace Go.Eng
open Go Go.RowKit
/-- A contract of a function that borrows one resource and hands back another in its place. -/
def SpecL (P : Program) (f : FuncId) (args : List Value) (g : Ghost) (r : Res) (Φ : Value → Ghost → Res → Prop) : Prop := Spec P f args g [r] fun v g' own' => ∃ r', own' = [r'] ∧ Φ v g' r'
section
variable {P : Program} {E : Env} {n : Nat} {L : Slots} {g : Ghost} {own : List Res} {Q : Exit → Act → World → Prop} {ops : Array Oper} {rest : List Oper}
variable {d : Nat} {ty : TypeId} {pos : String} {after : Array Edge}
theorem r_callL {f : FuncId} {xs : Array Operand} {ts : Array TypeId} {vals : List Value} {r : Res} [hB : Body P f] {Φ : Value → Ghost → Res → Prop} (i : Nat) (hd : Nat.blt d n = true) (hx : evs L xs.toList = some vals) (ho : own[i]? = some r)
    (hs : SpecL P f vals g r Φ) (k : ∀ v g' r', Φ v g' r' → Ghost.le g g' → Run E n ((d, v) :: L) g' (own.set i r') (wpList P ops Q rest)) :
    Run E n L g own (wpList P ops Q (⟨some d, .call ⟨.value (.func f), xs, ts⟩, ty, pos, after, none⟩ :: rest)) :=
  r_call' (lent := [r]) hd hx (perm_at ho) hs fun v g' own' ⟨r', h1, h3⟩ hle => by
    subst h1
    have hlt : i < own.length := (List.getElem?_eq_some_iff.1 ho).1
    have hp := perm_at (own := own.set i r') (i := i) (r := r') (by simp [hlt])
    rw [List.eraseIdx_set_eq] at hp
    exact r_perm hp.symm (k v g' r' h3 hle)
end
end Go.Eng
-- sum dd6ad717afe20822
/- The walking engine, ninth part: regions that draw their order, with a head in which some operations act and a tail that comes in one order behind all of the head ('m_*': a store at the end may hit what the head has read). -/
namespace Go.Eng
open Go Go.RowKit
section
variable {P : Program} {ops : Array Oper} {Q : Exit → Act → World → Prop} {S : World → Prop} {m : Nat} {T : Array Bool → Act → World → Prop}
/-- Whatever order the head takes; behind each of its operations the condition holds; behind the head comes T. -/
def wpHead (P : Program) (ops : Array Oper) (Q : Exit → Act → World → Prop) (S : World → Prop) (m : Nat) (T : Array Bool → Act → World → Prop) : Nat → Array Bool → Act → World → Prop
  | 0, listed, a, w => T listed a w
  | f + 1, listed, a, w => Region.ready .any ops listed ≠ [] ∧ ∀ i ∈ Region.ready .any ops listed, i < m ∧ wpOp P ops Q i (fun a' w' => S w' ∧ wpHead P ops Q S m T f (listed.setIfInBounds i true) a' w') a w
theorem any_of_head {k : Nat} (hT : ∀ listed a w, T listed a w → wpAny P .any ops Q k listed a w) : ∀ (f : Nat) (listed : Array Bool) (a : Act) (w : World), wpHead P ops Q S m T f listed a w → wpAny P .any ops Q (f + k) listed a w
  | 0, listed, a, w, h => by rw [Nat.zero_add]; exact hT _ _ _ h
  | f + 1, listed, a, w, h => by
    rw [show f + 1 + k = (f + k) + 1 by omega]
    exact ⟨fun h0 => absurd h0 h.1, fun i hi => wpOp_mono (fun a' w' h' => any_of_head hT f _ a' w' h'.2) (h.2 i hi).2⟩
theorem wpHead_mono {S' : World → Prop} (hS : ∀ w, S' w → S w) : ∀ (f : Nat) (listed : Array Bool) (a : Act) (w : World), wpHead P ops Q S' m T f listed a w → wpHead P ops Q S m T f listed a w
  | 0, _, _, _, h => h
  | f + 1, _, _, _, h => ⟨h.1, fun i hi => ⟨(h.2 i hi).1, wpOp_mono (fun a' w' h' => ⟨hS w' h'.1, wpHead_mono hS f _ a' w' h'.2⟩) (h.2 i hi).2⟩⟩
theorem wpHead_first {i : Nat} {oi : Oper} {v : Value} (hi : ops[i]? = some oi) (hsel : ∀ (j : Nat) (o : Oper) cs b, ops[j]? = some o → o.op ≠ .select cs b)
    (hQ : ∀ c a w, Q (.panic c) (a.put oi.dst v) w → Q (.panic c) a w) (hs : Region.sinkB .any ops m = true) (hc : Region.chainB .any ops m = true) (hn : m < ops.size) (hin : i < m)
    (hdone : ∀ listed a w, T listed a w → ∀ j ∈ Region.ready .any ops listed, m ≤ j) :
    ∀ (f : Nat) (listed : Array Bool) (a : Act) (w : World), HeadInv .any ops m listed →
      (∀ j oj, ops[j]? = some oj → j ≠ i → listed.getD j true = false → (∀ e ∈ oj.after, Region.binds .any e = true → e.on ≠ i) → oi.apart ops oj = true) →
      i ∈ Region.ready .any ops listed → YieldsIf P ops S oi v a → S w →
      wpHead P ops Q S m T f (listed.setIfInBounds i true) (a.put oi.dst v) w → wpHead P ops Q S m T (f + 1) listed a w := by
  intro f
  induction f with
  | zero =>
    intro listed a w inv _ hr hy hS H
    have hun := (mem_ready.1 hr).1
    refine ⟨fun h => (by rw [h] at hr; cases hr), fun j hj => ?_⟩
    have hjm : j < m := by
      rcases Nat.lt_or_ge j m with h | h
      · exact h
      · exact absurd hj (tail_waits hs hc hn inv _ i rfl hin hun j h)
    refine ⟨hjm, ?_⟩
    by_cases hji : j = i
    · subst hji; exact hy.wpOp hi hS ⟨hS, H⟩
    · have := hdone _ _ _ H j (ready_mono hj hji)
      omega
  | succ f ih =>
    intro listed a w inv hfree hr hy hS H
    have hun := (mem_ready.1 hr).1
    refine ⟨fun h => (by rw [h] at hr; cases hr), fun j hj => ?_⟩
    have hjm : j < m := by
      rcases Nat.lt_or_ge j m with h | h
      · exact h
      · exact absurd hj (tail_waits hs hc hn inv _ i rfl hin hun j h)
    refine ⟨hjm, ?_⟩
    by_cases hji : j = i
    · subst hji; exact hy.wpOp hi hS ⟨hS, H⟩
    · have h1 := (H.2 j (ready_mono hj hji)).2
      obtain ⟨hjun, oj, hoj, hall⟩ := mem_ready.1 hj
      have hnot : ∀ e ∈ oj.after, Region.binds .any e = true → e.on ≠ i := fun e he hb heq => by
        have h1 := hall e he hb
        rw [heq, getD_both hun] at h1
        cases h1
      have h2 := wpOp_putIf hoj (hfree j oj hoj hji hjun hnot) (fun cs b => hsel i oi cs b hi) (fun cs b => hsel j oj cs b hoj) hQ hy h1
      have hfree' : ∀ k ok, ops[k]? = some ok → k ≠ i → (listed.setIfInBounds j true).getD k true = false →
          (∀ e ∈ ok.after, Region.binds .any e = true → e.on ≠ i) → oi.apart ops ok = true := fun k ok hk hki hun' hno => by
        refine hfree k ok hk hki ?_ hno
        by_cases hjk : j = k
        · subst hjk; exact hjun
        · rw [getD_set_ne true hjk] at hun'; exact hun'
      refine wpOp_mono (fun a' w' h3 => ⟨h3.2.1, ih (listed.setIfInBounds j true) a' w' (inv.set hj hjm) hfree' (ready_mono hr (Ne.symm hji)) h3.1 h3.2.1 ?_⟩) h2
      rw [Array.setIfInBounds_comm _ _ hji]
      exact h3.2.2
/-- The bookkeeping of a head, by reckoning. -/
def headB (ops : Array Oper) (m : Nat) (listed : Array Bool) : Bool := decide (listed.size = ops.size) &&
  ((List.range ops.size).all fun j => match ops[j]? with
    | some oj => !listed.getD j false || oj.after.all fun e => !Region.binds .any e || listed.getD e.on false
    | none => true) && (List.range ops.size).all fun t => decide (t < m) || !listed.getD t true
theorem headB_spec {listed : Array Bool} (h : headB ops m listed = true) : HeadInv .any ops m listed := by
  simp only [headB, Bool.and_eq_true, decide_eq_true_eq, List.all_eq_true, List.mem_range] at h
  obtain ⟨⟨h1, h2⟩, h3⟩ := h
  refine ⟨h1, fun j oj hj hl e he hb => ?_, fun t ht ht' => ?_⟩
  · have := h2 j (Array.getElem?_eq_some_iff.1 hj).1
    rw [hj] at this
    simp only [hl, Bool.not_true, Bool.false_or, Array.all_eq_true_iff_forall_mem] at this
    have := this e he
    simpa [hb] using this
  · have := h3 t ht'
    simp only [Bool.or_eq_true, decide_eq_true_eq, Bool.not_eq_true'] at this
    rcases this with h | h
    · omega
    · exact h
end
/-- A drawn region with a tail, on its way. -/
def Hm (P : Program) (l : List Oper) (Q : Exit → Act → World → Prop) (S : World → Prop) (m f : Nat) (listed : Array Bool) : Act → World → Prop :=
  wpHead P l.toArray Q S m (fun listed' a' w' => Region.seqB .any l.toArray (l.toArray.size - m) m listed' = true ∧ wpList P l.toArray Q (l.drop m) a' w') f listed
def mB (l : List Oper) (m : Nat) : Bool := Region.noSelect l.toArray && decide (m < l.toArray.size) && Region.sinkB .any l.toArray m && Region.chainB .any l.toArray m
section
variable {P : Program} {E : Env} {n : Nat} {L : Slots} {g : Ghost} {own : List Res} {Q : Exit → Act → World → Prop} {l : List Oper} {rest : List Oper}
variable {d : Nat} {ty : TypeId} {pos : String} {after : Array Edge} {f m : Nat} {listed : Array Bool} {own0 : List Res} {S : World → Prop}
theorem m_begin {id : Nat} (m : Nat) (js : List Nat) (hm : MixedB P = true) (hB : mB l m = true)
    (h : GFact E g → Run E n L g own (Hm P l Q (Inv E g (js.foldl (fun l j => l.eraseIdx j) own)) m m (Array.replicate l.length false))) : Run E n L g own ((Code.region id l.toArray true).wp P Q) := fun a w hF hI => by
  have h1 := h (GFact.of hI) a _ hF hI.drew
  simp only [mB, Bool.and_eq_true, decide_eq_true_eq] at hB
  have hlen : m ≤ l.toArray.size := by have := hB.1.1.2; omega
  refine wp_region_any hm ?_
  have h2 := any_of_head (k := l.toArray.size - m) (fun listed a' w' hT => by
    have := wpAny_of_seq (md := .any) (Q' := Q) (l.drop m) m listed a' w' (fun j => by simp [List.getElem?_drop]) (by rw [List.length_drop, ← List.size_toArray]; exact hT.1) hT.2
    rwa [List.length_drop, ← List.size_toArray] at this) _ _ _ _ h1
  rw [show m + (l.toArray.size - m) = l.toArray.size by omega] at h2
  simpa using h2
theorem m_takeX [hN : NP Q] {g0 : Ghost} {op : Op} (i : Nat) (hi : l.toArray[i]? = some ⟨some d, op, ty, pos, after, none⟩)
    (hB : (mB l m && headB l.toArray m listed && Region.free .any l.toArray listed i && (Region.ready .any l.toArray listed).contains i && decide (i < m)) = true)
    (hd : Nat.blt d n = true) (hG : GFact E g0) (hle : Ghost.le g0 g) (hsub : own0.Sublist own) (h : ∃ v, Val P E n L g0 own0 ty op v ∧ Run E n ((d, v) :: L) g own (Hm P l Q (Inv E g0 own0) m f (listed.setIfInBounds i true))) :
    Run E n L g own (Hm P l Q (Inv E g0 own0) m (f + 1) listed) := fun a w hF hI => by
  obtain ⟨v, hv, k⟩ := h
  simp only [mB, Bool.and_eq_true, decide_eq_true_eq] at hB
  obtain ⟨⟨⟨⟨⟨⟨⟨b1, b2⟩, b3⟩, b4⟩, b5⟩, b6⟩, b7⟩, b8⟩ := hB
  exact wpHead_first hi (Region.noSelect_spec b1) (fun c a' w' h => absurd h (hN.no c _ w')) b3 b4 b2 b8 (fun _ _ _ hT => seqB_ready hT.1) f listed a w (headB_spec b5) (Region.free_spec hi b6) (by simpa using b7)
    (.inl ⟨rfl, fun w' hw' => hv a w' (some d) pos after hF hw'⟩) (hI.back hG hle hsub) (k _ w (hF.put hd v) hI)
theorem m_one {o : Oper} (i : Nat) (hr : Region.ready .any l.toArray listed = [i]) (him : Nat.blt i m = true) (hi : l.toArray[i]? = some o)
    (h : Run E n L g own (wpList P l.toArray (Exit.then (fun a w => S w ∧ Hm P l Q S m f (listed.setIfInBounds i true) a w) Q) [o])) : Run E n L g own (Hm P l Q S m (f + 1) listed) := fun a w hF hI => by
  refine ⟨by rw [hr]; simp, ?_⟩
  intro j hj
  rw [hr] at hj
  obtain rfl : j = i := by simpa using hj
  have h1 := h a w hF hI
  refine ⟨Nat.blt_eq.mp him, ?_⟩
  unfold wpOp
  simp only [hi]
  unfold wpList at h1
  split
  · rename_i hw
    rw [if_pos hw] at h1
    rcases h1 with h1 | ⟨h1, h2⟩
    · exact .inl (upon_then h1)
    · exact .inr ⟨h1, h2⟩
  · rename_i hw
    rw [if_neg hw] at h1
    exact h1
theorem m_done (hB : Region.seqB .any l.toArray (l.toArray.size - m) m listed = true) (h : Run E n L g own (wpList P l.toArray Q (l.drop m))) : Run E n L g own (Hm P l Q S m 0 listed) := fun a w hF hI => ⟨hB, h a w hF hI⟩
theorem is_m {op : Op} (i : Nat) (_hi : l.toArray[i]? = some ⟨some d, op, ty, pos, after, none⟩) (k : Run E n L g own (Hm P l Q S m f listed)) : Run E n L g own (Hm P l Q S m f listed) := k
end
end Go.Eng
-- sum 0f2026fe85d9485e
/- The walking engine, tenth part: calls through interfaces, type assertions, stand-ins that read, make or write memory (what errors.As needs). -/
namespace Go.Eng
open Go Go.RowKit
section
variable {P : Program} {E : Env} {n : Nat} {L : Slots} {g : Ghost} {own : List Res} {Q : Exit → Act → World → Prop} {ops : Array Oper} {rest : List Oper}
variable {d : Nat} {ty : TypeId} {pos : String} {after : Array Edge}
theorem args_run {a : Act} (hF : Fr n L a) {xs : Array Operand} {vals : List Value} (hx : evs L xs.toList = some vals) : (xs.map a.eval) = vals.toArray := by
  have := hF.evals hx
  apply Array.ext'
  simpa using this
/-- A stand-in that reads. -/
theorem val_extI {f : FuncId} {e : Array Value → Sem Value} [hE : Ext P f e] {xs : Array Operand} {ts : Array TypeId} {vals : List Value} {v : Value} (hx : evs L xs.toList = some vals) (he : ∀ w, Inv E g own w → (e vals.toArray).run P w = .ok v w) :
    Val P E n L g own ty (.call ⟨.value (.func f), xs, ts⟩) v := fun a w dst pos after hF hI => by
  obtain ⟨fn, h1, h2, h3, h4, h5⟩ := hE.h
  have hargs := args_run hF hx
  have hc := run_callFunc_extern h1 h2 h3 h4 h5 vals.toArray w
  rw [he w hI] at hc
  simpa [execOp, resolve, Act.eval, Deferred.ofValue, invoke, hargs] using hc
/-- A stand-in that makes a block. -/
theorem r_extA {f : FuncId} {e : Array Value → Sem Value} [hE : Ext P f e] {xs : Array Operand} {ts : Array TypeId} {vals : List Value} {mk : Nat → Value} {T : TypeId} {cs : List Value} (hd : Nat.blt d n = true) (hx : evs L xs.toList = some vals)
    (he : ∀ w, (e vals.toArray).run P w = .ok (mk w.heap.size) (w.alloc (.cells cs.toArray T))) (k : ∀ b, Run E n ((d, mk b) :: L) g (.blk b T cs :: own) (wpList P ops Q rest)) :
    Run E n L g own (wpList P ops Q (⟨some d, .call ⟨.value (.func f), xs, ts⟩, ty, pos, after, none⟩ :: rest)) := r_step fun a w hF hI => by
  obtain ⟨fn, h1, h2, h3, h4, h5⟩ := hE.h
  have hargs := args_run hF hx
  have hc := run_callFunc_extern h1 h2 h3 h4 h5 vals.toArray w
  rw [he w] at hc
  have hr : (execOp a.eval ⟨some d, .call ⟨.value (.func f), xs, ts⟩, ty, pos, after, none⟩).run P w = .ok (.value (mk w.heap.size)) (w.alloc (.cells cs.toArray T)) := by
    simpa [execOp, resolve, Act.eval, Deferred.ofValue, invoke, hargs] using hc
  unfold Oper.wp
  rw [hr]
  exact k _ _ _ (hF.put hd _) (hI.alloc T cs)
/-- A stand-in that writes a block of one's own and yields nothing. -/
theorem r_extW {f : FuncId} {e : Array Value → Sem Value} [hE : Ext P f e] {xs : Array Operand} {ts : Array TypeId} {vals : List Value} {v : Value} {b : Nat} {T : TypeId} {cs cs' : List Value} (i : Nat) (hd : Nat.blt d n = true) (hx : evs L xs.toList = some vals) (ho : own[i]? = some (.blk b T cs))
    (he : ∀ w, Inv E g own w → (e vals.toArray).run P w = .ok v (w.setRow b cs'.toArray)) (k : Run E n ((d, v) :: L) g (own.set i (.blk b T cs')) (wpList P ops Q rest)) :
    Run E n L g own (wpList P ops Q (⟨some d, .call ⟨.value (.func f), xs, ts⟩, ty, pos, after, none⟩ :: rest)) := r_step fun a w hF hI => by
  obtain ⟨fn, h1, h2, h3, h4, h5⟩ := hE.h
  have hargs := args_run hF hx
  have hc := run_callFunc_extern h1 h2 h3 h4 h5 vals.toArray w
  rw [he w hI] at hc
  have hr : (execOp a.eval ⟨some d, .call ⟨.value (.func f), xs, ts⟩, ty, pos, after, none⟩).run P w = .ok (.value v) (w.setRow b cs'.toArray) := by
    simpa [execOp, resolve, Act.eval, Deferred.ofValue, invoke, hargs] using hc
  unfold Oper.wp
  rw [hr]
  exact k _ _ (hF.put hd v) (hI.setBlk ho cs')
/-- A method through an interface, that the model stands in for. -/
theorem val_invoke {x : Operand} {name : String} {f : FuncId} {e : Array Value → Sem Value} [hE : Ext P f e] {xs : Array Operand} {ts : Array TypeId} {vals : List Value} {T : TypeId} {u u' v : Value} (hx : ev L x = some (.iface T u)) (hxs : evs L xs.toList = some vals)
    (hm : ∀ w, (Go.method (P.types.size + Made.depth) T u name).run P w = .ok (f, u') w) (he : ∀ w, (e (u' :: vals).toArray).run P w = .ok v w) :
    Val P E n L g own ty (.call ⟨.invoke x name, xs, ts⟩) v := fun a w dst pos after hF _ => by
  obtain ⟨fn, h1, h2, h3, h4, h5⟩ := hE.h
  have hargs := args_run hF hxs
  have hc := run_callFunc_extern h1 h2 h3 h4 h5 (u' :: vals).toArray w
  rw [he w] at hc
  have hp : (program).run P w = .ok P w := rfl
  have hcm : (callMethod (.iface T u) name vals.toArray).run P w = .ok (.value v) w := by
    unfold callMethod
    simp only [Sem.run_bind, hp, Result.andThen_ok, hm w]
    simpa using hc
  simp [execOp, resolve, invoke, hF.eval hx, hargs, hcm]
/-- A method through an interface, that has a body. -/
theorem r_invokeP {x : Operand} {name : String} {f : FuncId} {xs : Array Operand} {ts : Array TypeId} {vals : List Value} {T : TypeId} {u u' v : Value} [hB : Body P f] (hd : Nat.blt d n = true) (hx : ev L x = some (.iface T u)) (hxs : evs L xs.toList = some vals)
    (hm : ∀ w, (Go.method (P.types.size + Made.depth) T u name).run P w = .ok (f, u') w) (hs : Pure P f (u' :: vals) g v) (k : Run E n ((d, v) :: L) g own (wpList P ops Q rest)) :
    Run E n L g own (wpList P ops Q (⟨some d, .call ⟨.invoke x name, xs, ts⟩, ty, pos, after, none⟩ :: rest)) := r_step fun a w hF hI => by
  have hb := hB.h
  unfold bodyB at hb
  split at hb
  · rename_i fn hfn
    simp only [Bool.and_eq_true, Bool.not_eq_true', beq_eq_false_iff_ne, ne_eq] at hb
    have hargs := args_run hF hxs
    have hbn : fn.body ≠ none := fun h => by simp [h] at hb
    have hp : (program).run P w = .ok P w := rfl
    have hcm : (callMethod (.iface T u) name vals.toArray).run P w = .ok (.enter f (u' :: vals).toArray) w := by
      unfold callMethod
      simp only [Sem.run_bind, hp, Result.andThen_ok, hm w]
      simp [callFunc, hp, hfn, hb.2, hbn]
    have h1 : (execOp a.eval ⟨some d, .call ⟨.invoke x name, xs, ts⟩, ty, pos, after, none⟩).run P w = .ok (.enter f (u' :: vals).toArray) w := by
      simp [execOp, resolve, invoke, hF.eval hx, hargs, hcm]
    unfold Oper.wp
    rw [h1]
    have hI' : Inv E g ([] ++ own) w := hI
    have hH : Holds g [] w := (hI'.drop (List.sublist_append_left _ _)).1
    refine (hs w hH).mono ?_
    rintro e w' ⟨v', g', own', rfl, ⟨rfl, rfl, rfl⟩, hH', hS'⟩
    refine k _ _ (hF.put hd _) ?_
    exact Inv.move hI' hS'.size hS'.tape hS'.os hS'.output hS'.kept hS'.gle hH'.cov hS'.gnew hH'.sat hH'.dis hH'.gn hS'.ofoot
  · cases hb
theorem val_tassert {x : Operand} {X T : TypeId} {u v : Value} (hx : ev L x = some u) (h : ∀ w, (Instr.typeAssert u X T true).run P w = .ok v w) : Val P E n L g own ty (.typeAssert x X T true) v := fun a w dst pos after hF _ => by
  simp [execOp, hF.eval hx, h w]
theorem blk_cell {w : World} {i b o : Nat} {T : TypeId} {cs : List Value} {v : Value} (hI : Inv E g own w) (h : own[i]? = some (.blk b T cs)) (hv : cs[o]? = some v) : w.cell? ⟨b, o, none⟩ = some v := by
  have hs : w.heap[b]? = some (.cells cs.toArray T (0, 0)) := sat_at hI h
  simp [World.cell?, hs, hv]
end
end Go.Eng
-- sum 5c37b61a6227fa84
/- Plain law: what the reference of chapter 2 computes, on lists of bytes. No program in sight. -/
namespace Go.Th
abbrev Bytes := List UInt8

structure Tok where
  kind : Int
  text : Bytes
  pos : Int

def lower (c : UInt8) : Bool := decide (97 ≤ c.toNat) && decide (c.toNat ≤ 122)
def upper (c : UInt8) : Bool := decide (65 ≤ c.toNat) && decide (c.toNat ≤ 90)
def digit (c : UInt8) : Bool := decide (48 ≤ c.toNat) && decide (c.toNat ≤ 57)
def inner (c : UInt8) : Bool := lower c || upper c || digit c || decide (c.toNat = 95)
def isWord (s : Bytes) : Bool := s.all inner && !s.isEmpty
def keywords : List Bytes := [[100, 97, 116, 97], [108, 101, 116], [114, 101, 99], [105, 110], [99, 97, 115, 101], [111, 102], [101, 110, 100]]
def isKeyword (s : Bytes) : Bool := decide (s ∈ keywords)
def isLower (s : Bytes) : Bool := isWord s && lower (s.headD 0) && decide (s.length ≤ 12) && !isKeyword s
def isUpper (s : Bytes) : Bool := isWord s && upper (s.headD 0) && decide (s.length ≤ 12)
def isInteger (s : Bytes) : Bool := !s.isEmpty && decide (s.length ≤ 9) && !(decide ((s.headD 0).toNat = 48) && decide (1 < s.length)) && s.all digit
def markBytes : Bytes := [92, 46, 61, 59, 58, 124, 40, 41, 123, 125, 63]
def isMark (s : Bytes) : Bool := decide (s = [45, 62]) || markBytes.any fun c => decide (s = [c])
def kindOf (s : Bytes) : Int := if isKeyword s then 4 else if isLower s then 1 else if isUpper s then 2 else if isInteger s then 3 else if isMark s then 5 else 0

def white (c : UInt8) : Bool := decide (c.toNat = 32) || decide (c.toNat = 9) || decide (c.toNat = 13) || decide (c.toNat = 10)

/-- How many bytes the comment at the head of a text takes. -/
def commentLen : Bytes → Nat
  | [] => 0
  | c :: r => if c.toNat = 10 then 0 else commentLen r + 1
def wordLen : Bytes → Nat
  | [] => 0
  | c :: r => if inner c then wordLen r + 1 else 0
/-- How many bytes the token at the head takes (at least one). -/
def tokLen : Bytes → Nat
  | [] => 0
  | c :: r => if inner c then wordLen r + 1 else if c.toNat = 45 then (match r with | x :: _ => if x.toNat = 62 then 2 else 1 | [] => 1) else 1

/-- The tokens from an offset on, or the offset of the first byte that begins none. -/
def scanGo : Nat → Nat → Bytes → Except Nat (List Tok)
  | 0, _, _ => .ok []
  | _ + 1, _, [] => .ok []
  | f + 1, i, c :: r =>
    if white c then scanGo f (i + 1) r
    else if c.toNat = 35 then scanGo f (i + commentLen (c :: r)) ((c :: r).drop (commentLen (c :: r)))
    else if kindOf ((c :: r).take (tokLen (c :: r))) = 0 then .error i
    else match scanGo f (i + tokLen (c :: r)) ((c :: r).drop (tokLen (c :: r))) with
      | .error e => .error e
      | .ok l => .ok (⟨kindOf ((c :: r).take (tokLen (c :: r))), (c :: r).take (tokLen (c :: r)), i⟩ :: l)

inductive Scanned where
  | ok (l : List Tok)
  | bad (err pos : Int)

def scan (s : Bytes) : Scanned :=
  if 4000 < s.length then .bad 1 0 else match scanGo s.length 0 s with
    | .ok l => .ok l
    | .error p => .bad 2 p

def validTok (t : Tok) : Bool := decide (1 ≤ t.kind) && decide (t.kind ≤ 5) && decide (kindOf t.text = t.kind) && decide (0 ≤ t.pos) && decide (t.pos < 4000)

theorem commentLen_le : ∀ s : Bytes, commentLen s ≤ s.length
  | [] => Nat.le_refl 0
  | c :: r => by have := commentLen_le r; simp only [commentLen]; split <;> simp <;> omega
theorem wordLen_le : ∀ s : Bytes, wordLen s ≤ s.length
  | [] => Nat.le_refl 0
  | c :: r => by have := wordLen_le r; simp only [wordLen]; split <;> simp <;> omega
theorem tokLen_le : ∀ s : Bytes, tokLen s ≤ s.length
  | [] => Nat.le_refl 0
  | c :: r => by
    have := wordLen_le r
    simp only [tokLen]
    split
    · simp; omega
    · split
      · cases r with
        | nil => simp
        | cons x l => simp only; split <;> simp
      · simp
theorem tokLen_pos (c : UInt8) (r : Bytes) : 1 ≤ tokLen (c :: r) := by
  simp only [tokLen]
  split
  · omega
  · split
    · cases r with
      | nil => simp
      | cons x l => simp only; split <;> omega
    · omega
theorem commentLen_pos {c : UInt8} (r : Bytes) (h : c.toNat = 35) : 1 ≤ commentLen (c :: r) := by
  simp only [commentLen]
  rw [if_neg (by omega)]
  omega

/-- The fuel plays no part as long as it suffices. -/
theorem scanGo_fuel : ∀ (f f' i : Nat) (s : Bytes), s.length ≤ f → s.length ≤ f' → scanGo f i s = scanGo f' i s := by
  intro f
  induction f with
  | zero =>
    intro f' i s h _
    have : s = [] := List.eq_nil_of_length_eq_zero (by omega)
    subst this
    cases f' <;> simp [scanGo]
  | succ f ih =>
    intro f' i s h h'
    cases s with
    | nil => cases f' <;> simp [scanGo]
    | cons c r =>
      cases f' with
      | zero => simp at h'
      | succ f' =>
        simp only [List.length_cons] at h h'
        simp only [scanGo]
        have h1 := tokLen_pos c r
        split
        · exact ih _ _ _ (by omega) (by omega)
        · split
          · rename_i hc
            have h2 := commentLen_pos r hc
            exact ih _ _ _ (by simp only [List.length_drop, List.length_cons]; omega) (by simp only [List.length_drop, List.length_cons]; omega)
          · rw [ih f' (i + tokLen (c :: r)) ((c :: r).drop (tokLen (c :: r))) (by simp only [List.length_drop, List.length_cons]; omega) (by simp only [List.length_drop, List.length_cons]; omega)]

/-- The tokens of what is left behind an offset. -/
def scanFrom (i : Nat) (s : Bytes) : Except Nat (List Tok) := scanGo s.length i s
theorem scanFrom_nil (i : Nat) : scanFrom i [] = .ok [] := rfl
theorem scanFrom_white {c : UInt8} {r : Bytes} (i : Nat) (h : white c = true) : scanFrom i (c :: r) = scanFrom (i + 1) r := by
  simp [scanFrom, scanGo, h]
theorem scanFrom_comment {c : UInt8} {r : Bytes} (i : Nat) (h : white c = false) (h' : c.toNat = 35) : scanFrom i (c :: r) = scanFrom (i + commentLen (c :: r)) ((c :: r).drop (commentLen (c :: r))) := by
  have := commentLen_pos r h'
  simp only [scanFrom, List.length_cons, scanGo, h, Bool.false_eq_true, if_false, h', if_true]
  exact scanGo_fuel _ _ _ _ (by simp only [List.length_drop, List.length_cons]; omega) (by simp only [List.length_drop, List.length_cons]; omega)
theorem scanFrom_bad {c : UInt8} {r : Bytes} (i : Nat) (h : white c = false) (h' : c.toNat ≠ 35) (hk : kindOf ((c :: r).take (tokLen (c :: r))) = 0) : scanFrom i (c :: r) = .error i := by
  simp [scanFrom, scanGo, h, h', hk]
theorem scanFrom_tok {c : UInt8} {r : Bytes} (i : Nat) (h : white c = false) (h' : c.toNat ≠ 35) (hk : kindOf ((c :: r).take (tokLen (c :: r))) ≠ 0) :
    scanFrom i (c :: r) = match scanFrom (i + tokLen (c :: r)) ((c :: r).drop (tokLen (c :: r))) with
      | .error e => .error e
      | .ok l => .ok (⟨kindOf ((c :: r).take (tokLen (c :: r))), (c :: r).take (tokLen (c :: r)), i⟩ :: l) := by
  have := tokLen_pos c r
  simp only [scanFrom, List.length_cons, scanGo, h, Bool.false_eq_true, if_false, h', hk]
  rw [scanGo_fuel r.length ((c :: r).drop (tokLen (c :: r))).length _ _ (by simp only [List.length_drop, List.length_cons]; omega) (Nat.le_refl _)]
end Go.Th
-- sum 6c34397b2c3ebfcc
/- Plain law, second part: the scanner as loops see it. -/
namespace Go.Th

/-- What is in front of the rest. -/
def pre (l : List Tok) : Except Nat (List Tok) → Except Nat (List Tok)
  | .ok r => .ok (l ++ r)
  | .error e => .error e
theorem pre_nil (r : Except Nat (List Tok)) : pre [] r = r := by cases r <;> rfl
theorem pre_tok {l : List Tok} {t : Tok} (r : Except Nat (List Tok)) : pre l (match r with | .error e => .error e | .ok x => .ok (t :: x)) = pre (l ++ [t]) r := by
  cases r <;> simp [pre]

theorem drop_cons {s : Bytes} {k : Nat} (h : k < s.length) : s.drop k = s[k] :: s.drop (k + 1) := List.drop_eq_getElem_cons h
theorem commentLen_step {s : Bytes} {k : Nat} (h : k < s.length) (hn : s[k].toNat ≠ 10) : commentLen (s.drop k) = commentLen (s.drop (k + 1)) + 1 := by
  rw [drop_cons h, commentLen, if_neg hn]
theorem commentLen_stop {s : Bytes} {k : Nat} (h : k < s.length) (hn : s[k].toNat = 10) : commentLen (s.drop k) = 0 := by
  rw [drop_cons h, commentLen, if_pos hn]
theorem commentLen_end {s : Bytes} {k : Nat} (h : s.length ≤ k) : commentLen (s.drop k) = 0 := by
  rw [List.drop_eq_nil_of_le h]; rfl
theorem wordLen_step {s : Bytes} {k : Nat} (h : k < s.length) (hn : inner s[k] = true) : wordLen (s.drop k) = wordLen (s.drop (k + 1)) + 1 := by
  rw [drop_cons h, wordLen, if_pos hn]
theorem wordLen_stop {s : Bytes} {k : Nat} (h : k < s.length) (hn : inner s[k] = false) : wordLen (s.drop k) = 0 := by
  rw [drop_cons h, wordLen, hn]; rfl
theorem wordLen_end {s : Bytes} {k : Nat} (h : s.length ≤ k) : wordLen (s.drop k) = 0 := by
  rw [List.drop_eq_nil_of_le h]; rfl
theorem piece_eq (s : Bytes) (i n : Nat) : (s.take (i + n)).drop i = (s.drop i).take n := by
  rw [List.drop_take]; congr 1; omega

theorem tokLen_cons (c : UInt8) (r : Bytes) : tokLen (c :: r) = if inner c then wordLen r + 1 else if c.toNat = 45 then (match r with | x :: _ => if x.toNat = 62 then 2 else 1 | [] => 1) else 1 := by cases r <;> rfl
theorem tokLen_word {s : Bytes} {i : Nat} (h : i < s.length) (hn : inner s[i] = true) : tokLen (s.drop i) = wordLen (s.drop (i + 1)) + 1 := by
  rw [drop_cons h, tokLen_cons, if_pos hn]
theorem tokLen_arrow {s : Bytes} {i : Nat} (h : i + 1 < s.length) (hn : inner s[i] = false) (h1 : s[i].toNat = 45) (h2 : s[i + 1].toNat = 62) : tokLen (s.drop i) = 2 := by
  rw [drop_cons (by omega), drop_cons h, tokLen_cons, if_neg (by simp [hn]), if_pos h1]
  simp [h2]
theorem tokLen_one {s : Bytes} {i : Nat} (h : i < s.length) (hn : inner s[i] = false) (h1 : s[i].toNat = 45 → ∀ h2 : i + 1 < s.length, s[i + 1].toNat ≠ 62) : tokLen (s.drop i) = 1 := by
  rw [drop_cons h, tokLen_cons, if_neg (by simp [hn])]
  split
  · rename_i h45
    by_cases hl : i + 1 < s.length
    · rw [drop_cons hl]
      simp only
      rw [if_neg (h1 h45 hl)]
    · rw [List.drop_eq_nil_of_le (by omega)]
  · rfl

theorem scan_white {s : Bytes} {i : Nat} (h : i < s.length) (hw : white s[i] = true) : scanFrom i (s.drop i) = scanFrom (i + 1) (s.drop (i + 1)) := by
  rw [drop_cons h]; exact scanFrom_white i hw
theorem scan_comment {s : Bytes} {i : Nat} (h : i < s.length) (hw : white s[i] = false) (hc : s[i].toNat = 35) : scanFrom i (s.drop i) = scanFrom (i + commentLen (s.drop i)) (s.drop (i + commentLen (s.drop i))) := by
  have := scanFrom_comment (r := s.drop (i + 1)) i hw hc
  rw [← drop_cons h] at this
  rw [this, List.drop_drop]
theorem scan_bad {s : Bytes} {i : Nat} (h : i < s.length) (hw : white s[i] = false) (hc : s[i].toNat ≠ 35) (hk : kindOf ((s.drop i).take (tokLen (s.drop i))) = 0) : scanFrom i (s.drop i) = .error i := by
  have := scanFrom_bad (r := s.drop (i + 1)) i hw hc
  rw [← drop_cons h] at this
  exact this hk
theorem scan_tok {s : Bytes} {i : Nat} (h : i < s.length) (hw : white s[i] = false) (hc : s[i].toNat ≠ 35) (hk : kindOf ((s.drop i).take (tokLen (s.drop i))) ≠ 0) (l : List Tok) :
    pre l (scanFrom i (s.drop i)) = pre (l ++ [⟨kindOf ((s.drop i).take (tokLen (s.drop i))), (s.drop i).take (tokLen (s.drop i)), i⟩]) (scanFrom (i + tokLen (s.drop i)) (s.drop (i + tokLen (s.drop i)))) := by
  have := scanFrom_tok (r := s.drop (i + 1)) i hw hc
  rw [← drop_cons h] at this
  rw [this hk, List.drop_drop]
  generalize scanFrom (i + tokLen (s.drop i)) (s.drop (i + tokLen (s.drop i))) = r
  cases r <;> simp [pre]
theorem scan_of {s : Bytes} (h : s.length ≤ 4000) : scan s = match scanFrom 0 (s.drop 0) with | .ok l => .ok l | .error p => .bad 2 p := by
  simp only [scan, scanFrom, Nat.not_lt.2 h, if_false, List.drop_zero]
  all_goals (generalize scanGo s.length 0 s = r; cases r <;> rfl)
end Go.Th
-- sum 8e8f4f19f3514373

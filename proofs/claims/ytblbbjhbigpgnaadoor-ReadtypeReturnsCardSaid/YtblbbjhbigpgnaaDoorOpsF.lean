/- The walking engine, seventh part: regions that draw their order and in which some operations act ('h_*': what only reads is taken first, what acts comes up when nothing else can); calls of function values. -/
import Derived.Test.YtblbbjhbigpgnaaDoorOpsE
import Derived.OrdersHeld
namespace Go.Eng
open Go Go.RowKit
/-- What the walk knows of the ghost at the region's start. -/
def GFact (E : Env) (g : Ghost) : Prop := Ghost.le E.g0 g ∧ ∀ b o, g b o ≠ E.g0 b o → E.w0.heap.size ≤ b ∨ b ∈ E.F0
theorem GFact.of {E : Env} {g : Ghost} {own : List Res} {w : World} (h : Inv E g own w) : GFact E g := ⟨h.2.gle, h.2.gnew⟩
theorem Inv.back {E : Env} {g g' : Ghost} {own own' : List Res} {w : World} (hG : GFact E g) (hle : Ghost.le g g') (hs : own.Sublist own') (h : Inv E g' own' w) : Inv E g own w := by
  have h1 : Inv E g' own w := h.drop hs
  refine ⟨⟨fun b o v hv => h1.1.cov b o v (hle b o v hv), h1.1.sat, h1.1.dis, fun b hb o => ?_⟩, ⟨h1.2.size, h1.2.kept, h1.2.tape, h1.2.os, h1.2.output, hG.1, hG.2, h1.2.ofoot⟩⟩
  cases hv : g b o with
  | none => rfl
  | some v => have := h1.1.gn b hb o; rw [hle b o v hv] at this; cases this
/-- The exits of a panic are shut. -/
class NP (Q : Exit → Act → World → Prop) : Prop where
  no : ∀ c a w, ¬ Q (.panic c) a w
instance {next : Act → World → Prop} {Q : Exit → Act → World → Prop} [h : NP Q] : NP (Exit.then next Q) := ⟨fun c a w hq => h.no c a w hq⟩
instance {id : Nat} {Q : Exit → Act → World → Prop} [h : NP Q] : NP (Exit.inBlock id Q) := ⟨fun c a w hq => h.no c a w hq⟩
instance {P : Program} {fn : Func} {E : Env} {Post : Value → Ghost → List Res → Prop} : NP (bodyPost P fn (Ends E Post)) := ⟨fun _ _ _ ⟨_, _, _, _, h, _⟩ => by cases h⟩
theorem upon_then {P : Program} {o : Oper} {a : Act} {K : Act → World → Prop} {Q : Exit → Act → World → Prop} {r : Result Next} (h : o.upon P a K (Exit.then K Q) r) : o.upon P a K Q r := by
  cases r with
  | ok n w' =>
    cases n <;> simp only [Oper.upon] at h ⊢
    case value => exact h
    case skip => exact h
    case defer => exact h
    case enter f args =>
      refine Calls.mono h fun e w'' he => ?_
      cases e with
      | returned u => exact he
      | panicked c => exact he
      | outgrown => exact he
    case row => exact h
  | halt x w' =>
    cases x <;> simp only [Oper.upon] at h ⊢
    case panic u => exact h
/-- A drawn region on its way. -/
def Hq (P : Program) (ops : Array Oper) (Q : Exit → Act → World → Prop) (S : World → Prop) (fuel : Nat) (listed : Array Bool) : Act → World → Prop := wpAnyH P .any ops Q S fuel listed
section
variable {P : Program} {E : Env} {n : Nat} {L : Slots} {g : Ghost} {own : List Res} {Q : Exit → Act → World → Prop} {ops : Array Oper} {rest : List Oper}
variable {d : Nat} {ty : TypeId} {pos : String} {after : Array Edge} {fuel : Nat} {listed : Array Bool} {own0 : List Res} {S : World → Prop}
theorem all_cons {v : Value} {r : List Value} (h : oneC v = true) (h' : allOne r = true) : allOne (v :: r) = true := by simp only [allOne, h, h']
theorem cells_one {v : Value} (h : oneC v = true) : cellsOf v = some [v] := by cases v <;> simp_all [oneC, cellsOf]
theorem r_rowOne {X : Act → World → Prop} {T : TypeId} {size m : Nat} {v : Value} {xs : List Value} (i : Nat) (h : own[i]? = some (.row T size v m xs)) (k : oneC v = true → Run E n L g own X) : Run E n L g own X := fun a w hF hI => by
  have hs : w.ownsRow 0 T size v m xs := sat_at hI h
  refine k ?_ a w hF hI
  rcases hs.2 with ⟨rfl, _⟩ | ⟨b, cap, cur, rfl, _⟩ <;> rfl
/-! What kind of operation comes next (for the search alone). -/
theorem is_wb {o : BinOp} {T T' : TypeId} {x y : Operand} (h : Run E n L g own (wpList P ops Q (⟨some d, .binOp o T x y T', ty, pos, after, none⟩ :: rest))) : Run E n L g own (wpList P ops Q (⟨some d, .binOp o T x y T', ty, pos, after, none⟩ :: rest)) := h
theorem is_wix {T : TypeId} {x y : Operand} (h : Run E n L g own (wpList P ops Q (⟨some d, .index T x y, ty, pos, after, none⟩ :: rest))) : Run E n L g own (wpList P ops Q (⟨some d, .index T x y, ty, pos, after, none⟩ :: rest)) := h
theorem is_wia {T : TypeId} {x y : Operand} (h : Run E n L g own (wpList P ops Q (⟨some d, .indexAddr T x y, ty, pos, after, none⟩ :: rest))) : Run E n L g own (wpList P ops Q (⟨some d, .indexAddr T x y, ty, pos, after, none⟩ :: rest)) := h
theorem is_wc {c : Call} (h : Run E n L g own (wpList P ops Q (⟨some d, .call c, ty, pos, after, none⟩ :: rest))) : Run E n L g own (wpList P ops Q (⟨some d, .call c, ty, pos, after, none⟩ :: rest)) := h
theorem is_qb {o : BinOp} {T T' : TypeId} {x y : Operand} {C : World → Prop} {K : Act → Prop} (h : Run E n L g own (Wq P ops C K (⟨some d, .binOp o T x y T', ty, pos, after, none⟩ :: rest))) : Run E n L g own (Wq P ops C K (⟨some d, .binOp o T x y T', ty, pos, after, none⟩ :: rest)) := h
theorem is_qix {T : TypeId} {x y : Operand} {C : World → Prop} {K : Act → Prop} (h : Run E n L g own (Wq P ops C K (⟨some d, .index T x y, ty, pos, after, none⟩ :: rest))) : Run E n L g own (Wq P ops C K (⟨some d, .index T x y, ty, pos, after, none⟩ :: rest)) := h
theorem is_qia {T : TypeId} {x y : Operand} {C : World → Prop} {K : Act → Prop} (h : Run E n L g own (Wq P ops C K (⟨some d, .indexAddr T x y, ty, pos, after, none⟩ :: rest))) : Run E n L g own (Wq P ops C K (⟨some d, .indexAddr T x y, ty, pos, after, none⟩ :: rest)) := h
theorem is_qc {c : Call} {C : World → Prop} {K : Act → Prop} (h : Run E n L g own (Wq P ops C K (⟨some d, .call c, ty, pos, after, none⟩ :: rest))) : Run E n L g own (Wq P ops C K (⟨some d, .call c, ty, pos, after, none⟩ :: rest)) := h
theorem h_begin {id : Nat} {l : List Oper} (own0 : List Res) (hm : MixedB P = true) (hs : own0.Sublist own)
    (h : GFact E g → Run E n L g own (Hq P l.toArray Q (Inv E g own0) l.length (Array.replicate l.length false))) : Run E n L g own ((Code.region id l.toArray true).wp P Q) := fun a w hF hI =>
  wp_region_held (S := Inv E g own0) hm (by
    have := h (GFact.of hI) a _ hF hI.drew
    unfold Hq at this
    simpa using this)
/-- What the region leaves alone is told by the places of the rest (the greatest first). -/
theorem erase_sub : ∀ (js : List Nat) (own : List Res), (js.foldl (fun l j => l.eraseIdx j) own).Sublist own
  | [], own => List.Sublist.refl _
  | j :: js, own => (erase_sub js (own.eraseIdx j)).trans (List.eraseIdx_sublist ..)
theorem h_beginE {id : Nat} {l : List Oper} (js : List Nat) (hm : MixedB P = true)
    (h : GFact E g → Run E n L g own (Hq P l.toArray Q (Inv E g (js.foldl (fun l j => l.eraseIdx j) own)) l.length (Array.replicate l.length false))) : Run E n L g own ((Code.region id l.toArray true).wp P Q) :=
  h_begin _ hm (erase_sub js own) h
theorem h_done (hr : Region.ready .any ops listed = []) (h : Run E n L g own (Q .normal)) : Run E n L g own (Hq P ops Q S fuel listed) := fun a w hF hI => wpAnyH_done hr (h a w hF hI) fuel
/-- Another condition from here on. -/
theorem wpAnyH_mono {S S' : World → Prop} (hS : ∀ w, S' w → S w) : ∀ (fuel : Nat) (listed : Array Bool) (a : Act) (w : World), wpAnyH P .any ops Q S' fuel listed a w → wpAnyH P .any ops Q S fuel listed a w
  | 0, _, _, _, h => h
  | fuel + 1, _, _, _, h => ⟨h.1, fun i hi => wpOp_mono (fun a' w' h' => ⟨hS w' h'.1, wpAnyH_mono hS fuel _ a' w' h'.2⟩) (h.2 i hi)⟩
theorem h_more {g0 : Ghost} (own1 : List Res) (hG : GFact E g0) (hle : Ghost.le g0 g) (hs0 : own0.Sublist own1) (hs : own1.Sublist own)
    (h : GFact E g → Run E n L g own (Hq P ops Q (Inv E g own1) fuel listed)) : Run E n L g own (Hq P ops Q (Inv E g0 own0) fuel listed) := fun a w hF hI =>
  wpAnyH_mono (fun w' hw' => hw'.back hG hle hs0) fuel listed a w (h (GFact.of hI) a w hF hI)
theorem h_take [hN : NP Q] {g0 : Ghost} {op : Op} {v : Value} (i : Nat) (hi : ops[i]? = some ⟨some d, op, ty, pos, after, none⟩) (hB : (Region.noSelect ops && Region.free .any ops listed i && (Region.ready .any ops listed).contains i) = true)
    (hd : Nat.blt d n = true) (hG : GFact E g0) (hle : Ghost.le g0 g) (hsub : own0.Sublist own) (hv : Val P E n L g0 own0 ty op v)
    (k : Run E n ((d, v) :: L) g own (Hq P ops Q (Inv E g0 own0) fuel (listed.setIfInBounds i true))) : Run E n L g own (Hq P ops Q (Inv E g0 own0) (fuel + 1) listed) := fun a w hF hI => by
  simp only [Bool.and_eq_true] at hB
  refine wpAnyH_take hi hB.1.1 hB.1.2 hB.2 (fun c a' w' h => absurd h (hN.no c _ w')) (v := v) (.inl ⟨rfl, fun w' hw' => hv a w' (some d) pos after hF hw'⟩) (hI.back hG hle hsub) ?_
  exact k _ w (hF.put hd v) hI
theorem h_takeG [hN : NP Q] {g0 : Ghost} {op : Op} {v : Value} {j : Nat} {b : Bool} (i : Nat) (hi : ops[i]? = some ⟨some d, op, ty, pos, after, some (j, b)⟩) (hg : gd L ops j = some b) (hB : (Region.noSelect ops && Region.free .any ops listed i && (Region.ready .any ops listed).contains i) = true)
    (hd : Nat.blt d n = true) (hG : GFact E g0) (hle : Ghost.le g0 g) (hsub : own0.Sublist own) (hv : Val P E n L g0 own0 ty op v)
    (k : Run E n ((d, v) :: L) g own (Hq P ops Q (Inv E g0 own0) fuel (listed.setIfInBounds i true))) : Run E n L g own (Hq P ops Q (Inv E g0 own0) (fuel + 1) listed) := fun a w hF hI => by
  simp only [Bool.and_eq_true] at hB
  refine wpAnyH_take hi hB.1.1 hB.1.2 hB.2 (fun c a' w' h => absurd h (hN.no c _ w')) (v := v) (.inl ⟨?_, fun w' hw' => ?_⟩) (hI.back hG hle hsub) ?_
  · simp [Region.wanted, gd_spec hF hg]
  · have := hv a w' (some d) pos after hF hw'
    simpa [execOp] using this
  · exact k _ w (hF.put hd v) hI
theorem h_pass [hN : NP Q] {g0 : Ghost} {op : Op} {j : Nat} {b b' : Bool} (i : Nat) (hi : ops[i]? = some ⟨some d, op, ty, pos, after, some (j, b)⟩) (hg : gd L ops j = some b') (hne : (b' == b) = false) (hB : (Region.noSelect ops && Region.free .any ops listed i && (Region.ready .any ops listed).contains i) = true)
    (hd : Nat.blt d n = true) (hG : GFact E g0) (hle : Ghost.le g0 g) (hsub : own0.Sublist own)
    (k : Run E n ((d, undef) :: L) g own (Hq P ops Q (Inv E g0 own0) fuel (listed.setIfInBounds i true))) : Run E n L g own (Hq P ops Q (Inv E g0 own0) (fuel + 1) listed) := fun a w hF hI => by
  simp only [Bool.and_eq_true] at hB
  refine wpAnyH_take hi hB.1.1 hB.1.2 hB.2 (fun c a' w' h => absurd h (hN.no c _ w')) (v := undef) (.inr ⟨?_, rfl⟩) (hI.back hG hle hsub) ?_
  · have hne' : ¬ b' = b := by simpa using hne
    simp [Region.wanted, gd_spec hF hg, hne']
  · exact k _ w (hF.put hd undef) hI
theorem h_takeX [hN : NP Q] {g0 : Ghost} {op : Op} (i : Nat) (hi : ops[i]? = some ⟨some d, op, ty, pos, after, none⟩) (hB : (Region.noSelect ops && Region.free .any ops listed i && (Region.ready .any ops listed).contains i) = true)
    (hd : Nat.blt d n = true) (hG : GFact E g0) (hle : Ghost.le g0 g) (hsub : own0.Sublist own) (h : ∃ v, Val P E n L g0 own0 ty op v ∧ Run E n ((d, v) :: L) g own (Hq P ops Q (Inv E g0 own0) fuel (listed.setIfInBounds i true))) : Run E n L g own (Hq P ops Q (Inv E g0 own0) (fuel + 1) listed) :=
  let ⟨_, hv, k⟩ := h
  h_take i hi hB hd hG hle hsub hv k
theorem h_takeGX [hN : NP Q] {g0 : Ghost} {op : Op} {j : Nat} {b : Bool} (i : Nat) (hi : ops[i]? = some ⟨some d, op, ty, pos, after, some (j, b)⟩) (hg : gd L ops j = some b) (hB : (Region.noSelect ops && Region.free .any ops listed i && (Region.ready .any ops listed).contains i) = true)
    (hd : Nat.blt d n = true) (hG : GFact E g0) (hle : Ghost.le g0 g) (hsub : own0.Sublist own) (h : ∃ v, Val P E n L g0 own0 ty op v ∧ Run E n ((d, v) :: L) g own (Hq P ops Q (Inv E g0 own0) fuel (listed.setIfInBounds i true))) : Run E n L g own (Hq P ops Q (Inv E g0 own0) (fuel + 1) listed) :=
  let ⟨_, hv, k⟩ := h
  h_takeG i hi hg hB hd hG hle hsub hv k
theorem is_hn {op : Op} (i : Nat) (_hi : ops[i]? = some ⟨some d, op, ty, pos, after, none⟩) (k : Run E n L g own (Hq P ops Q S fuel listed)) : Run E n L g own (Hq P ops Q S fuel listed) := k
theorem is_hg {op : Op} {x : Nat × Bool} (i : Nat) (_hi : ops[i]? = some ⟨some d, op, ty, pos, after, some x⟩) (k : Run E n L g own (Hq P ops Q S fuel listed)) : Run E n L g own (Hq P ops Q S fuel listed) := k
/-- What alone can come up comes up. -/
theorem h_one {o : Oper} (i : Nat) (hr : Region.ready .any ops listed = [i]) (hi : ops[i]? = some o)
    (h : Run E n L g own (wpList P ops (Exit.then (fun a w => S w ∧ Hq P ops Q S fuel (listed.setIfInBounds i true) a w) Q) [o])) : Run E n L g own (Hq P ops Q S (fuel + 1) listed) := fun a w hF hI => by
  refine wpAnyH_all hr (by simp) ?_
  intro j hj
  obtain rfl : j = i := by simpa using hj
  have h1 := h a w hF hI
  unfold wpOp
  simp only [hi]
  unfold wpList at h1
  split
  · rename_i hw
    rw [if_pos hw] at h1
    rcases h1 with h1 | ⟨h1, h2⟩
    · exact .inl (upon_then h1)
    · exact .inr ⟨h1, h2⟩
  · rename_i hw
    rw [if_neg hw] at h1
    exact h1
theorem h_two {o o' : Oper} (i i' : Nat) (hr : Region.ready .any ops listed = [i, i']) (hi : ops[i]? = some o) (hi' : ops[i']? = some o')
    (h : Run E n L g own (wpList P ops (Exit.then (fun a w => S w ∧ Hq P ops Q S fuel (listed.setIfInBounds i true) a w) Q) [o]))
    (h' : Run E n L g own (wpList P ops (Exit.then (fun a w => S w ∧ Hq P ops Q S fuel (listed.setIfInBounds i' true) a w) Q) [o'])) : Run E n L g own (Hq P ops Q S (fuel + 1) listed) := fun a w hF hI => by
  have aux : ∀ (j : Nat) (q : Oper), ops[j]? = some q → wpList P ops (Exit.then (fun a w => S w ∧ Hq P ops Q S fuel (listed.setIfInBounds j true) a w) Q) [q] a w →
      wpOp P ops Q j (fun a' w' => S w' ∧ wpAnyH P .any ops Q S fuel (listed.setIfInBounds j true) a' w') a w := by
    intro j q hq h1
    unfold wpOp
    simp only [hq]
    unfold wpList at h1
    split
    · rename_i hw
      rw [if_pos hw] at h1
      rcases h1 with h1 | ⟨h1, h2⟩
      · exact .inl (upon_then h1)
      · exact .inr ⟨h1, h2⟩
    · rename_i hw
      rw [if_neg hw] at h1
      exact h1
  refine wpAnyH_all hr (by simp) ?_
  intro j hj
  simp only [List.mem_cons, List.not_mem_nil, or_false] at hj
  rcases hj with rfl | rfl
  · exact aux _ _ hi (h a w hF hI)
  · exact aux _ _ hi' (h' a w hF hI)
/-- Behind what came up: the condition anew. -/
theorem h_kept {g0 : Ghost} {K : Act → World → Prop} (hG : GFact E g0) (hle : Ghost.le g0 g) (hsub : own0.Sublist own) (k : Run E n L g own K) :
    Run E n L g own (fun a w => Inv E g0 own0 w ∧ K a w) := fun a w hF hI => ⟨hI.back hG hle hsub, k a w hF hI⟩
/-- A call of a function value. -/
theorem r_callF' {x : Operand} {f : FuncId} {us cs : List Value} {xs : Array Operand} {ts : Array TypeId} {vals : List Value} {lent kept : List Res} [hB : Body P f] {Post : Value → Ghost → List Res → Prop} (hd : Nat.blt d n = true)
    (hc : ev L x = some (.func (.func f) us.toArray cs.toArray)) (hx : evs L xs.toList = some vals)
    (hp : own.Perm (lent ++ kept)) (hs : Spec P f (us ++ vals ++ cs) g lent Post)
    (k : ∀ v g' own', Post v g' own' → Ghost.le g g' → Run E n ((d, v) :: L) g' (own' ++ kept) (wpList P ops Q rest)) :
    Run E n L g own (wpList P ops Q (⟨some d, .call ⟨.value x, xs, ts⟩, ty, pos, after, none⟩ :: rest)) :=
  r_step fun a w hF hI => by
    have hb := hB.h
    unfold bodyB at hb
    split at hb
    · rename_i fn hfn
      simp only [Bool.and_eq_true, Bool.not_eq_true', beq_eq_false_iff_ne, ne_eq] at hb
      have hargs : (xs.map a.eval) = vals.toArray := by
        have := hF.evals hx
        apply Array.ext'
        simpa using this
      have hbn : fn.body ≠ none := fun h => by simp [h] at hb
      have h1 : (execOp a.eval ⟨some d, .call ⟨.value x, xs, ts⟩, ty, pos, after, none⟩).run P w = .ok (.enter f (us ++ vals ++ cs).toArray) w := by
        simp [execOp, resolve, hF.eval hc, Deferred.ofValue, invoke, callFunc, hfn, hb.2, hbn, hargs]
      unfold Oper.wp
      rw [h1]
      have hI' : Inv E g (lent ++ kept) w := hI.perm hp
      have hH : Holds g lent w := (hI'.drop (List.sublist_append_left _ _)).1
      refine (hs w hH).mono ?_
      rintro e w' ⟨v, g', own', rfl, hpost, hH', hS'⟩
      refine k v g' own' hpost hS'.gle _ _ (hF.put hd v) ?_
      exact Inv.move hI' hS'.size hS'.tape hS'.os hS'.output hS'.kept hS'.gle hH'.cov hS'.gnew hH'.sat hH'.dis hH'.gn hS'.ofoot
    · cases hb
end
end Go.Eng
namespace Go.Eng
open Go Go.RowKit
theorem lkInt {o : Option Value} {k : IntKind} {a b : Int} (h : o = some (.int k a)) (e : a = b) : o = some (.int k b) := by rw [h, e]
theorem lkStr {o : Option Value} {a b : List UInt8} (h : o = some (str a)) (e : a = b) : o = some (str b) := by rw [h, e]
/-- A contract of a function that borrows one resource and hands it back. -/
def SpecO (P : Program) (f : FuncId) (args : List Value) (g : Ghost) (r : Res) (Φ : Value → Ghost → Prop) : Prop := Spec P f args g [r] fun v g' own' => Φ v g' ∧ own' = [r]
/-- A contract of a function that borrows nothing and hands nothing back. -/
def SpecN (P : Program) (f : FuncId) (args : List Value) (g : Ghost) (Φ : Value → Ghost → Prop) : Prop := Spec P f args g [] fun v g' own' => Φ v g' ∧ own' = []
section
variable {P : Program} {E : Env} {n : Nat} {L : Slots} {g : Ghost} {own : List Res} {Q : Exit → Act → World → Prop} {ops : Array Oper} {rest : List Oper}
variable {d : Nat} {ty : TypeId} {pos : String} {after : Array Edge}
theorem r_callSO {f : FuncId} {xs : Array Operand} {ts : Array TypeId} {vals : List Value} {r : Res} [hB : Body P f] {Φ : Value → Ghost → Prop} (i : Nat) (hd : Nat.blt d n = true) (hx : evs L xs.toList = some vals) (ho : own[i]? = some r)
    (hs : SpecO P f vals g r Φ) (k : ∀ v g', Φ v g' → Ghost.le g g' → Run E n ((d, v) :: L) g' own (wpList P ops Q rest)) :
    Run E n L g own (wpList P ops Q (⟨some d, .call ⟨.value (.func f), xs, ts⟩, ty, pos, after, none⟩ :: rest)) :=
  r_call' (lent := [r]) hd hx (perm_at ho) hs fun v g' own' ⟨h1, h3⟩ hle => by
    subst h3
    exact r_perm (perm_at ho).symm (k v g' h1 hle)
theorem r_callN {f : FuncId} {xs : Array Operand} {ts : Array TypeId} {vals : List Value} [hB : Body P f] {Φ : Value → Ghost → Prop} (hd : Nat.blt d n = true) (hx : evs L xs.toList = some vals)
    (hs : SpecN P f vals g Φ) (k : ∀ v g', Φ v g' → Ghost.le g g' → Run E n ((d, v) :: L) g' own (wpList P ops Q rest)) :
    Run E n L g own (wpList P ops Q (⟨some d, .call ⟨.value (.func f), xs, ts⟩, ty, pos, after, none⟩ :: rest)) :=
  r_call hd hx hs fun v g' own' ⟨h1, h3⟩ hle => by
    subst h3
    exact k v g' h1 hle
theorem specN_of_below {f : FuncId} {vals : List Value} {Φ : Value → Prop} (h : ∀ w, Holds g [] w → Calls P f vals.toArray w fun e w' => ∃ v, e = .returned v ∧ Φ v ∧ Below w.heap.size w w') : SpecN P f vals g fun v g' => Φ v ∧ g' = g := fun w hH =>
  (h w hH).mono fun e w' ⟨v, he, hv, hb⟩ => ⟨v, g, [], he, ⟨⟨hv, rfl⟩, rfl⟩,
    Inv.move (lent := []) (got := []) (kept := []) (Inv.start hH) hb.size hb.tape hb.os hb.output (fun b hlt _ => hb.block b hlt) (Ghost.le_refl g)
      (cov_keep (lent := []) hH (by simp) (fun b hlt _ => hb.block b hlt)) (fun _ _ h => absurd rfl h) (by simp) (by simp [foots]) (by simp [foots]) (by simp [foots])⟩
theorem val_subK {x y : Operand} {T T' : TypeId} {K : IntKind} {p q : Int} (hx : ev L x = some (.int K p)) (hy : ev L y = some (.int K q)) (hw : K.wrap (p - q) = p - q) :
    Val P E n L g own ty (.binOp .sub T x y T') (.int K (p - q)) := fun a w dst pos after hF _ => by simp [execOp, hF.eval hx, hF.eval hy, eqGuard, binOp, Op.intArith, hw]
theorem val_neq_bool {x y : Operand} {T T' : TypeId} {p q : Bool} (hx : ev L x = some (.bool p)) (hy : ev L y = some (.bool q)) (hT : P.underlying T = some .bool) :
    Val P E n L g own ty (.binOp .neq T x y T') (.bool (!(p == q))) := fun a w dst pos after hF _ => by
  have h : (Op.equal T (.bool p) (.bool q)).run P w = .ok (p == q) w := by
    obtain ⟨m, hm⟩ : ∃ m, Op.maxDepth = m + 1 := ⟨9999, rfl⟩
    unfold Op.equal
    rw [hm, Op.equalIn]
    simp only [Sem.run_bind, run_underlying hT, Result.andThen_ok]
    rfl
  simp [execOp, hF.eval hx, hF.eval hy, eqGuard, binOp, h]
end
end Go.Eng
-- sum e4cb2fab76fe95f4

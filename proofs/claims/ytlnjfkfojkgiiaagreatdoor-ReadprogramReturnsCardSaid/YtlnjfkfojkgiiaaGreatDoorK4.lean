/- The walking engine, fifth part: make, bytes to strings, stores into rows of one's own, compared bools. -/
import Derived.Test.YtlnjfkfojkgiiaaGreatDoorK3
import Derived.OrdersHeld
import Derived.WalkSpells
import Derived.Lib.LazyBuf
import Derived.StillTail
namespace Go.aZ
open Go Go.RowKit
section
variable {P : Program} {E : Env} {n : Nat} {L : dz} {g : ab} {own : List aA} {Q : Exit → Act → World → Prop} {ops : Array Oper} {rest : List Oper}
variable {d : Nat} {ty : TypeId} {pos : String} {after : Array Edge}
theorem HB : ∀ (cs : List Value) (j : Nat) (v : Value), j < cs.length → il cs j [v] = some (cs.set j v)
 | [], _, _, h => by simp at h
 | c :: cs, 0, v, _ => by simp [il]
 | c :: cs, j + 1, v, h => by
  have := HB cs j v (by simpa using h)
  simp [il, this]
theorem HC {x y : Operand} {T e : TypeId} {sz eh : Nat} [hT : fP P T e sz eh] {zs : List Value} [hZ : Zero P e zs] {len : Nat} (hd : Nat.blt d n = true) (hx : ev L x = some (.int .i64 len)) (hy : ev L y = some (.int .i64 len))
  (qj : zs.length = sz) (bN : Nat.blt 0 sz = true) (hlen : len ≤ 9223372036854775807) (hb : eh * len ≤ 281474976710656)
  (k : ∀ b, ah E n ((d, .slice (some ⟨b, 0, none⟩) len len) :: L) g (.ae b e (dO len zs) :: own) (wpList P ops Q rest)) :
  ah E n L g own (wpList P ops Q (⟨some d, .makeSlice T x y, ty, pos, after, none⟩ :: rest)) :=
 mg fun a w hF hI => by
  have D1 : 0 < sz := Nat.blt_eq.mp bN
  obtain ⟨inf, hi, h2, h3⟩ := vd hT
  obtain ⟨z, kX, om⟩ : ∃ z, inf.zero = some z ∧ z.cells = zs.toArray := by
   have := hZ.z
   rw [hi] at this
   cases hz : inf.zero with
   | none => simp [hz] at this
   | some z =>
    simp [hz] at this
    exact ⟨z, rfl, by rw [← this]⟩
  have vG := Qx zs sz qj D1 len
  have hbb : (inf.bytes : Int) * (len : Int) ≤ 281474976710656 := by
   rw [h3, ← Int.natCast_mul]; omega
  have hm := run_make (P := P) w T e inf z hT.u hi kX .i64 .i64 len len oM (Int.le_refl _) hbb oM
  have hmc : madeCells z.cells (len * sz) = (dO len zs).toArray := by
   rw [om]; exact vG
  simp only [Int.toNat_natCast, h2, hmc] at hm
  have hex : (execOp a.eval ⟨some d, .makeSlice T x y, ty, pos, after, none⟩).run P w = .ok (.value (.slice (some ⟨w.heap.size, 0, none⟩) len len)) (w.alloc (.cells (dO len zs).toArray e)) := by
   simp [execOp, hF.eval hx, hF.eval hy, hm]
  unfold Oper.wp
  rw [hex]
  exact k _ _ _ (hF.put hd _) (hI.alloc e _)
theorem aCY {α : Type} {f : α → List Value} {size : Nat} (hf : ∀ x, (f x).length = size) {l : List α} {b off : Nat} (h : ∀ k x, (l.flatMap f)[k]? = some x → g b (off + k) = some x) {i : Nat} (hi : i < l.length) : Rd g own b (off + i * size) (f l[i]) := by
 refine nc (fun j x hx => ?_)
 have hj : j < size := by rw [← hf l[i]]; exact (List.getElem?_eq_some_iff.1 hx).1
 rw [Nat.add_assoc]
 refine h _ _ ?_
 rw [Iz f size hf l i j hj, List.getElem?_eq_getElem hi]
 exact hx
end
end Go.aZ

/- The walking engine, sixth part: calls that borrow one resource and give it back as it was. -/
namespace Go.aZ
open Go Go.RowKit
section
variable {P : Program} {E : Env} {n : Nat} {L : dz} {g : ab} {own : List aA} {Q : Exit → Act → World → Prop} {ops : Array Oper} {rest : List Oper}
variable {d : Nat} {ty : TypeId} {pos : String} {after : Array Edge}
def lB (P : Program) (f : FuncId) (args : List Value) (g : ab) (r : aA) (v : Value) : Prop := Spec P f args g [r] fun v' g' own' => v' = v ∧ g' = g ∧ own' = [r]
theorem vR {own : List aA} {i : Nat} {r : aA} (h : own[i]? = some r) : own.Perm ([r] ++ own.eraseIdx i) := by
 obtain ⟨hi, he⟩ := List.getElem?_eq_some_iff.1 h
 have h1 : own = own.take i ++ r :: own.drop (i + 1) := by
  rw [← he]
  exact (List.take_append_drop i own).symm.trans (by rw [List.drop_eq_getElem_cons hi])
 have h2 : own.eraseIdx i = own.take i ++ own.drop (i + 1) := List.eraseIdx_eq_take_drop_succ own i
 rw [h2]
 conv => lhs; rw [h1]
 exact List.perm_middle
theorem eo {f : FuncId} {xs : Array Operand} {ts : Array TypeId} {cq : List Value} {r : aA} [hB : Body P f] {v : Value} (i : Nat) (hd : Nat.blt d n = true) (hx : gS L xs.toList = some cq) (ho : own[i]? = some r)
  (hs : lB P f cq g r v) (k : ah E n ((d, v) :: L) g own (wpList P ops Q rest)) :
  ah E n L g own (wpList P ops Q (⟨some d, .call ⟨.value (.func f), xs, ts⟩, ty, pos, after, none⟩ :: rest)) :=
 jN (lent := [r]) hd hx (vR ho) hs fun _ _ _ ⟨h1, h2, h3⟩ _ => by
  subst h1; subst h2; subst h3
  exact ko (vR ho).symm k
theorem q_ {f : FuncId} {xs : Array Operand} {ts : Array TypeId} {cq : List Value} {r : aA} [hB : Body P f] {v : Value} {K : Act → Prop} (i : Nat) (hd : Nat.blt d n = true) (hx : gS L xs.toList = some cq) (ho : own[i]? = some r)
  (hs : lB P f cq g r v) (k : ah E n ((d, v) :: L) g own (Wq P ops (Inv E g own) K rest)) :
  ah E n L g own (Wq P ops (Inv E g own) K (⟨some d, .call ⟨.value (.func f), xs, ts⟩, ty, pos, after, none⟩ :: rest)) := fun a w hF hI => by
 have hb := hB.h
 unfold uY at hb
 split at hb
 ·rename_i fn kz
  simp only [Bool.and_eq_true, Bool.not_eq_true', beq_eq_false_iff_ne, ne_eq] at hb
  have ji : (xs.map a.eval) = cq.toArray := by
   have := hF.pK hx
   apply Array.ext'
   simpa using this
  have iq : fn.body ≠ none := fun h => by simp [h] at hb
  have h1 : ∀ w', (execOp a.eval ⟨some d, .call ⟨.value (.func f), xs, ts⟩, ty, pos, after, none⟩).run P w' = .ok (.enter f cq.toArray) w' := fun w' => by
   simp [execOp, resolve, Act.eval, Deferred.ofValue, invoke, callFunc, kz, hb.2, iq, ji]
  unfold Wq wpQuiet
  simp only [Region.wanted, if_true]
  refine ⟨v, fun w' jG => ?_, k _ w (hF.put hd v) hI⟩
  unfold Oper.quietAt
  rw [h1 w']
  refine ⟨rfl, ?_⟩
  have Hv : Inv E g ([r] ++ own.eraseIdx i) w' := jG.perm (vR ho)
  have hH : Holds g [r] w' := (Hv.drop (List.sublist_append_left _ _)).1
  refine (hs w' hH).mono ?_
  rintro e Nx ⟨v', g', own', rfl, ⟨rfl, rfl, rfl⟩, gM, c6⟩
  refine ⟨rfl, ?_⟩
  exact (Inv.move Hv c6.size c6.tape c6.os c6.output c6.kept c6.mX gM.jF c6.oS gM.sat gM.mW gM.gn c6.lW).perm (vR ho).symm
 ·cases hb
end
end Go.aZ

/- The walking engine, seventh part: regions that draw their order and in which some operations act ('h_*': what only reads is taken first, what acts comes up when nothing else can); calls of function values. -/
namespace Go.aZ
open Go Go.RowKit
def jD (E : Env) (g : ab) : Prop := ab.le E.g0 g ∧ ∀ b o, g b o ≠ E.g0 b o → E.w0.heap.size ≤ b ∨ b ∈ E.F0
theorem jD.of {E : Env} {g : ab} {own : List aA} {w : World} (h : Inv E g own w) : jD E g := ⟨h.2.mX, h.2.oS⟩
theorem Inv.back {E : Env} {g g' : ab} {own own' : List aA} {w : World} (hG : jD E g) (hle : ab.le g g') (hs : own.Sublist own') (h : Inv E g' own' w) : Inv E g own w := by
 have h1 : Inv E g' own w := h.drop hs
 refine ⟨⟨fun b o v hv => h1.1.jF b o v (hle b o v hv), h1.1.sat, h1.1.mW, fun b hb o => ?_⟩, ⟨h1.2.size, h1.2.kept, h1.2.tape, h1.2.os, h1.2.output, hG.1, hG.2, h1.2.lW⟩⟩
 cases hv : g b o with
 | none => rfl
 | some v => have := h1.1.gn b hb o; rw [hle b o v hv] at this; cases this
class NP (Q : Exit → Act → World → Prop) : Prop where
 no : ∀ c a w, ¬ Q (.panic c) a w
instance {next : Act → World → Prop} {Q : Exit → Act → World → Prop} [h : NP Q] : NP (Exit.then next Q) := ⟨fun c a w hq => h.no c a w hq⟩
instance {id : Nat} {Q : Exit → Act → World → Prop} [h : NP Q] : NP (Exit.inBlock id Q) := ⟨fun c a w hq => h.no c a w hq⟩
instance {P : Program} {fn : Func} {E : Env} {ej : Value → ab → List aA → Prop} : NP (bodyPost P fn (Ends E ej)) := ⟨fun _ _ _ ⟨_, _, _, _, h, _⟩ => by cases h⟩
theorem yM {P : Program} {o : Oper} {a : Act} {K : Act → World → Prop} {Q : Exit → Act → World → Prop} {r : Result Next} (h : o.upon P a K (Exit.then K Q) r) : o.upon P a K Q r := by
 cases r with
 | ok n w' =>
  cases n <;> simp only [Oper.upon] at h ⊢
  case value => exact h
  case skip => exact h
  case defer => exact h
  case enter f args =>
   refine Calls.mono h fun e Nx he => ?_
   cases e with
   | returned u => exact he
   | panicked c => exact he
   | outgrown => exact he
  case row => exact h
 | halt x w' =>
  cases x <;> simp only [Oper.upon] at h ⊢
  case panic u => exact h
def Hq (P : Program) (ops : Array Oper) (Q : Exit → Act → World → Prop) (S : World → Prop) (fuel : Nat) (listed : Array Bool) : Act → World → Prop := wpAnyH P .any ops Q S fuel listed
section
variable {P : Program} {E : Env} {n : Nat} {L : dz} {g : ab} {own : List aA} {Q : Exit → Act → World → Prop} {ops : Array Oper} {rest : List Oper}
variable {d : Nat} {ty : TypeId} {pos : String} {after : Array Edge} {fuel : Nat} {listed : Array Bool} {dH : List aA} {S : World → Prop}
theorem all_cons {v : Value} {r : List Value} (h : fx v = true) (h' : oh r = true) : oh (v :: r) = true := by simp only [oh, h, h']
theorem aCZ {v : Value} (h : fx v = true) : cellsOf v = some [v] := by cases v <;> simp_all [fx, cellsOf]
/-! What kind of operation comes next (for the search alone). -/
theorem aC0 {id : Nat} {l : List Oper} (dH : List aA) (hm : u0 P = true) (hs : dH.Sublist own)
  (h : jD E g → ah E n L g own (Hq P l.toArray Q (Inv E g dH) l.length (Array.replicate l.length false))) : ah E n L g own ((Code.region id l.toArray true).wp P Q) := fun a w hF hI =>
 wp_region_held (S := Inv E g dH) hm (by
  have := h (jD.of hI) a _ hF hI.drew
  unfold Hq at this
  simpa using this)
theorem Ra : ∀ (js : List Nat) (own : List aA), (js.foldl (fun l j => l.eraseIdx j) own).Sublist own
 | [], own => List.Sublist.refl _
 | j :: js, own => (Ra js (own.eraseIdx j)).trans (List.eraseIdx_sublist ..)
theorem bO {id : Nat} {l : List Oper} (js : List Nat) (hm : u0 P = true)
  (h : jD E g → ah E n L g own (Hq P l.toArray Q (Inv E g (js.foldl (fun l j => l.eraseIdx j) own)) l.length (Array.replicate l.length false))) : ah E n L g own ((Code.region id l.toArray true).wp P Q) :=
 aC0 _ hm (Ra js own) h
theorem aC1 (hr : Region.ready .any ops listed = []) (h : ah E n L g own (Q .normal)) : ah E n L g own (Hq P ops Q S fuel listed) := fun a w hF hI => wpAnyH_done hr (h a w hF hI) fuel
theorem aC2 [hN : NP Q] {g0 : ab} {op : Op} {v : Value} (i : Nat) (hi : ops[i]? = some ⟨some d, op, ty, pos, after, none⟩) (hB : (Region.noSelect ops && Region.free .any ops listed i && (Region.ready .any ops listed).contains i) = true)
  (hd : Nat.blt d n = true) (hG : jD E g0) (hle : ab.le g0 g) (eA : dH.Sublist own) (hv : cH P E n L g0 dH ty op v)
  (k : ah E n ((d, v) :: L) g own (Hq P ops Q (Inv E g0 dH) fuel (listed.setIfInBounds i true))) : ah E n L g own (Hq P ops Q (Inv E g0 dH) (fuel + 1) listed) := fun a w hF hI => by
 simp only [Bool.and_eq_true] at hB
 refine wpAnyH_take hi hB.1.1 hB.1.2 hB.2 (fun c a' w' h => absurd h (hN.no c _ w')) (v := v) (.inl ⟨rfl, fun w' jT => hv a w' (some d) pos after hF jT⟩) (hI.back hG hle eA) ?_
 exact k _ w (hF.put hd v) hI
theorem aC3 [hN : NP Q] {g0 : ab} {op : Op} {v : Value} {j : Nat} {b : Bool} (i : Nat) (hi : ops[i]? = some ⟨some d, op, ty, pos, after, some (j, b)⟩) (hg : gd L ops j = some b) (hB : (Region.noSelect ops && Region.free .any ops listed i && (Region.ready .any ops listed).contains i) = true)
  (hd : Nat.blt d n = true) (hG : jD E g0) (hle : ab.le g0 g) (eA : dH.Sublist own) (hv : cH P E n L g0 dH ty op v)
  (k : ah E n ((d, v) :: L) g own (Hq P ops Q (Inv E g0 dH) fuel (listed.setIfInBounds i true))) : ah E n L g own (Hq P ops Q (Inv E g0 dH) (fuel + 1) listed) := fun a w hF hI => by
 simp only [Bool.and_eq_true] at hB
 refine wpAnyH_take hi hB.1.1 hB.1.2 hB.2 (fun c a' w' h => absurd h (hN.no c _ w')) (v := v) (.inl ⟨?_, fun w' jT => ?_⟩) (hI.back hG hle eA) ?_
 ·simp [Region.wanted, tq hF hg]
 ·have := hv a w' (some d) pos after hF jT
  simpa [execOp] using this
 ·exact k _ w (hF.put hd v) hI
theorem aC4 [hN : NP Q] {g0 : ab} {op : Op} {j : Nat} {b b' : Bool} (i : Nat) (hi : ops[i]? = some ⟨some d, op, ty, pos, after, some (j, b)⟩) (hg : gd L ops j = some b') (hne : (b' == b) = false) (hB : (Region.noSelect ops && Region.free .any ops listed i && (Region.ready .any ops listed).contains i) = true)
  (hd : Nat.blt d n = true) (hG : jD E g0) (hle : ab.le g0 g) (eA : dH.Sublist own)
  (k : ah E n ((d, undef) :: L) g own (Hq P ops Q (Inv E g0 dH) fuel (listed.setIfInBounds i true))) : ah E n L g own (Hq P ops Q (Inv E g0 dH) (fuel + 1) listed) := fun a w hF hI => by
 simp only [Bool.and_eq_true] at hB
 refine wpAnyH_take hi hB.1.1 hB.1.2 hB.2 (fun c a' w' h => absurd h (hN.no c _ w')) (v := undef) (.inr ⟨?_, rfl⟩) (hI.back hG hle eA) ?_
 ·have aC5 : ¬ b' = b := by simpa using hne
  simp [Region.wanted, tq hF hg, aC5]
 ·exact k _ w (hF.put hd undef) hI
theorem fI [hN : NP Q] {g0 : ab} {op : Op} {j : Nat} {b b' : Bool} (i : Nat) (hi : ops[i]? = some ⟨some d, op, ty, pos, after, some (j, b)⟩) (hg : gd L ops j = some b') (hne : (b' == b) = false) (hB : (Region.noSelect ops && Region.free .any ops listed i && (Region.ready .any ops listed).contains i) = true)
  (hd : Nat.blt d n = true) (hG : jD E g0) (k : ah E n ((d, undef) :: L) g own (Hq P ops Q (Inv E g0 dH) fuel (listed.setIfInBounds i true)))
  (hle : ab.le g0 g := by first | exact ab.le_refl _ | assumption) (eA : dH.Sublist own := by repeat' (first | exact List.nil_sublist _ | refine List.Sublist.cons_cons _ ?_ | refine List.Sublist.cons _ ?_)) : ah E n L g own (Hq P ops Q (Inv E g0 dH) (fuel + 1) listed) := aC4 i hi hg hne hB hd hG hle eA k
theorem aC6 [hN : NP Q] {g0 : ab} {op : Op} (i : Nat) (hi : ops[i]? = some ⟨some d, op, ty, pos, after, none⟩) (hB : (Region.noSelect ops && Region.free .any ops listed i && (Region.ready .any ops listed).contains i) = true)
  (hd : Nat.blt d n = true) (hG : jD E g0) (hle : ab.le g0 g) (eA : dH.Sublist own) (h : ∃ v, cH P E n L g0 dH ty op v ∧ ah E n ((d, v) :: L) g own (Hq P ops Q (Inv E g0 dH) fuel (listed.setIfInBounds i true))) : ah E n L g own (Hq P ops Q (Inv E g0 dH) (fuel + 1) listed) :=
 let ⟨_, hv, k⟩ := h
 aC2 i hi hB hd hG hle eA hv k
theorem bn [hN : NP Q] {g0 : ab} {op : Op} (i : Nat) (hi : ops[i]? = some ⟨some d, op, ty, pos, after, none⟩) (hB : (Region.noSelect ops && Region.free .any ops listed i && (Region.ready .any ops listed).contains i) = true)
  (hd : Nat.blt d n = true) (hG : jD E g0) (h : ∃ v, cH P E n L g0 dH ty op v ∧ ah E n ((d, v) :: L) g own (Hq P ops Q (Inv E g0 dH) fuel (listed.setIfInBounds i true)))
  (hle : ab.le g0 g := by first | exact ab.le_refl _ | assumption) (eA : dH.Sublist own := by repeat' (first | exact List.nil_sublist _ | refine List.Sublist.cons_cons _ ?_ | refine List.Sublist.cons _ ?_)) : ah E n L g own (Hq P ops Q (Inv E g0 dH) (fuel + 1) listed) := aC6 i hi hB hd hG hle eA h
theorem aC7 [hN : NP Q] {g0 : ab} {op : Op} {j : Nat} {b : Bool} (i : Nat) (hi : ops[i]? = some ⟨some d, op, ty, pos, after, some (j, b)⟩) (hg : gd L ops j = some b) (hB : (Region.noSelect ops && Region.free .any ops listed i && (Region.ready .any ops listed).contains i) = true)
  (hd : Nat.blt d n = true) (hG : jD E g0) (hle : ab.le g0 g) (eA : dH.Sublist own) (h : ∃ v, cH P E n L g0 dH ty op v ∧ ah E n ((d, v) :: L) g own (Hq P ops Q (Inv E g0 dH) fuel (listed.setIfInBounds i true))) : ah E n L g own (Hq P ops Q (Inv E g0 dH) (fuel + 1) listed) :=
 let ⟨_, hv, k⟩ := h
 aC3 i hi hg hB hd hG hle eA hv k
theorem dX [hN : NP Q] {g0 : ab} {op : Op} {j : Nat} {b : Bool} (i : Nat) (hi : ops[i]? = some ⟨some d, op, ty, pos, after, some (j, b)⟩) (hg : gd L ops j = some b) (hB : (Region.noSelect ops && Region.free .any ops listed i && (Region.ready .any ops listed).contains i) = true)
  (hd : Nat.blt d n = true) (hG : jD E g0) (h : ∃ v, cH P E n L g0 dH ty op v ∧ ah E n ((d, v) :: L) g own (Hq P ops Q (Inv E g0 dH) fuel (listed.setIfInBounds i true)))
  (hle : ab.le g0 g := by first | exact ab.le_refl _ | assumption) (eA : dH.Sublist own := by repeat' (first | exact List.nil_sublist _ | refine List.Sublist.cons_cons _ ?_ | refine List.Sublist.cons _ ?_)) : ah E n L g own (Hq P ops Q (Inv E g0 dH) (fuel + 1) listed) := aC7 i hi hg hB hd hG hle eA h
theorem gL {o : Oper} (i : Nat) (hr : Region.ready .any ops listed = [i]) (hi : ops[i]? = some o)
  (h : ah E n L g own (wpList P ops (Exit.then (fun a w => S w ∧ Hq P ops Q S fuel (listed.setIfInBounds i true) a w) Q) [o])) : ah E n L g own (Hq P ops Q S (fuel + 1) listed) := fun a w hF hI => by
 refine wpAnyH_all hr sM ?_
 intro j hj
 obtain rfl : j = i := by simpa using hj
 have h1 := h a w hF hI
 unfold wpOp
 simp only [hi]
 unfold wpList at h1
 split
 ·rename_i hw
  rw [if_pos hw] at h1
  rcases h1 with h1 | ⟨h1, h2⟩
  ·exact .inl (yM h1)
  ·exact .inr ⟨h1, h2⟩
 ·rename_i hw
  rw [if_neg hw] at h1
  exact h1
theorem eH {o o' : Oper} (i i' : Nat) (hr : Region.ready .any ops listed = [i, i']) (hi : ops[i]? = some o) (dR : ops[i']? = some o')
  (h : ah E n L g own (wpList P ops (Exit.then (fun a w => S w ∧ Hq P ops Q S fuel (listed.setIfInBounds i true) a w) Q) [o]))
  (h' : ah E n L g own (wpList P ops (Exit.then (fun a w => S w ∧ Hq P ops Q S fuel (listed.setIfInBounds i' true) a w) Q) [o'])) : ah E n L g own (Hq P ops Q S (fuel + 1) listed) := fun a w hF hI => by
 have aux : ∀ (j : Nat) (q : Oper), ops[j]? = some q → wpList P ops (Exit.then (fun a w => S w ∧ Hq P ops Q S fuel (listed.setIfInBounds j true) a w) Q) [q] a w →
   wpOp P ops Q j (fun a' w' => S w' ∧ wpAnyH P .any ops Q S fuel (listed.setIfInBounds j true) a' w') a w := by
  intro j q hq h1
  unfold wpOp
  simp only [hq]
  unfold wpList at h1
  split
  ·rename_i hw
   rw [if_pos hw] at h1
   rcases h1 with h1 | ⟨h1, h2⟩
   ·exact .inl (yM h1)
   ·exact .inr ⟨h1, h2⟩
  ·rename_i hw
   rw [if_neg hw] at h1
   exact h1
 refine wpAnyH_all hr sM ?_
 intro j hj
 simp only [List.mem_cons, List.not_mem_nil, or_false] at hj
 rcases hj with rfl | rfl
 ·exact aux _ _ hi (h a w hF hI)
 ·exact aux _ _ dR (h' a w hF hI)
theorem aC8 {g0 : ab} {K : Act → World → Prop} (hG : jD E g0) (hle : ab.le g0 g) (eA : dH.Sublist own) (k : ah E n L g own K) :
  ah E n L g own (fun a w => Inv E g0 dH w ∧ K a w) := fun a w hF hI => ⟨hI.back hG hle eA, k a w hF hI⟩
theorem aC9 {g0 : ab} {K : Act → World → Prop} (hG : jD E g0) (k : ah E n L g own K)
  (hle : ab.le g0 g := by first | exact ab.le_refl _ | assumption) (eA : dH.Sublist own := by repeat' (first | exact List.nil_sublist _ | refine List.Sublist.cons_cons _ ?_ | refine List.Sublist.cons _ ?_)) :
  ah E n L g own (fun a w => Inv E g0 dH w ∧ K a w) := aC8 hG hle eA k
theorem F7 {x : Operand} {f : FuncId} {us cs : List Value} {xs : Array Operand} {ts : Array TypeId} {cq : List Value} {lent kept : List aA} [hB : Body P f] {ej : Value → ab → List aA → Prop} (hd : Nat.blt d n = true)
  (hc : ev L x = some (.func (.func f) us.toArray cs.toArray)) (hx : gS L xs.toList = some cq)
  (hp : own.Perm (lent ++ kept)) (hs : Spec P f (us ++ cq ++ cs) g lent ej)
  (k : ∀ v g' own', ej v g' own' → ab.le g g' → ah E n ((d, v) :: L) g' (own' ++ kept) (wpList P ops Q rest)) :
  ah E n L g own (wpList P ops Q (⟨some d, .call ⟨.value x, xs, ts⟩, ty, pos, after, none⟩ :: rest)) :=
 mg fun a w hF hI => by
  have hb := hB.h
  unfold uY at hb
  split at hb
  ·rename_i fn kz
   simp only [Bool.and_eq_true, Bool.not_eq_true', beq_eq_false_iff_ne, ne_eq] at hb
   have ji : (xs.map a.eval) = cq.toArray := by
    have := hF.pK hx
    apply Array.ext'
    simpa using this
   have iq : fn.body ≠ none := fun h => by simp [h] at hb
   have h1 : (execOp a.eval ⟨some d, .call ⟨.value x, xs, ts⟩, ty, pos, after, none⟩).run P w = .ok (.enter f (us ++ cq ++ cs).toArray) w := by
    simp [execOp, resolve, hF.eval hc, Deferred.ofValue, invoke, callFunc, kz, hb.2, iq, ji]
   unfold Oper.wp
   rw [h1]
   have jG : Inv E g (lent ++ kept) w := hI.perm hp
   have hH : Holds g lent w := (jG.drop (List.sublist_append_left _ _)).1
   refine (hs w hH).mono ?_
   rintro e w' ⟨v, g', own', rfl, Gr, gM, c6⟩
   refine k v g' own' Gr c6.mX _ _ (hF.put hd v) ?_
   exact Inv.move jG c6.size c6.tape c6.os c6.output c6.kept c6.mX gM.jF c6.oS gM.sat gM.mW gM.gn c6.lW
  ·cases hb
end
theorem qF {o : Option Value} {k : IntKind} {a b : Int} (h : o = some (.int k a)) (e : a = b) : o = some (.int k b) := by rw [h, e]
theorem oO {o : Option Value} {a b : List UInt8} (h : o = some (str a)) (e : a = b) : o = some (str b) := by rw [h, e]
def bK (P : Program) (f : FuncId) (args : List Value) (g : ab) (Φ : Value → ab → Prop) : Prop := Spec P f args g [] fun v g' own' => Φ v g' ∧ own' = []
section
variable {P : Program} {E : Env} {n : Nat} {L : dz} {g : ab} {own : List aA} {Q : Exit → Act → World → Prop} {ops : Array Oper} {rest : List Oper}
variable {d : Nat} {ty : TypeId} {pos : String} {after : Array Edge}
theorem aB {f : FuncId} {xs : Array Operand} {ts : Array TypeId} {cq : List Value} [hB : Body P f] {Φ : Value → ab → Prop} (hd : Nat.blt d n = true) (hx : gS L xs.toList = some cq)
  (hs : bK P f cq g Φ) (k : ∀ v g', Φ v g' → ab.le g g' → ah E n ((d, v) :: L) g' own (wpList P ops Q rest)) :
  ah E n L g own (wpList P ops Q (⟨some d, .call ⟨.value (.func f), xs, ts⟩, ty, pos, after, none⟩ :: rest)) :=
 uy hd hx hs fun v g' own' ⟨h1, h3⟩ hle => by
  subst h3
  exact k v g' h1 hle
theorem aDA {x y : Operand} {T T' : TypeId} {p q : Bool} (hx : ev L x = some (.bool p)) (hy : ev L y = some (.bool q)) (hT : P.underlying T = some .bool) :
  cH P E n L g own ty (.binOp .neq T x y T') (.bool (!(p == q))) := fun a w dst pos after hF _ => by
 have h : (Op.equal T (.bool p) (.bool q)).run P w = .ok (p == q) w := by
  obtain ⟨m, hm⟩ : ∃ m, Op.maxDepth = m + 1 := ⟨9999, rfl⟩
  unfold Op.equal
  rw [hm, Op.equalIn]
  simp only [Sem.run_bind, run_underlying hT, Result.andThen_ok]
  rfl
 simp [execOp, hF.eval hx, hF.eval hy, eqGuard, binOp, h]
end
end Go.aZ

/- The walking engine, eighth part: slices compared with nil, append of nothing. -/
namespace Go.aZ
open Go Go.RowKit
section
variable {P : Program} {E : Env} {n : Nat} {L : dz} {g : ab} {own : List aA} {Q : Exit → Act → World → Prop} {ops : Array Oper} {rest : List Oper}
variable {d : Nat} {ty : TypeId} {pos : String} {after : Array Edge}
theorem Mr {x y : Operand} {T T' e : TypeId} {k0 eh : Nat} [hT : fP P T e k0 eh] {a : Option Addr} {m c : Nat} (hx : ev L x = some (.slice a m c)) (hy : ev L y = some (.slice none 0 0)) :
  cH P E n L g own ty (.binOp .eql T x y T') (.bool a.isNone) := fun aa w dst pos after hF _ => by
 have h := Lib.run_eql_slice_nil (P := P) w T e a m c 0 0 hT.u
 simp [execOp, hF.eval hx, hF.eval hy, eqGuard, h]
theorem Rb {x y : Operand} {T e : TypeId} {sz eh : Nat} [hT : fP P T e sz eh] {v : Value} {m c' : Nat} {xs : List Value} {base : Option Addr} (i : Nat)
  (hd : Nat.blt d n = true) (hx : ev L x = some v) (hy : ev L y = some (.slice base 0 c')) (ho : own[i]? = some (.row e sz v m xs))
  (k : ah E n ((d, v) :: L) g own (wpList P ops Q rest)) :
  ah E n L g own (wpList P ops Q (⟨some d, .call ⟨.builtin .append, #[x, y], #[T, T]⟩, ty, pos, after, none⟩ :: rest)) :=
 mg fun a w hF hI => by
  obtain ⟨inf, hi, qi, ve⟩ := vd hT
  have hown : w.ownsRow 0 e sz v m xs := mq hI ho
  have qg : (Builtin.append_ #[T, T] ty #[v, .slice base 0 c']).run P w = .ok v w := by
   obtain ⟨kF, hown⟩ := hown
   rcases hown with ⟨rfl, rfl⟩ | ⟨gb, cap, cur, rfl, _, hg, qC, hcm, hcs, _⟩
   ·cases base <;> simp [Builtin.append_, run_underlying hT.u, sizeOf, typeInfo, hi, Builtin.lenOf, Builtin.firstCells, loadCells, loadCellsFrom]
   ·cases base <;> simp [Builtin.append_, run_underlying hT.u, sizeOf, typeInfo, hi, Builtin.lenOf, Builtin.firstCells, loadCells, loadCellsFrom, qC, storeCells]
  have hr : (execOp a.eval ⟨some d, .call ⟨.builtin .append, #[x, y], #[T, T]⟩, ty, pos, after, none⟩).run P w = .ok (.value v) w := by
   simp [execOp, resolve, invoke, builtin, hF.eval hx, hF.eval hy, qg]
  unfold Oper.wp
  rw [hr]
  exact k _ _ (hF.put hd v) hI
theorem jr {x y : Operand} {T e : TypeId} {sz eh : Nat} [hT : fP P T e sz eh] {zs : List Value} [hZ : Zero P e zs] {v : Value} {m : Nat} {xs : List Value} {u : Value} {m' : Nat} {news : List Value} (i : Nat)
  (hd : Nat.blt d n = true) (hx : ev L x = some v) (hy : ev L y = some u) (ho : own[i]? = some (.row e sz v m xs)) (hu : au g sz u m' news)
  (qj : Nat.beq zs.length sz = true) (bN : Nat.blt 0 sz = true) (h1 : ∀ u ∈ news, fx u = true) (dh : m + m' ≤ maxLen) (eL : (m + m') * eh ≤ 140737488355328)
  (k : ∀ v', (v' = .slice none 0 0 ↔ v = .slice none 0 0 ∧ m' = 0) → ah E n ((d, v') :: L) g (own.set i (.row e sz v' (m + m') (xs ++ news))) (wpList P ops Q rest)) :
  ah E n L g own (wpList P ops Q (⟨some d, .call ⟨.builtin .append, #[x, y], #[T, T]⟩, ty, pos, after, none⟩ :: rest)) := by
 obtain ⟨hl, h0 | ⟨b, off, cap, rfl, _, _, pj⟩⟩ := hu
 ·obtain ⟨⟨a, c, rfl⟩, rfl⟩ := h0
  have hn : news = [] := List.eq_nil_of_length_eq_zero (by simpa using hl)
  subst hn
  refine Rb i hd hx hy ho ?_
  have := k v sM
  have aDB : own.set i (.row e sz v m xs) = own := by
   refine List.ext_getElem? fun j => ?_
   rw [List.getElem?_set]
   split
   ·rename_i hj
    subst hj
    rw [ho]
    simp [(List.getElem?_eq_some_iff.1 ho).1]
   ·rfl
  simpa [aDB] using this
 ·exact Nt i hd hx hy ho (Nat.eq_of_beq_eq_true qj) (Nat.blt_eq.mp bN) hl (.inr ⟨_, _, rfl, nc pj⟩) h1 dh eL k
end
/-! Regions that draw their order, whose head only reads and whose tail comes in one order. -/
def St (P : Program) (ops : Array Oper) (K : Act → World → Prop) (l : List Oper) : Act → World → Prop := fun a w => wpStill P ops w (fun a' => K a' w) l a
section
variable {P : Program} {E : Env} {n : Nat} {L : dz} {g : ab} {own : List aA} {Q : Exit → Act → World → Prop} {ops : Array Oper} {rest : List Oper}
variable {d : Nat} {ty : TypeId} {pos : String} {after : Array Edge} {K : Act → World → Prop}
theorem wI {id : Nat} {l : List Oper} (m : Nat) (hm : u0 P = true) (hB : Region.lexTailB .any l.toArray m = true)
  (h : ah E n L g own (St P l.toArray (wpList P l.toArray Q (l.drop m)) (l.take m))) : ah E n L g own ((Code.region id l.toArray true).wp P Q) := fun a w hF hI =>
 wp_region_still_tail m hm hB (h a _ hF hI.drew)
theorem wJ (h : ah E n L g own K) : ah E n L g own (St P ops K []) := h
theorem jw {op : Op} (h : Nat.blt d n = true) (hv : ∃ v, cH P E n L g own ty op v ∧ ah E n ((d, v) :: L) g own (St P ops K rest)) : ah E n L g own (St P ops K (⟨some d, op, ty, pos, after, none⟩ :: rest)) := fun a w hF hI => by
 obtain ⟨v, hv, k⟩ := hv
 have h1 := hv a w (some d) pos after hF hI
 unfold St wpStill
 simp only [Region.wanted, if_true]
 unfold Oper.still
 rw [h1]
 exact ⟨rfl, k _ w (hF.put h v) hI⟩
end
def cR (P : Program) (f : FuncId) (args : List Value) (g : ab) (r : aA) (Φ : Value → ab → aA → Prop) : Prop := Spec P f args g [r] fun v g' own' => ∃ r', own' = [r'] ∧ Φ v g' r'
section
variable {P : Program} {E : Env} {n : Nat} {L : dz} {g : ab} {own : List aA} {Q : Exit → Act → World → Prop} {ops : Array Oper} {rest : List Oper}
variable {d : Nat} {ty : TypeId} {pos : String} {after : Array Edge}
theorem aG {f : FuncId} {xs : Array Operand} {ts : Array TypeId} {cq : List Value} {r : aA} [hB : Body P f] {Φ : Value → ab → aA → Prop} (i : Nat) (hd : Nat.blt d n = true) (hx : gS L xs.toList = some cq) (ho : own[i]? = some r)
  (hs : cR P f cq g r Φ) (k : ∀ v g' r', Φ v g' r' → ab.le g g' → ah E n ((d, v) :: L) g' (own.set i r') (wpList P ops Q rest)) :
  ah E n L g own (wpList P ops Q (⟨some d, .call ⟨.value (.func f), xs, ts⟩, ty, pos, after, none⟩ :: rest)) :=
 jN (lent := [r]) hd hx (vR ho) hs fun v g' own' ⟨r', h1, h3⟩ hle => by
  subst h1
  have hlt : i < own.length := (List.getElem?_eq_some_iff.1 ho).1
  have hp := vR (own := own.set i r') (i := i) (r := r') (by simp [hlt])
  rw [List.eraseIdx_set_eq] at hp
  exact ko hp.symm (k v g' r' h3 hle)
end
end Go.aZ

/- The walking engine, ninth part: regions that draw their order, with a head in which some operations act and a tail that comes in one order behind all of the head ('m_*': a store at the end may hit what the head has read). -/
namespace Go.aZ
open Go Go.RowKit
section
variable {P : Program} {ops : Array Oper} {Q : Exit → Act → World → Prop} {S : World → Prop} {m : Nat} {T : Array Bool → Act → World → Prop}
def yN (P : Program) (ops : Array Oper) (Q : Exit → Act → World → Prop) (S : World → Prop) (m : Nat) (T : Array Bool → Act → World → Prop) : Nat → Array Bool → Act → World → Prop
 | 0, listed, a, w => T listed a w
 | f + 1, listed, a, w => Region.ready .any ops listed ≠ [] ∧ ∀ i ∈ Region.ready .any ops listed, i < m ∧ wpOp P ops Q i (fun a' w' => S w' ∧ yN P ops Q S m T f (listed.setIfInBounds i true) a' w') a w
theorem Rc {k : Nat} (hT : ∀ listed a w, T listed a w → wpAny P .any ops Q k listed a w) : ∀ (f : Nat) (listed : Array Bool) (a : Act) (w : World), yN P ops Q S m T f listed a w → wpAny P .any ops Q (f + k) listed a w
 | 0, listed, a, w, h => by rw [Nat.zero_add]; exact hT _ _ _ h
 | f + 1, listed, a, w, h => by
  rw [show f + 1 + k = (f + k) + 1 by omega]
  exact ⟨fun h0 => absurd h0 h.1, fun i hi => wpOp_mono (fun a' w' h' => Rc hT f _ a' w' h'.2) (h.2 i hi).2⟩
theorem aDC {i : Nat} {oi : Oper} {v : Value} (hi : ops[i]? = some oi) (Re : ∀ (j : Nat) (o : Oper) cs b, ops[j]? = some o → o.op ≠ .select cs b)
  (hQ : ∀ c a w, Q (.panic c) (a.put oi.dst v) w → Q (.panic c) a w) (hs : Region.sinkB .any ops m = true) (hc : Region.chainB .any ops m = true) (hn : m < ops.size) (dW : i < m)
  (aDD : ∀ listed a w, T listed a w → ∀ j ∈ Region.ready .any ops listed, m ≤ j) :
  ∀ (f : Nat) (listed : Array Bool) (a : Act) (w : World), HeadInv .any ops m listed →
   (∀ j oj, ops[j]? = some oj → j ≠ i → listed.getD j true = false → (∀ e ∈ oj.after, Region.binds .any e = true → e.on ≠ i) → oi.apart ops oj = true) →
   i ∈ Region.ready .any ops listed → YieldsIf P ops S oi v a → S w →
   yN P ops Q S m T f (listed.setIfInBounds i true) (a.put oi.dst v) w → yN P ops Q S m T (f + 1) listed a w := by
 intro f
 induction f with
 | zero =>
  intro listed a w inv _ hr hy hS H
  have Eb := (mem_ready.1 hr).1
  refine ⟨fun h => (by rw [h] at hr; cases hr), fun j hj => ?_⟩
  have Ec : j < m := by
   rcases Nat.lt_or_ge j m with h | h
   ·exact h
   ·exact absurd hj (tail_waits hs hc hn inv _ i rfl dW Eb j h)
  refine ⟨Ec, ?_⟩
  by_cases rH : j = i
  ·subst rH; exact hy.wpOp hi hS ⟨hS, H⟩
  ·have := aDD _ _ _ H j (ready_mono hj rH)
   omega
 | succ f ih =>
  intro listed a w inv Rf hr hy hS H
  have Eb := (mem_ready.1 hr).1
  refine ⟨fun h => (by rw [h] at hr; cases hr), fun j hj => ?_⟩
  have Ec : j < m := by
   rcases Nat.lt_or_ge j m with h | h
   ·exact h
   ·exact absurd hj (tail_waits hs hc hn inv _ i rfl dW Eb j h)
  refine ⟨Ec, ?_⟩
  by_cases rH : j = i
  ·subst rH; exact hy.wpOp hi hS ⟨hS, H⟩
  ·have h1 := (H.2 j (ready_mono hj rH)).2
   obtain ⟨Rg, oj, IV, hall⟩ := mem_ready.1 hj
   have yO : ∀ e ∈ oj.after, Region.binds .any e = true → e.on ≠ i := fun e he hb heq => by
    have h1 := hall e he hb
    rw [heq, getD_both Eb] at h1
    cases h1
   have h2 := wpOp_putIf IV (Rf j oj IV rH Rg yO) (fun cs b => Re i oi cs b hi) (fun cs b => Re j oj cs b IV) hQ hy h1
   have aDE : ∀ k ok, ops[k]? = some ok → k ≠ i → (listed.setIfInBounds j true).getD k true = false →
     (∀ e ∈ ok.after, Region.binds .any e = true → e.on ≠ i) → oi.apart ops ok = true := fun k ok hk hki Rh qO => by
    refine Rf k ok hk hki ?_ qO
    by_cases fK : j = k
    ·subst fK; exact Rg
    ·rw [getD_set_ne true fK] at Rh; exact Rh
   refine wpOp_mono (fun a' w' h3 => ⟨h3.2.1, ih (listed.setIfInBounds j true) a' w' (inv.set hj Ec) aDE (ready_mono hr (Ne.symm rH)) h3.1 h3.2.1 ?_⟩) h2
   rw [Array.setIfInBounds_comm _ _ rH]
   exact h3.2.2
def Ed (ops : Array Oper) (m : Nat) (listed : Array Bool) : Bool := decide (listed.size = ops.size) &&
 ((List.range ops.size).all fun j => match ops[j]? with
   | some oj => !listed.getD j false || oj.after.all fun e => !Region.binds .any e || listed.getD e.on false
   | none => true) && (List.range ops.size).all fun t => decide (t < m) || !listed.getD t true
theorem aDF {listed : Array Bool} (h : Ed ops m listed = true) : HeadInv .any ops m listed := by
 simp only [Ed, Bool.and_eq_true, decide_eq_true_eq, List.all_eq_true, List.mem_range] at h
 obtain ⟨⟨h1, h2⟩, h3⟩ := h
 refine ⟨h1, fun j oj hj hl e he hb => ?_, fun t ht eF => ?_⟩
 ·have := h2 j (Array.getElem?_eq_some_iff.1 hj).1
  rw [hj] at this
  simp only [hl, Bool.not_true, Bool.false_or, Array.all_eq_true_iff_forall_mem] at this
  have := this e he
  simpa [hb] using this
 ·have := h3 t eF
  simp only [Bool.or_eq_true, decide_eq_true_eq, Bool.not_eq_true'] at this
  rcases this with h | h
  ·omega
  ·exact h
end
def Hm (P : Program) (l : List Oper) (Q : Exit → Act → World → Prop) (S : World → Prop) (m f : Nat) (listed : Array Bool) : Act → World → Prop :=
 yN P l.toArray Q S m (fun aDG a' w' => Region.seqB .any l.toArray (l.toArray.size - m) m aDG = true ∧ wpList P l.toArray Q (l.drop m) a' w') f listed
def mB (l : List Oper) (m : Nat) : Bool := Region.noSelect l.toArray && decide (m < l.toArray.size) && Region.sinkB .any l.toArray m && Region.chainB .any l.toArray m
section
variable {P : Program} {E : Env} {n : Nat} {L : dz} {g : ab} {own : List aA} {Q : Exit → Act → World → Prop} {l : List Oper} {rest : List Oper}
variable {d : Nat} {ty : TypeId} {pos : String} {after : Array Edge} {f m : Nat} {listed : Array Bool} {dH : List aA} {S : World → Prop}
theorem fQ {id : Nat} (m : Nat) (js : List Nat) (hm : u0 P = true) (hB : mB l m = true)
  (h : jD E g → ah E n L g own (Hm P l Q (Inv E g (js.foldl (fun l j => l.eraseIdx j) own)) m m (Array.replicate l.length false))) : ah E n L g own ((Code.region id l.toArray true).wp P Q) := fun a w hF hI => by
 have h1 := h (jD.of hI) a _ hF hI.drew
 simp only [mB, Bool.and_eq_true, decide_eq_true_eq] at hB
 have hlen : m ≤ l.toArray.size := by have := hB.1.1.2; omega
 refine wp_region_any hm ?_
 have h2 := Rc (k := l.toArray.size - m) (fun listed a' w' hT => by
  have := wpAny_of_seq (md := .any) (Q' := Q) (l.drop m) m listed a' w' (fun j => by simp [List.getElem?_drop]) (by rw [List.length_drop, ← List.size_toArray]; exact hT.1) hT.2
  rwa [List.length_drop, ← List.size_toArray] at this) _ _ _ _ h1
 rw [show m + (l.toArray.size - m) = l.toArray.size by omega] at h2
 simpa using h2
theorem aDH [hN : NP Q] {g0 : ab} {op : Op} (i : Nat) (hi : l.toArray[i]? = some ⟨some d, op, ty, pos, after, none⟩)
  (hB : (mB l m && Ed l.toArray m listed && Region.free .any l.toArray listed i && (Region.ready .any l.toArray listed).contains i && decide (i < m)) = true)
  (hd : Nat.blt d n = true) (hG : jD E g0) (hle : ab.le g0 g) (eA : dH.Sublist own) (h : ∃ v, cH P E n L g0 dH ty op v ∧ ah E n ((d, v) :: L) g own (Hm P l Q (Inv E g0 dH) m f (listed.setIfInBounds i true))) :
  ah E n L g own (Hm P l Q (Inv E g0 dH) m (f + 1) listed) := fun a w hF hI => by
 obtain ⟨v, hv, k⟩ := h
 simp only [mB, Bool.and_eq_true, decide_eq_true_eq] at hB
 obtain ⟨⟨⟨⟨⟨⟨⟨b1, b2⟩, b3⟩, b4⟩, b5⟩, b6⟩, b7⟩, b8⟩ := hB
 exact aDC hi (Region.noSelect_spec b1) (fun c a' w' h => absurd h (hN.no c _ w')) b3 b4 b2 b8 (fun _ _ _ hT => seqB_ready hT.1) f listed a w (aDF b5) (Region.free_spec hi b6) (by simpa using b7)
  (.inl ⟨rfl, fun w' jT => hv a w' (some d) pos after hF jT⟩) (hI.back hG hle eA) (k _ w (hF.put hd v) hI)
theorem di [hN : NP Q] {g0 : ab} {op : Op} (i : Nat) (hi : l.toArray[i]? = some ⟨some d, op, ty, pos, after, none⟩)
  (hB : (mB l m && Ed l.toArray m listed && Region.free .any l.toArray listed i && (Region.ready .any l.toArray listed).contains i && decide (i < m)) = true)
  (hd : Nat.blt d n = true) (hG : jD E g0) (h : ∃ v, cH P E n L g0 dH ty op v ∧ ah E n ((d, v) :: L) g own (Hm P l Q (Inv E g0 dH) m f (listed.setIfInBounds i true)))
  (hle : ab.le g0 g := by first | exact ab.le_refl _ | assumption) (eA : dH.Sublist own := by repeat' (first | exact List.nil_sublist _ | refine List.Sublist.cons_cons _ ?_ | refine List.Sublist.cons _ ?_)) :
  ah E n L g own (Hm P l Q (Inv E g0 dH) m (f + 1) listed) := aDH i hi hB hd hG hle eA h
theorem iP {o : Oper} (i : Nat) (hr : Region.ready .any l.toArray listed = [i]) (IW : Nat.blt i m = true) (hi : l.toArray[i]? = some o)
  (h : ah E n L g own (wpList P l.toArray (Exit.then (fun a w => S w ∧ Hm P l Q S m f (listed.setIfInBounds i true) a w) Q) [o])) : ah E n L g own (Hm P l Q S m (f + 1) listed) := fun a w hF hI => by
 refine ⟨by rw [hr]; simp, ?_⟩
 intro j hj
 rw [hr] at hj
 obtain rfl : j = i := by simpa using hj
 have h1 := h a w hF hI
 refine ⟨Nat.blt_eq.mp IW, ?_⟩
 unfold wpOp
 simp only [hi]
 unfold wpList at h1
 split
 ·rename_i hw
  rw [if_pos hw] at h1
  rcases h1 with h1 | ⟨h1, h2⟩
  ·exact .inl (yM h1)
  ·exact .inr ⟨h1, h2⟩
 ·rename_i hw
  rw [if_neg hw] at h1
  exact h1
theorem aDI (hB : Region.seqB .any l.toArray (l.toArray.size - m) m listed = true) (h : ah E n L g own (wpList P l.toArray Q (l.drop m))) : ah E n L g own (Hm P l Q S m 0 listed) := fun a w hF hI => ⟨hB, h a w hF hI⟩
end
end Go.aZ

/- The walking engine, tenth part: calls through interfaces, type assertions, stand-ins that read, make or write memory (what errors.As needs). -/
namespace Go.aZ
open Go Go.RowKit
section
variable {P : Program} {E : Env} {n : Nat} {L : dz} {g : ab} {own : List aA} {Q : Exit → Act → World → Prop} {ops : Array Oper} {rest : List Oper}
variable {d : Nat} {ty : TypeId} {pos : String} {after : Array Edge}
theorem yP {a : Act} (hF : Fr n L a) {xs : Array Operand} {cq : List Value} (hx : gS L xs.toList = some cq) : (xs.map a.eval) = cq.toArray := by
 have := hF.pK hx
 apply Array.ext'
 simpa using this
theorem LY {f : FuncId} {e : Array Value → Sem Value} [hE : Ext P f e] {xs : Array Operand} {ts : Array TypeId} {cq : List Value} {v : Value} (hx : gS L xs.toList = some cq) (he : ∀ w, Inv E g own w → (e cq.toArray).run P w = .ok v w) :
  cH P E n L g own ty (.call ⟨.value (.func f), xs, ts⟩) v := fun a w dst pos after hF hI => by
 obtain ⟨fn, h1, h2, h3, h4, h5⟩ := hE.h
 have ji := yP hF hx
 have hc := run_callFunc_extern h1 h2 h3 h4 h5 cq.toArray w
 rw [he w hI] at hc
 simpa [execOp, resolve, Act.eval, Deferred.ofValue, invoke, ji] using hc
theorem LZ {f : FuncId} {e : Array Value → Sem Value} [hE : Ext P f e] {xs : Array Operand} {ts : Array TypeId} {cq : List Value} {mk : Nat → Value} {T : TypeId} {cs : List Value} (hd : Nat.blt d n = true) (hx : gS L xs.toList = some cq)
  (he : ∀ w, (e cq.toArray).run P w = .ok (mk w.heap.size) (w.alloc (.cells cs.toArray T))) (k : ∀ b, ah E n ((d, mk b) :: L) g (.ae b T cs :: own) (wpList P ops Q rest)) :
  ah E n L g own (wpList P ops Q (⟨some d, .call ⟨.value (.func f), xs, ts⟩, ty, pos, after, none⟩ :: rest)) := mg fun a w hF hI => by
 obtain ⟨fn, h1, h2, h3, h4, h5⟩ := hE.h
 have ji := yP hF hx
 have hc := run_callFunc_extern h1 h2 h3 h4 h5 cq.toArray w
 rw [he w] at hc
 have hr : (execOp a.eval ⟨some d, .call ⟨.value (.func f), xs, ts⟩, ty, pos, after, none⟩).run P w = .ok (.value (mk w.heap.size)) (w.alloc (.cells cs.toArray T)) := by
  simpa [execOp, resolve, Act.eval, Deferred.ofValue, invoke, ji] using hc
 unfold Oper.wp
 rw [hr]
 exact k _ _ _ (hF.put hd _) (hI.alloc T cs)
theorem U7 {f : FuncId} {e : Array Value → Sem Value} [hE : Ext P f e] {xs : Array Operand} {ts : Array TypeId} {cq : List Value} {v : Value} {b : Nat} {T : TypeId} {cs cs' : List Value} (i : Nat) (hd : Nat.blt d n = true) (hx : gS L xs.toList = some cq) (ho : own[i]? = some (.ae b T cs))
  (he : ∀ w, Inv E g own w → (e cq.toArray).run P w = .ok v (w.setRow b cs'.toArray)) (k : ah E n ((d, v) :: L) g (own.set i (.ae b T cs')) (wpList P ops Q rest)) :
  ah E n L g own (wpList P ops Q (⟨some d, .call ⟨.value (.func f), xs, ts⟩, ty, pos, after, none⟩ :: rest)) := mg fun a w hF hI => by
 obtain ⟨fn, h1, h2, h3, h4, h5⟩ := hE.h
 have ji := yP hF hx
 have hc := run_callFunc_extern h1 h2 h3 h4 h5 cq.toArray w
 rw [he w hI] at hc
 have hr : (execOp a.eval ⟨some d, .call ⟨.value (.func f), xs, ts⟩, ty, pos, after, none⟩).run P w = .ok (.value v) (w.setRow b cs'.toArray) := by
  simpa [execOp, resolve, Act.eval, Deferred.ofValue, invoke, ji] using hc
 unfold Oper.wp
 rw [hr]
 exact k _ _ (hF.put hd v) (hI.Jp ho cs')
theorem qV {x : Operand} {name : String} {f : FuncId} {e : Array Value → Sem Value} [hE : Ext P f e] {xs : Array Operand} {ts : Array TypeId} {cq : List Value} {T : TypeId} {u u' v : Value} (hx : ev L x = some (.iface T u)) (dV : gS L xs.toList = some cq)
  (hm : ∀ w, (Go.method (P.types.size + Made.depth) T u name).run P w = .ok (f, u') w) (he : ∀ w, (e (u' :: cq).toArray).run P w = .ok v w) :
  cH P E n L g own ty (.call ⟨.invoke x name, xs, ts⟩) v := fun a w dst pos after hF _ => by
 obtain ⟨fn, h1, h2, h3, h4, h5⟩ := hE.h
 have ji := yP hF dV
 have hc := run_callFunc_extern h1 h2 h3 h4 h5 (u' :: cq).toArray w
 rw [he w] at hc
 have hp : (program).run P w = .ok P w := rfl
 have hcm : (callMethod (.iface T u) name cq.toArray).run P w = .ok (.value v) w := by
  unfold callMethod
  simp only [Sem.run_bind, hp, Result.andThen_ok, hm w]
  simpa using hc
 simp [execOp, resolve, invoke, hF.eval hx, ji, hcm]
theorem LX {x : Operand} {name : String} {f : FuncId} {xs : Array Operand} {ts : Array TypeId} {cq : List Value} {T : TypeId} {u u' v : Value} [hB : Body P f] (hd : Nat.blt d n = true) (hx : ev L x = some (.iface T u)) (dV : gS L xs.toList = some cq)
  (hm : ∀ w, (Go.method (P.types.size + Made.depth) T u name).run P w = .ok (f, u') w) (hs : Pure P f (u' :: cq) g v) (k : ah E n ((d, v) :: L) g own (wpList P ops Q rest)) :
  ah E n L g own (wpList P ops Q (⟨some d, .call ⟨.invoke x name, xs, ts⟩, ty, pos, after, none⟩ :: rest)) := mg fun a w hF hI => by
 have hb := hB.h
 unfold uY at hb
 split at hb
 ·rename_i fn kz
  simp only [Bool.and_eq_true, Bool.not_eq_true', beq_eq_false_iff_ne, ne_eq] at hb
  have ji := yP hF dV
  have iq : fn.body ≠ none := fun h => by simp [h] at hb
  have hp : (program).run P w = .ok P w := rfl
  have hcm : (callMethod (.iface T u) name cq.toArray).run P w = .ok (.enter f (u' :: cq).toArray) w := by
   unfold callMethod
   simp only [Sem.run_bind, hp, Result.andThen_ok, hm w]
   simp [callFunc, hp, kz, hb.2, iq]
  have h1 : (execOp a.eval ⟨some d, .call ⟨.invoke x name, xs, ts⟩, ty, pos, after, none⟩).run P w = .ok (.enter f (u' :: cq).toArray) w := by
   simp [execOp, resolve, invoke, hF.eval hx, ji, hcm]
  unfold Oper.wp
  rw [h1]
  have jG : Inv E g ([] ++ own) w := hI
  have hH : Holds g [] w := (jG.drop (List.sublist_append_left _ _)).1
  refine (hs w hH).mono ?_
  rintro e w' ⟨v', g', own', rfl, ⟨rfl, rfl, rfl⟩, gM, c6⟩
  refine k _ _ (hF.put hd _) ?_
  exact Inv.move jG c6.size c6.tape c6.os c6.output c6.kept c6.mX gM.jF c6.oS gM.sat gM.mW gM.gn c6.lW
 ·cases hb
theorem zQ {x : Operand} {X T : TypeId} {u v : Value} (hx : ev L x = some u) (h : ∀ w, (Instr.typeAssert u X T true).run P w = .ok v w) : cH P E n L g own ty (.typeAssert x X T true) v := fun a w dst pos after hF _ => by
 simp [execOp, hF.eval hx, h w]
theorem zR {w : World} {i b o : Nat} {T : TypeId} {cs : List Value} {v : Value} (hI : Inv E g own w) (h : own[i]? = some (.ae b T cs)) (hv : cs[o]? = some v) : w.cell? ⟨b, o, none⟩ = some v := by
 have hs : w.heap[b]? = some (.cells cs.toArray T (0, 0)) := mq hI h
 simp [World.cell?, hs, hv]
end
end Go.aZ

/- The walking engine: three operations of a drawn region that can come up in any order; parts of what is read; over any program. -/
namespace Go.aZ
open Go
section
variable {P : Program} {E : Env} {n : Nat} {L : dz} {g : ab} {own : List aA} {Q : Exit → Act → World → Prop} {ops : Array Oper} {S : World → Prop} {fuel : Nat} {listed : Array Bool}
theorem qY {o o' Ri : Oper} (i i' IX : Nat) (hr : Region.ready .any ops listed = [i, i', IX]) (hi : ops[i]? = some o) (dR : ops[i']? = some o') (aDJ : ops[IX]? = some Ri)
  (h : ah E n L g own (wpList P ops (Exit.then (fun a w => S w ∧ Hq P ops Q S fuel (listed.setIfInBounds i true) a w) Q) [o]))
  (h' : ah E n L g own (wpList P ops (Exit.then (fun a w => S w ∧ Hq P ops Q S fuel (listed.setIfInBounds i' true) a w) Q) [o']))
  (h'' : ah E n L g own (wpList P ops (Exit.then (fun a w => S w ∧ Hq P ops Q S fuel (listed.setIfInBounds IX true) a w) Q) [Ri])) : ah E n L g own (Hq P ops Q S (fuel + 1) listed) := fun a w hF hI => by
 have aux : ∀ (j : Nat) (q : Oper), ops[j]? = some q → wpList P ops (Exit.then (fun a w => S w ∧ Hq P ops Q S fuel (listed.setIfInBounds j true) a w) Q) [q] a w →
   wpOp P ops Q j (fun a' w' => S w' ∧ wpAnyH P .any ops Q S fuel (listed.setIfInBounds j true) a' w') a w := by
  intro j q hq h1
  unfold wpOp
  simp only [hq]
  unfold wpList at h1
  split
  ·rename_i hw
   rw [if_pos hw] at h1
   rcases h1 with h1 | ⟨h1, h2⟩
   ·exact .inl (yM h1)
   ·exact .inr ⟨h1, h2⟩
  ·rename_i hw
   rw [if_neg hw] at h1
   exact h1
 refine wpAnyH_all hr sM ?_
 intro j hj
 simp only [List.mem_cons, List.not_mem_nil, or_false] at hj
 rcases hj with rfl | rfl | rfl
 ·exact aux _ _ hi (h a w hF hI)
 ·exact aux _ _ dR (h' a w hF hI)
 ·exact aux _ _ aDJ (h'' a w hF hI)
end
theorem Rd.du {g : ab} {own : List aA} {b off : Nat} {xs : List Value} (h : Rd g own b off xs) (d : Nat) {v : Value} (hv : xs[d]? = some v) : Rd g own b (off + d) [v] :=
 h.part d fun j x hj => by
  cases j with
  | zero => simp at hj; subst hj; simpa using hv
  | succ j => simp at hj
theorem Rd.EW {g : ab} {own : List aA} {b off : Nat} {x y z : Value} {bc : List Value} (h : Rd g own b off (x :: y :: z :: bc)) : Rd g own b (off + 3) bc :=
 h.part 3 fun j v hj => by rw [Nat.add_comm]; simpa using hj
end Go.aZ

/- A row as a block: stores into a row. -/
namespace Go.aZ
open Go Go.RowKit
theorem Rj : ∀ (pre cs : List Value) (vs r : List Value), il cs 0 vs = some r → il (pre ++ cs) pre.length vs = some (pre ++ r)
 | [], cs, vs, r, h => h
 | p :: pre, cs, vs, r, h => by
  have ih := Rj pre cs vs r h
  cases vs with
  | nil =>
   have : some cs = some r := by cases cs <;> simpa [il] using h
   cases this
   cases pre <;> simp [il]
  | cons v vs =>
   simp only [List.cons_append, List.length_cons, il, ih]
theorem Rk : ∀ (rI post vs : List Value), rI.length = vs.length → il (rI ++ post) 0 vs = some (vs ++ post)
 | [], post, [], _ => by cases post <;> rfl
 | o :: rI, post, v :: vs, h => by
  have ih := Rk rI post vs (by simpa using h)
  simp only [List.cons_append, il, ih]
theorem xX (pre rI post vs : List Value) (off : Nat) (ho : off = pre.length) (h : rI.length = vs.length) : il (pre ++ (rI ++ post)) off vs = some (pre ++ (vs ++ post)) := by
 subst ho
 exact Rj pre _ vs _ (Rk rI post vs h)
section
variable {E : Env} {n : Nat} {L : dz} {g : ab} {own : List aA}
theorem N4 {X : Act → World → Prop} {T : TypeId} {size m : Nat} {v : Value} {xs : List Value} (i : Nat) (h : own[i]? = some (.row T size v m xs)) (hm : 0 < m) (k : (∃ b cap, v = .slice (some ⟨b, 0, none⟩) m cap) → ah E n L g own X) : ah E n L g own X := fun a w hF hI => by
 have hs : w.ownsRow 0 T size v m xs := mq hI h
 refine k ?_ a w hF hI
 rcases hs.2 with ⟨_, h0⟩ | ⟨b, cap, cur, rfl, _⟩
 ·omega
 ·exact ⟨_, _, rfl⟩
theorem yx {X : Act → World → Prop} {T : TypeId} {size m : Nat} {v : Value} {xs : List Value} (i : Nat) (h : own[i]? = some (.row T size v m xs)) (k : (∃ a c, v = .slice a m c) → ah E n L g own X) : ah E n L g own X := fun a w hF hI => by
 have hs : w.ownsRow 0 T size v m xs := mq hI h
 refine k ?_ a w hF hI
 rcases hs.2 with ⟨rfl, rfl⟩ | ⟨b, cap, cur, rfl, _⟩
 ·exact ⟨_, _, rfl⟩
 ·exact ⟨_, _, rfl⟩
theorem Zl {b off : Nat} {T : TypeId} {cs vs : List Value} (i : Nat) (h : own[i]? = some (.ae b T cs)) (hv : ∀ j x, vs[j]? = some x → cs[off + j]? = some x) : Rd g own b off vs := fun _ _ hI j x hx => zR hI h (hv j x hx)
end
end Go.aZ

/- Drawn regions with a tail: two operations of the head that can come up. -/
namespace Go.aZ
open Go Go.RowKit
section
variable {P : Program} {E : Env} {n : Nat} {L : dz} {g : ab} {own : List aA} {Q : Exit → Act → World → Prop} {l : List Oper}
variable {f m : Nat} {listed : Array Bool} {S : World → Prop}
theorem Ou {o o' : Oper} (i i' : Nat) (hr : Region.ready .any l.toArray listed = [i, i']) (IW : Nat.blt i m = true) (aDK : Nat.blt i' m = true) (hi : l.toArray[i]? = some o) (dR : l.toArray[i']? = some o')
  (h : ah E n L g own (wpList P l.toArray (Exit.then (fun a w => S w ∧ Hm P l Q S m f (listed.setIfInBounds i true) a w) Q) [o]))
  (h' : ah E n L g own (wpList P l.toArray (Exit.then (fun a w => S w ∧ Hm P l Q S m f (listed.setIfInBounds i' true) a w) Q) [o'])) : ah E n L g own (Hm P l Q S m (f + 1) listed) := fun a w hF hI => by
 refine ⟨by rw [hr]; simp, ?_⟩
 have aux : ∀ (j : Nat) (q : Oper), l.toArray[j]? = some q → wpList P l.toArray (Exit.then (fun a w => S w ∧ Hm P l Q S m f (listed.setIfInBounds j true) a w) Q) [q] a w →
   wpOp P l.toArray Q j (fun a' w' => S w' ∧ Hm P l Q S m f (listed.setIfInBounds j true) a' w') a w := by
  intro j q hq h1
  unfold wpOp
  simp only [hq]
  unfold wpList at h1
  split
  ·rename_i hw
   rw [if_pos hw] at h1
   rcases h1 with h1 | ⟨h1, h2⟩
   ·exact .inl (yM h1)
   ·exact .inr ⟨h1, h2⟩
  ·rename_i hw
   rw [if_neg hw] at h1
   exact h1
 intro j hj
 rw [hr] at hj
 simp only [List.mem_cons, List.not_mem_nil, or_false] at hj
 rcases hj with rfl | rfl
 ·exact ⟨Nat.blt_eq.mp IW, aux _ _ hi (h a w hF hI)⟩
 ·exact ⟨Nat.blt_eq.mp aDK, aux _ _ dR (h' a w hF hI)⟩
theorem Dv {X : Act → World → Prop} {T : TypeId} {size m b cap : Nat} {xs : List Value} (h : ∀ rest, m ≤ cap → cap ≤ maxLen → xs.length = m * size → (xs ++ rest).length = cap * size → ah E n L g (.ae b T (xs ++ rest) :: own) X) :
  ah E n L g (.row T size (.slice (some ⟨b, 0, none⟩) m cap) m xs :: own) X := fun a w hF hI => by
 have hs : w.ownsRow 0 T size (.slice (some ⟨b, 0, none⟩) m cap) m xs := hI.1.sat (.row T size (.slice (some ⟨b, 0, none⟩) m cap) m xs) sM
 obtain ⟨hl, hs⟩ := hs
 rcases hs with ⟨h0, _⟩ | ⟨b', jZ, cur, h0, _, hg, qC, hcm, hcs, Eu⟩
 ·cases h0
 ·cases h0
  have Rl : xs ++ cur.toList.drop xs.length = cur.toList := by
   conv => rhs; rw [← List.take_append_drop xs.length cur.toList]
   congr 1
   rw [hl]
   exact Eu.symm
  refine h (cur.toList.drop xs.length) qC hcm hl (by rw [Rl]; simpa using hcs) a w hF ?_
  refine Inv.swap (pre := []) (r := .row T size (.slice (some ⟨b, 0, none⟩) m cap) m xs) (r' := .ae b T (xs ++ cur.toList.drop xs.length)) hI (Nat.le_refl _) rfl rfl rfl (fun _ _ _ => rfl) ?_ (by simp [aA.ew]) (fun k hk => .inr (by simpa [aA.ew, Value.ownBlock] using hk))
  show w.heap[b]? = _
  rw [hg, Rl]
theorem IF {X : Act → World → Prop} {T : TypeId} {size m b cap : Nat} {xs ys : List Value} (h1 : ys.length = cap * size) (h2 : m ≤ cap) (h3 : cap ≤ maxLen) (h4 : ys.take (m * size) = xs) (h5 : xs.length = m * size)
  (h : ah E n L g (.row T size (.slice (some ⟨b, 0, none⟩) m cap) m xs :: own) X) : ah E n L g (.ae b T ys :: own) X := fun a w hF hI => by
 refine h a w hF ?_
 have hs : w.heap[b]? = some (.cells ys.toArray T (0, 0)) := hI.1.sat (.ae b T ys) sM
 refine Inv.swap (pre := []) (r := .ae b T ys) (r' := .row T size (.slice (some ⟨b, 0, none⟩) m cap) m xs) hI (Nat.le_refl _) rfl rfl rfl (fun _ _ _ => rfl) ?_ (by simp [aA.ew, Value.ownBlock]) (fun k hk => .inr (by simpa [aA.ew, Value.ownBlock] using hk))
 exact ⟨h5, .inr ⟨b, cap, ys.toArray, rfl, Nat.zero_le _, hs, h2, h3, by simpa using h1, by simpa using h4⟩⟩
theorem GQ {f : FuncId} {args : List Value} {T : TypeId} {size m : Nat} {v u : Value} {xs : List Value} (h : ∀ g', ab.le g g' → au g' size v m xs → Pure P f args g' u) : lB P f args g (.row T size v m xs) u := fun w hH => by
 obtain ⟨g1, O1, hle, aq⟩ := (Inv.start hH).Jr
 refine (h g1 hle aq w O1.1).mono ?_
 rintro e w' ⟨v', g', own', rfl, ⟨rfl, rfl, rfl⟩, gM, c6⟩
 have hk : ∀ b, b < w.heap.size → w'.heap[b]? = w.heap[b]? := fun b hb => c6.kept b hb (by simp [cI])
 refine ⟨_, g, [.row T size v m xs], rfl, ⟨rfl, rfl, rfl⟩, ⟨fun b o x hx => gM.jF b o x (hle b o x hx), fun r hr => ?_, hH.mW, hH.gn⟩, ⟨c6.size, fun b hb _ => hk b hb, c6.tape, c6.os, c6.output, ab.le_refl g, fun b o h => absurd rfl h, fun b hb => .inr hb⟩⟩
 exact aA.Er (hH.sat r hr) (fun b hb => hk b (aA.Jm (hH.sat r hr) b hb))
end
end Go.aZ

/- The walking engine: slices of slices; over any program. -/
namespace Go.aZ
open Go Go.RowKit
section
variable {P : Program} {E : Env} {n : Nat} {L : dz} {g : ab} {own : List aA} {ty : TypeId}
theorem C_ {x y : Operand} {T e : TypeId} {sz eh : Nat} [hT : fP P T e sz eh] {a : Option Addr} {len cap p : Nat} {K : IntKind} {i : Int} (hx : ev L x = some (.slice a len cap)) (hy : ev L y = some (.int K i)) (hi : i = p) (h1 : p ≤ len) (_h2 : len ≤ cap) :
  cH P E n L g own ty (.slice T x (some y) none none) (.slice (if cap = p then a else a.map (·.add (p * sz))) (len - p) (cap - p)) := fun a' w dst pos after hF _ => by
 obtain ⟨inf, IY, h3, h4⟩ := vd hT
 subst hi
 simp [execOp, hF.eval hx, hF.eval hy, Instr.sliceAt, Instr.slice, Instr.sliceBounds, Instr.sliceBound, asIntOf, run_underlying hT.u, h1, Go.sizeOf, typeInfo, IY, h3]
theorem PJ {x y : Operand} {T e : TypeId} {sz eh : Nat} [hT : fP P T e sz eh] {a : Option Addr} {len cap q : Nat} {K : IntKind} {i : Int} (hx : ev L x = some (.slice a len cap)) (hy : ev L y = some (.int K i)) (hi : i = q) (h1 : q ≤ cap) :
  cH P E n L g own ty (.slice T x none (some y) none) (.slice (if cap = 0 then a else a.map (·.add (0 * sz))) q cap) := fun a' w dst pos after hF _ => by
 obtain ⟨inf, IY, h3, h4⟩ := vd hT
 subst hi
 simp [execOp, hF.eval hx, hF.eval hy, Instr.sliceAt, Instr.slice, Instr.sliceBounds, Instr.sliceBound, asIntOf, run_underlying hT.u, h1, Go.sizeOf, typeInfo, IY, h3]
theorem au.lo {size : Nat} {a : Option Addr} {m len cap p : Nat} {xs : List Value} (h : au g size (.slice a m cap) len xs) (hp : p ≤ len) : m = len ∧ len ≤ cap ∧ au g size (.slice (if cap = p then a else a.map (·.add (p * size))) (len - p) (cap - p)) (len - p) (xs.drop (p * size)) := by
 obtain ⟨hl, h⟩ := h
 have hd : (xs.drop (p * size)).length = (len - p) * size := by rw [List.length_drop, hl, Nat.sub_mul]
 rcases h with ⟨⟨a', c', e⟩, rfl⟩ | ⟨b, off, jZ, e, h1, h2, h3⟩
 ·cases e
  obtain rfl : p = 0 := by omega
  refine ⟨rfl, Nat.zero_le _, hd, .inl ⟨⟨_, _, rfl⟩, rfl⟩⟩
 ·cases e
  refine ⟨rfl, h1, hd, ?_⟩
  by_cases hc : cap = p
  ·rw [if_pos hc]
   have e0 : m - p = 0 := by omega
   rw [e0]
   exact .inl ⟨⟨_, _, rfl⟩, rfl⟩
  ·rw [if_neg hc]
   refine .inr ⟨b, off + p * size, cap - p, by rw [Option.map_some, pY], oM, oM, fun j x hj => ?_⟩
   rw [List.getElem?_drop] at hj
   rw [Nat.add_assoc]
   exact h3 _ _ hj
theorem au.hi {size : Nat} {a : Option Addr} {m len cap q : Nat} {xs : List Value} (h : au g size (.slice a m cap) len xs) (hq : q ≤ len) : q ≤ cap ∧ au g size (.slice (if cap = 0 then a else a.map (·.add (0 * size))) q cap) q (xs.take (q * size)) := by
 obtain ⟨hl, h⟩ := h
 have hm : q * size ≤ len * size := Nat.mul_le_mul_right size hq
 have hd : (xs.take (q * size)).length = q * size := by rw [List.length_take, hl]; omega
 rcases h with ⟨⟨a', c', e⟩, rfl⟩ | ⟨b, off, jZ, e, h1, h2, h3⟩
 ·cases e
  obtain rfl : q = 0 := by omega
  exact ⟨Nat.zero_le _, hd, .inl ⟨⟨_, _, rfl⟩, rfl⟩⟩
 ·cases e
  refine ⟨oM, hd, ?_⟩
  by_cases hc : cap = 0
  ·rw [if_pos hc]
   have e0 : q = 0 := by omega
   rw [e0]
   exact .inl ⟨⟨_, _, rfl⟩, rfl⟩
  ·rw [if_neg hc]
   refine .inr ⟨b, off, cap, by rw [Option.map_some, pY, Nat.zero_mul, Nat.add_zero], oM, h2, fun j x hj => ?_⟩
   rw [List.getElem?_take] at hj
   split at hj
   ·exact h3 _ _ hj
   ·cases hj
end
end Go.aZ


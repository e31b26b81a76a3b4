/- The walking engine, ninth part: regions that draw their order, with a head in which some operations act and a tail that comes in one order behind all of the head ('m_*': a store at the end may hit what the head has read). -/
import Derived.Test.YtpjehhnaojjanaaGreatDoorK4
import Derived.Test.YtpjehhnaojjanaaGreatDoorK5
import Derived.Test.YtpjehhnaojjanaaGreatDoorK1
import Derived.Test.YtpjehhnaojjanaaGreatDoorK2
import Derived.Test.YtpjehhnaojjanaaGreatDoorK3
namespace Go.Eng
open Go Go.RowKit
section
variable {P : Program} {ops : Array Oper} {Q : Exit → Act → World → Prop} {S : World → Prop} {m : Nat} {T : Array Bool → Act → World → Prop}
def wpHead (P : Program) (ops : Array Oper) (Q : Exit → Act → World → Prop) (S : World → Prop) (m : Nat) (T : Array Bool → Act → World → Prop) : Nat → Array Bool → Act → World → Prop
 | 0, listed, a, w => T listed a w
 | f + 1, listed, a, w => Region.ready .any ops listed ≠ [] ∧ ∀ i ∈ Region.ready .any ops listed, i < m ∧ wpOp P ops Q i (fun a' w' => S w' ∧ wpHead P ops Q S m T f (listed.setIfInBounds i true) a' w') a w
theorem any_of_head {k : Nat} (hT : ∀ listed a w, T listed a w → wpAny P .any ops Q k listed a w) : ∀ (f : Nat) (listed : Array Bool) (a : Act) (w : World), wpHead P ops Q S m T f listed a w → wpAny P .any ops Q (f + k) listed a w
 | 0, listed, a, w, h => by rw [Nat.zero_add]; exact hT _ _ _ h
 | f + 1, listed, a, w, h => by
  rw [show f + 1 + k = (f + k) + 1 by omega]
  exact ⟨fun h0 => absurd h0 h.1, fun i hi => wpOp_mono (fun a' w' h' => any_of_head hT f _ a' w' h'.2) (h.2 i hi).2⟩
theorem wpHead_first {i : Nat} {oi : Oper} {v : Value} (hi : ops[i]? = some oi) (hsel : ∀ (j : Nat) (o : Oper) cs b, ops[j]? = some o → o.op ≠ .select cs b)
  (hQ : ∀ c a w, Q (.panic c) (a.put oi.dst v) w → Q (.panic c) a w) (hs : Region.sinkB .any ops m = true) (hc : Region.chainB .any ops m = true) (hn : m < ops.size) (hin : i < m)
  (hdone : ∀ listed a w, T listed a w → ∀ j ∈ Region.ready .any ops listed, m ≤ j) :
  ∀ (f : Nat) (listed : Array Bool) (a : Act) (w : World), HeadInv .any ops m listed →
   (∀ j oj, ops[j]? = some oj → j ≠ i → listed.getD j true = false → (∀ e ∈ oj.after, Region.binds .any e = true → e.on ≠ i) → oi.apart ops oj = true) →
   i ∈ Region.ready .any ops listed → YieldsIf P ops S oi v a → S w →
   wpHead P ops Q S m T f (listed.setIfInBounds i true) (a.put oi.dst v) w → wpHead P ops Q S m T (f + 1) listed a w := by
 intro f
 induction f with
 | zero =>
  intro listed a w inv _ hr hy hS H
  have hun := (mem_ready.1 hr).1
  refine ⟨fun h => (by rw [h] at hr; cases hr), fun j hj => ?_⟩
  have hjm : j < m := by
   rcases Nat.lt_or_ge j m with h | h
   ·exact h
   ·exact absurd hj (tail_waits hs hc hn inv _ i rfl hin hun j h)
  refine ⟨hjm, ?_⟩
  by_cases hji : j = i
  ·subst hji; exact hy.wpOp hi hS ⟨hS, H⟩
  ·have := hdone _ _ _ H j (ready_mono hj hji)
   omega
 | succ f ih =>
  intro listed a w inv hfree hr hy hS H
  have hun := (mem_ready.1 hr).1
  refine ⟨fun h => (by rw [h] at hr; cases hr), fun j hj => ?_⟩
  have hjm : j < m := by
   rcases Nat.lt_or_ge j m with h | h
   ·exact h
   ·exact absurd hj (tail_waits hs hc hn inv _ i rfl hin hun j h)
  refine ⟨hjm, ?_⟩
  by_cases hji : j = i
  ·subst hji; exact hy.wpOp hi hS ⟨hS, H⟩
  ·have h1 := (H.2 j (ready_mono hj hji)).2
   obtain ⟨hjun, oj, hoj, hall⟩ := mem_ready.1 hj
   have hnot : ∀ e ∈ oj.after, Region.binds .any e = true → e.on ≠ i := fun e he hb heq => by
    have h1 := hall e he hb
    rw [heq, getD_both hun] at h1
    cases h1
   have h2 := wpOp_putIf hoj (hfree j oj hoj hji hjun hnot) (fun cs b => hsel i oi cs b hi) (fun cs b => hsel j oj cs b hoj) hQ hy h1
   have hfree' : ∀ k ok, ops[k]? = some ok → k ≠ i → (listed.setIfInBounds j true).getD k true = false →
     (∀ e ∈ ok.after, Region.binds .any e = true → e.on ≠ i) → oi.apart ops ok = true := fun k ok hk hki hun' hno => by
    refine hfree k ok hk hki ?_ hno
    by_cases hjk : j = k
    ·subst hjk; exact hjun
    ·rw [getD_set_ne true hjk] at hun'; exact hun'
   refine wpOp_mono (fun a' w' h3 => ⟨h3.2.1, ih (listed.setIfInBounds j true) a' w' (inv.set hj hjm) hfree' (ready_mono hr (Ne.symm hji)) h3.1 h3.2.1 ?_⟩) h2
   rw [Array.setIfInBounds_comm _ _ hji]
   exact h3.2.2
def headB (ops : Array Oper) (m : Nat) (listed : Array Bool) : Bool := decide (listed.size = ops.size) &&
 ((List.range ops.size).all fun j => match ops[j]? with
   | some oj => !listed.getD j false || oj.after.all fun e => !Region.binds .any e || listed.getD e.on false
   | none => true) && (List.range ops.size).all fun t => decide (t < m) || !listed.getD t true
theorem headB_spec {listed : Array Bool} (h : headB ops m listed = true) : HeadInv .any ops m listed := by
 simp only [headB, Bool.and_eq_true, decide_eq_true_eq, List.all_eq_true, List.mem_range] at h
 obtain ⟨⟨h1, h2⟩, h3⟩ := h
 refine ⟨h1, fun j oj hj hl e he hb => ?_, fun t ht ht' => ?_⟩
 ·have := h2 j (Array.getElem?_eq_some_iff.1 hj).1
  rw [hj] at this
  simp only [hl, Bool.not_true, Bool.false_or, Array.all_eq_true_iff_forall_mem] at this
  have := this e he
  simpa [hb] using this
 ·have := h3 t ht'
  simp only [Bool.or_eq_true, decide_eq_true_eq, Bool.not_eq_true'] at this
  rcases this with h | h
  ·omega
  ·exact h
end
def Hm (P : Program) (l : List Oper) (Q : Exit → Act → World → Prop) (S : World → Prop) (m f : Nat) (listed : Array Bool) : Act → World → Prop :=
 wpHead P l.toArray Q S m (fun listed' a' w' => Region.seqB .any l.toArray (l.toArray.size - m) m listed' = true ∧ wpList P l.toArray Q (l.drop m) a' w') f listed
def mB (l : List Oper) (m : Nat) : Bool := Region.noSelect l.toArray && decide (m < l.toArray.size) && Region.sinkB .any l.toArray m && Region.chainB .any l.toArray m
section
variable {P : Program} {E : Env} {n : Nat} {L : Slots} {g : Ghost} {own : List Res} {Q : Exit → Act → World → Prop} {l : List Oper} {rest : List Oper}
variable {d : Nat} {ty : TypeId} {pos : String} {after : Array Edge} {f m : Nat} {listed : Array Bool} {own0 : List Res} {S : World → Prop}
theorem m_begin {id : Nat} (m : Nat) (js : List Nat) (hm : MixedB P = true) (hB : mB l m = true)
  (h : GFact E g → Run E n L g own (Hm P l Q (Inv E g (js.foldl (fun l j => l.eraseIdx j) own)) m m (Array.replicate l.length false))) : Run E n L g own ((Code.region id l.toArray true).wp P Q) := fun a w hF hI => by
 have h1 := h (GFact.of hI) a _ hF hI.drew
 simp only [mB, Bool.and_eq_true, decide_eq_true_eq] at hB
 have hlen : m ≤ l.toArray.size := by have := hB.1.1.2; omega
 refine wp_region_any hm ?_
 have h2 := any_of_head (k := l.toArray.size - m) (fun listed a' w' hT => by
  have := wpAny_of_seq (md := .any) (Q' := Q) (l.drop m) m listed a' w' (fun j => by simp [List.getElem?_drop]) (by rw [List.length_drop, ← List.size_toArray]; exact hT.1) hT.2
  rwa [List.length_drop, ← List.size_toArray] at this) _ _ _ _ h1
 rw [show m + (l.toArray.size - m) = l.toArray.size by omega] at h2
 simpa using h2
theorem m_takeX [hN : NP Q] {g0 : Ghost} {op : Op} (i : Nat) (hi : l.toArray[i]? = some ⟨some d, op, ty, pos, after, none⟩)
  (hB : (mB l m && headB l.toArray m listed && Region.free .any l.toArray listed i && (Region.ready .any l.toArray listed).contains i && decide (i < m)) = true)
  (hd : Nat.blt d n = true) (hG : GFact E g0) (hle : Ghost.le g0 g) (hsub : own0.Sublist own) (h : ∃ v, Val P E n L g0 own0 ty op v ∧ Run E n ((d, v) :: L) g own (Hm P l Q (Inv E g0 own0) m f (listed.setIfInBounds i true))) :
  Run E n L g own (Hm P l Q (Inv E g0 own0) m (f + 1) listed) := fun a w hF hI => by
 obtain ⟨v, hv, k⟩ := h
 simp only [mB, Bool.and_eq_true, decide_eq_true_eq] at hB
 obtain ⟨⟨⟨⟨⟨⟨⟨b1, b2⟩, b3⟩, b4⟩, b5⟩, b6⟩, b7⟩, b8⟩ := hB
 exact wpHead_first hi (Region.noSelect_spec b1) (fun c a' w' h => absurd h (hN.no c _ w')) b3 b4 b2 b8 (fun _ _ _ hT => seqB_ready hT.1) f listed a w (headB_spec b5) (Region.free_spec hi b6) (by simpa using b7)
  (.inl ⟨rfl, fun w' hw' => hv a w' (some d) pos after hF hw'⟩) (hI.back hG hle hsub) (k _ w (hF.put hd v) hI)
theorem m_takeXA [hN : NP Q] {g0 : Ghost} {op : Op} (i : Nat) (hi : l.toArray[i]? = some ⟨some d, op, ty, pos, after, none⟩)
  (hB : (mB l m && headB l.toArray m listed && Region.free .any l.toArray listed i && (Region.ready .any l.toArray listed).contains i && decide (i < m)) = true)
  (hd : Nat.blt d n = true) (hG : GFact E g0) (h : ∃ v, Val P E n L g0 own0 ty op v ∧ Run E n ((d, v) :: L) g own (Hm P l Q (Inv E g0 own0) m f (listed.setIfInBounds i true)))
  (hle : Ghost.le g0 g := by first | exact Ghost.le_refl _ | assumption) (hsub : own0.Sublist own := by repeat' (first | exact List.nil_sublist _ | refine List.Sublist.cons_cons _ ?_ | refine List.Sublist.cons _ ?_)) :
  Run E n L g own (Hm P l Q (Inv E g0 own0) m (f + 1) listed) := m_takeX i hi hB hd hG hle hsub h
theorem m_one {o : Oper} (i : Nat) (hr : Region.ready .any l.toArray listed = [i]) (him : Nat.blt i m = true) (hi : l.toArray[i]? = some o)
  (h : Run E n L g own (wpList P l.toArray (Exit.then (fun a w => S w ∧ Hm P l Q S m f (listed.setIfInBounds i true) a w) Q) [o])) : Run E n L g own (Hm P l Q S m (f + 1) listed) := fun a w hF hI => by
 refine ⟨by rw [hr]; simp, ?_⟩
 intro j hj
 rw [hr] at hj
 obtain rfl : j = i := by simpa using hj
 have h1 := h a w hF hI
 refine ⟨Nat.blt_eq.mp him, ?_⟩
 unfold wpOp
 simp only [hi]
 unfold wpList at h1
 split
 ·rename_i hw
  rw [if_pos hw] at h1
  rcases h1 with h1 | ⟨h1, h2⟩
  ·exact .inl (upon_then h1)
  ·exact .inr ⟨h1, h2⟩
 ·rename_i hw
  rw [if_neg hw] at h1
  exact h1
theorem m_done (hB : Region.seqB .any l.toArray (l.toArray.size - m) m listed = true) (h : Run E n L g own (wpList P l.toArray Q (l.drop m))) : Run E n L g own (Hm P l Q S m 0 listed) := fun a w hF hI => ⟨hB, h a w hF hI⟩
end
end Go.Eng
-- sum 8451e28b8270627f

/- The walks of the reference's reader (typedholesref5): Atom and Type read what the plain grammar reads. -/
namespace Go.Proofs.YtpjehhnaojjanaaGreatDoor
open Go Go.Eng Go.Th Go.Proofs
set_option maxRecDepth 10000
set_option maxHeartbeats 4000000
attribute [local irreducible] wpList Code.wp Run bodyPost Go.Eng.Ends Exit.then Exit.inBlock Again Wq Kq
def KW (l : List Tok) : Prop := ∀ t ∈ l, t.kind = kindOf t.text
theorem isAt_mark {l : List Tok} (h : KW l) {w : Bytes} (hw : kindOf w = 5) (i : Nat) : isAt l i w = markAt l i w := by
 unfold isAt markAt
 have : tokAt l i 4 w = false := by
  unfold tokAt
  cases hl : l[i]? with
  | none => rfl
  | some t =>
   simp only [Bool.and_eq_false_iff, decide_eq_false_iff_not]
   by_cases hk : t.kind = 4
   ·refine .inr fun ht => ?_
    have := h t (List.mem_of_getElem? hl)
    rw [ht, hw] at this
    omega
   ·exact .inl hk
 rw [this, Bool.or_false]
theorem kindAt_lt {l : List Tok} {i : Nat} (h : i < l.length) (k : Int) : kindAt l i k = decide (l[i].kind = k) := by unfold kindAt; rw [toks_some h]
end Go.Proofs.YtpjehhnaojjanaaGreatDoor
-- sum adf1d1d3c2159130

/- The walks of the reference's reader (typedholesref5): Type, and the joint induction. -/
namespace Go.Eng
open Go
section
variable {P : Program} {E : Env} {n : Nat} {L : Slots} {g : Ghost} {own : List Res} {Q : Exit → Act → World → Prop}
theorem r_cutG {ι : Type} (Lf : ι → Slots) (gf : ι → Ghost) (of : ι → List Res) (φ : ι → Prop) {x y : Code} (h2 : ∀ p, φ p → Run E n (Lf p) (gf p) (of p) (y.wp P Q))
  (h1 : ∀ K : Act → World → Prop, (∀ p L'', φ p → Sub (Lf p) L'' → Run E n L'' (gf p) (of p) K) → Run E n L g own (x.wp P (Exit.then K Q))) : Run E n L g own ((Code.seq x y).wp P Q) :=
 r_seq (h1 _ fun p _ hφ hs => r_sub (Lf p) hs (h2 p hφ))
theorem r_rowForm {X : Act → World → Prop} {T : TypeId} {size m : Nat} {v : Value} {xs : List Value} (i : Nat) (h : own[i]? = some (.row T size v m xs)) (k : (∃ a m c, v = .slice a m c) → Run E n L g own X) : Run E n L g own X := fun a w hF hI => by
 have hs : w.ownsRow 0 T size v m xs := sat_at hI h
 refine k ?_ a w hF hI
 rcases hs.2 with ⟨rfl, _⟩ | ⟨b, cap, cur, rfl, _⟩
 ·exact ⟨_, _, _, rfl⟩
 ·exact ⟨_, _, _, rfl⟩
end
end Go.Eng
namespace Go.Proofs.YtpjehhnaojjanaaGreatDoor
open Go Go.Eng Go.Th Go.Proofs
set_option maxRecDepth 10000
set_option maxHeartbeats 4000000
attribute [local irreducible] wpList Code.wp Run bodyPost Go.Eng.Ends Exit.then Exit.inBlock Again Wq Kq
end Go.Proofs.YtpjehhnaojjanaaGreatDoor
-- sum 3fc5dca94351726b

/- What a scan's tokens are like: bounds, kinds. No program in sight. -/
namespace Go.Th
theorem scanGo_facts : ∀ (f i : Nat) (s : Bytes) (l : List Tok), scanGo f i s = .ok l → l.length ≤ s.length ∧ ∀ t ∈ l, t.kind = kindOf t.text ∧ kindOf t.text ≠ 0 ∧ (i : Int) ≤ t.pos ∧ t.pos + t.text.length ≤ (i + s.length : Nat)
 | 0, _, _, l, h => by
  simp only [scanGo, Except.ok.injEq] at h; subst h; simp
 | _ + 1, _, [], l, h => by
  simp only [scanGo, Except.ok.injEq] at h; subst h; simp
 | f + 1, i, c :: r, l, h => by
  simp only [scanGo] at h
  split at h
  ·have ih := scanGo_facts f (i + 1) r l h
   refine ⟨by simp; omega, fun t ht => ?_⟩
   obtain ⟨h1, h2, h3, h4⟩ := ih.2 t ht
   exact ⟨h1, h2, by omega, by simp only [List.length_cons]; omega⟩
  ·split at h
   ·have ih := scanGo_facts f _ _ l h
    have hle := commentLen_le (c :: r)
    rw [List.length_drop] at ih
    refine ⟨by omega, fun t ht => ?_⟩
    obtain ⟨h1, h2, h3, h4⟩ := ih.2 t ht
    exact ⟨h1, h2, by omega, by omega⟩
   ·split at h
    ·cases h
    ·rename_i hk
     split at h
     ·cases h
     ·rename_i l' hl
      simp only [Except.ok.injEq] at h
      subst h
      have ih := scanGo_facts f _ _ l' hl
      have hle := tokLen_le (c :: r)
      have hpos := tokLen_pos c r
      rw [List.length_drop] at ih
      refine ⟨by simp only [List.length_cons] at *; omega, fun t ht => ?_⟩
      rcases List.mem_cons.1 ht with rfl | ht
      ·refine ⟨rfl, hk, by simp, ?_⟩
       simp only [List.length_take]
       omega
      ·obtain ⟨h1, h2, h3, h4⟩ := ih.2 t ht
       exact ⟨h1, h2, by omega, by omega⟩
def toksOf (s : Bytes) : List Tok := match scan s with | .ok l => l | .bad _ _ => []
theorem toksOf_facts (s : Bytes) : (toksOf s).length ≤ 4000 ∧ ∀ t ∈ toksOf s, t.kind = kindOf t.text ∧ kindOf t.text ≠ 0 ∧ 0 ≤ t.pos ∧ t.pos + t.text.length ≤ 4000 := by
 unfold toksOf scan
 by_cases h : 4000 < s.length
 ·rw [if_pos h]; simp
 ·rw [if_neg h]
  cases hq : scanGo s.length 0 s with
  | error p => simp
  | ok l =>
   obtain ⟨h1, h2⟩ := scanGo_facts _ _ _ _ hq
   simp only
   refine ⟨by omega, fun t ht => ?_⟩
   obtain ⟨a1, a2, a3, a4⟩ := h2 t ht
   exact ⟨a1, a2, by omega, by omega⟩
end Go.Th
-- sum 166aa291451055b0

/- The walks of the reference's reader of expressions (typedholesref6): Starts, number, and what a failed reader gives. -/
namespace Go.Th
end Go.Th
namespace Go.Eng
open Go Go.RowKit
section
variable {P : Program} {E : Env} {n : Nat} {L : Slots} {g : Ghost} {own : List Res} {Q : Exit → Act → World → Prop} {ops : Array Oper} {rest : List Oper}
variable {d : Nat} {ty : TypeId} {pos : String} {after : Array Edge}
end
end Go.Eng
namespace Go.Proofs.YtpjehhnaojjanaaGreatDoor
open Go Go.Eng Go.Th Go.Proofs
set_option maxRecDepth 10000
set_option maxHeartbeats 4000000
attribute [local irreducible] wpList Code.wp Run bodyPost Go.Eng.Ends Exit.then Exit.inBlock Again Wq Kq
end Go.Proofs.YtpjehhnaojjanaaGreatDoor
-- sum c411e9912e6f70d5

/- The walks of the reference's reader of expressions: a failed reader. -/
namespace Go.Proofs.YtpjehhnaojjanaaGreatDoor
open Go Go.Eng Go.Th Go.Proofs
set_option maxRecDepth 10000
set_option maxHeartbeats 4000000
attribute [local irreducible] wpList Code.wp Run bodyPost Go.Eng.Ends Exit.then Exit.inBlock Again Wq Kq
abbrev noEv : Value := .agg #[.int .i64 0, .int .i64 0, str [], .int .i64 0, .slice none 0 0, .slice none 0 0, .int .i64 0, str [], .int .i64 0, .int .i64 0, .slice none 0 0]
theorem noE_V (g : Ghost) : ExV g noEv noE := ⟨_, rfl, ExAt.mk (e := noE) (slNil g 11) (by unfold ExsAt; rfl) (slNil g 14) (by unfold ArsAt; rfl) (TyAt.mk (t := noT) (slNil g 5) (tysNil g))⟩
end Go.Proofs.YtpjehhnaojjanaaGreatDoor
-- sum d32386a7d92d5f71

/- The walks of the reference's reader of expressions: atom. -/
namespace Go.Th
theorem kind3 {s : Bytes} (h : kindOf s = 3) : s.length ≤ 9 ∧ ∀ c ∈ s, digit c = true := by
 unfold kindOf at h
 split at h
 ·cases h
 split at h
 ·cases h
 split at h
 ·cases h
 split at h
 ·rename_i h3
  simp only [isInteger, Bool.and_eq_true, decide_eq_true_eq] at h3
  exact ⟨h3.1.1.2, fun c hc => List.all_eq_true.1 h3.2 c hc⟩
 split at h
 ·cases h
 ·cases h
end Go.Th
namespace Go.Proofs.YtpjehhnaojjanaaGreatDoor
open Go Go.Eng Go.Th Go.Proofs
set_option maxRecDepth 10000
set_option maxHeartbeats 4000000
attribute [local irreducible] wpList Code.wp Run bodyPost Go.Eng.Ends Exit.then Exit.inBlock Again Wq Kq
theorem isAt_word {l : List Tok} (h : KW l) {w : Bytes} (hw : kindOf w = 4) (i : Nat) : isAt l i w = wordAt l i w := by
 unfold isAt wordAt
 have : tokAt l i 5 w = false := by
  unfold tokAt
  cases hl : l[i]? with
  | none => rfl
  | some t =>
   simp only [Bool.and_eq_false_iff, decide_eq_false_iff_not]
   by_cases hk : t.kind = 5
   ·refine .inr fun ht => ?_
    have := h t (List.mem_of_getElem? hl)
    rw [ht, hw] at this
    omega
   ·exact .inl hk
 rw [this, Bool.false_or]
theorem text_good (l : List Tok) (k : Int) (i : Nat) : RS.text l k (.good i) = match l[i]? with | some t => if t.kind = k then t.text else [] | none => [] := rfl
theorem nameAt_yes {l : List Tok} {i : Nat} {k : Int} (h : kindAt l i k = true) : nameAt l i k = some (RS.text l k (.good i)) ∧ RS.word l k (.good i) = .good (i + 1) ∧ i < l.length := by
 have e : RS.word l k (.good i) = .good (i + 1) := by simp [RS.word, h]
 unfold kindAt at h
 rw [text_good]
 unfold nameAt
 cases hl : l[i]? with
 | none => rw [hl] at h; cases h
 | some t =>
  rw [hl] at h
  simp only [decide_eq_true_eq] at h
  simp only [h, if_true]
  exact ⟨trivial, e, (List.getElem?_eq_some_iff.1 hl).1⟩
theorem nameAt_no {l : List Tok} {i : Nat} {k : Int} (h : kindAt l i k = false) : nameAt l i k = none ∧ RS.word l k (.good i) = .bad i (failPos l i) ∧ RS.text l k (.good i) = [] := by
 have e : RS.word l k (.good i) = .bad i (failPos l i) := by simp [RS.word, h]
 unfold kindAt at h
 rw [text_good]
 unfold nameAt
 cases hl : l[i]? with
 | none => exact ⟨rfl, e, rfl⟩
 | some t =>
  rw [hl] at h
  simp only [decide_eq_false_iff_not] at h
  simp only [h, if_false]
  exact ⟨trivial, e, trivial⟩
theorem skip_yes {l : List Tok} {i : Nat} {w : Bytes} (h : isAt l i w = true) : RS.skip l w (.good i) = .good (i + 1) ∧ RS.need l w (.good i) = .good (i + 1) ∧ i < l.length := by
 refine ⟨by simp [RS.skip, h], by simp [RS.need, h], ?_⟩
 unfold isAt at h
 rcases Bool.or_eq_true_iff.1 h with h | h
 ·exact tokAt_lt h
 ·exact tokAt_lt h
theorem skip_no {l : List Tok} {i : Nat} {w : Bytes} (h : isAt l i w = false) : RS.skip l w (.good i) = .good i ∧ RS.need l w (.good i) = .bad i (failPos l i) := ⟨by simp [RS.skip, h], by simp [RS.need, h]⟩
theorem exsNil (g : Ghost) : ExsAt g [] [] := by unfold ExsAt; rfl
theorem arsNil (g : Ghost) : ArsAt g [] [] := by unfold ArsAt; rfl
theorem exs1 {g : Ghost} {a : Ex} {c : List Value} (h : ExAt g a c) : ExsAt g [a] c := by
 unfold ExsAt
 exact ⟨c, [], by simp, h, exsNil g⟩
theorem exs2 {g : Ghost} {a b : Ex} {c d : List Value} (h : ExAt g a c) (h' : ExAt g b d) : ExsAt g [a, b] (c ++ d) := by
 unfold ExsAt
 exact ⟨c, d, rfl, h, exs1 h'⟩
theorem ExV.form {g : Ghost} {v : Value} {e : Ex} (h : ExV g v e) : ∃ (a1 : Option Addr) (m1 c1 : Nat) (a2 : Option Addr) (m2 c2 : Nat) (a3 : Option Addr) (m3 c3 : Nat),
  v = .agg #[.int .i64 e.kind, .int .i64 e.pos, str e.name, .int .i64 e.num, .slice a1 m1 c1, .slice a2 m2 c2, .int .i64 e.ty.kind, str e.ty.name, .int .i64 e.ty.id, .int .i64 e.ty.home, .slice a3 m3 c3] ∧
  ExAt g e [.int .i64 e.kind, .int .i64 e.pos, str e.name, .int .i64 e.num, .slice a1 m1 c1, .slice a2 m2 c2, .int .i64 e.ty.kind, str e.ty.name, .int .i64 e.ty.id, .int .i64 e.ty.home, .slice a3 m3 c3] := by
 obtain ⟨cs, rfl, h⟩ := h
 obtain ⟨a1, m1, c1, a2, m2, c2, a3, m3, c3, xk, xa, rfl, _⟩ := h.form
 exact ⟨a1, m1, c1, a2, m2, c2, a3, m3, c3, rfl, h⟩
theorem leafE_V (g : Ghost) (k p : Int) (n : Bytes) (m : Int) : ExV g (.agg #[.int .i64 k, .int .i64 p, str n, .int .i64 m, .slice none 0 0, .slice none 0 0, .int .i64 0, str [], .int .i64 0, .int .i64 0, .slice none 0 0]) (leafE k p n m) :=
 ⟨_, rfl, ExAt.mk (e := leafE k p n m) (slNil g 11) (exsNil g) (slNil g 14) (arsNil g) (TyAt.mk (t := noT) (slNil g 5) (tysNil g))⟩
theorem kidsE_V (g : Ghost) (k p : Int) (n : Bytes) {v : Value} {ks : List Ex} {xs : List Value} (h1 : SlAt g 11 v ks.length xs) (h2 : ExsAt g ks xs) : ExV g (.agg #[.int .i64 k, .int .i64 p, str n, .int .i64 0, v, .slice none 0 0, .int .i64 0, str [], .int .i64 0, .int .i64 0, .slice none 0 0]) (kidsE k p n ks) :=
 ⟨_, rfl, ExAt.mk (e := kidsE k p n ks) h1 h2 (slNil g 14) (arsNil g) (TyAt.mk (t := noT) (slNil g 5) (tysNil g))⟩
theorem annE_V (g : Ghost) (p : Int) (t : Ty) {v sl : Value} {x : Ex} {xs : List Value} (h1 : SlAt g 11 v 1 xs) (h2 : ExAt g x xs) (h3 : TyAt g t (tyCells t sl)) : ExV g (.agg #[.int .i64 9, .int .i64 p, str [], .int .i64 0, v, .slice none 0 0, .int .i64 t.kind, str t.name, .int .i64 t.id, .int .i64 t.home, sl]) (annE p x t) :=
 ⟨_, rfl, ExAt.mk (e := annE p x t) h1 (exs1 h2) (slNil g 14) (arsNil g) h3⟩
end Go.Proofs.YtpjehhnaojjanaaGreatDoor
-- sum 74414eef30716fc0

/- Declarations, bindings and programs in memory. -/
namespace Go.Proofs.YtpjehhnaojjanaaGreatDoor
open Go Go.Eng Go.Th Go.Proofs
def CnAt (g : Ghost) (c : Cn) (cs : List Value) : Prop := ∃ sf xf, cs = [.int .i64 c.pos, str c.name, sf] ∧ SlAt g 5 sf c.fields.length xf ∧ TysAt g c.fields xf
def DaAt (g : Ghost) (d : Da) (cs : List Value) : Prop := ∃ sp sc xc, cs = [.int .i64 d.pos, str d.name, sp, sc] ∧ SlAt g 1 sp d.params.length (d.params.map str) ∧ SlAt g 3 sc d.cons.length xc ∧ AllAt (CnAt g) d.cons xc
def BiAt (g : Ghost) (x : Bi) (cs : List Value) : Prop := ∃ tc ec, cs = [.int .i64 x.pos, .bool x.isRec, str x.name, .bool x.hasSig] ++ (tc ++ ec) ∧ TyAt g x.sig tc ∧ ExAt g x.body ec
def PgAt (g : Ghost) (p : Pg) (cs : List Value) : Prop := ∃ sd xd sb xb, cs = [sd, sb] ∧ SlAt g 4 sd p.datas.length xd ∧ AllAt (DaAt g) p.datas xd ∧ SlAt g 20 sb p.binds.length xb ∧ AllAt (BiAt g) p.binds xb
theorem CnAt.mono {g g' : Ghost} (hle : Ghost.le g g') {c : Cn} {cs : List Value} (h : CnAt g c cs) : CnAt g' c cs := by
 obtain ⟨sf, xf, h1, h2, h3⟩ := h
 exact ⟨sf, xf, h1, h2.mono hle, h3.mono hle⟩
theorem cns_mono {g g' : Ghost} (hle : Ghost.le g g') {l : List Cn} {xs : List Value} (h : AllAt (CnAt g) l xs) : AllAt (CnAt g') l xs := AllAt.mono (fun _ _ h => h.mono hle) h
theorem DaAt.mono {g g' : Ghost} (hle : Ghost.le g g') {d : Da} {cs : List Value} (h : DaAt g d cs) : DaAt g' d cs := by
 obtain ⟨sp, sc, xc, h1, h2, h3, h4⟩ := h
 exact ⟨sp, sc, xc, h1, h2.mono hle, h3.mono hle, cns_mono hle h4⟩
theorem das_mono {g g' : Ghost} (hle : Ghost.le g g') {l : List Da} {xs : List Value} (h : AllAt (DaAt g) l xs) : AllAt (DaAt g') l xs := AllAt.mono (fun _ _ h => h.mono hle) h
theorem BiAt.mono {g g' : Ghost} (hle : Ghost.le g g') {d : Bi} {cs : List Value} (h : BiAt g d cs) : BiAt g' d cs := by
 obtain ⟨tc, ec, h1, h2, h3⟩ := h
 exact ⟨tc, ec, h1, h2.mono hle, h3.mono hle⟩
theorem bis_mono {g g' : Ghost} (hle : Ghost.le g g') {l : List Bi} {xs : List Value} (h : AllAt (BiAt g) l xs) : AllAt (BiAt g') l xs := AllAt.mono (fun _ _ h => h.mono hle) h
theorem PgAt.mono {g g' : Ghost} (hle : Ghost.le g g') {p : Pg} {cs : List Value} (h : PgAt g p cs) : PgAt g' p cs := by
 obtain ⟨sd, xd, sb, xb, h1, h2, h3, h4, h5⟩ := h
 exact ⟨sd, xd, sb, xb, h1, h2.mono hle, das_mono hle h3, h4.mono hle, bis_mono hle h5⟩
theorem CnAt.one {g : Ghost} {c : Cn} {cs : List Value} (h : CnAt g c cs) : cs.length = 3 ∧ ∀ u ∈ cs, oneC u = true := by
 obtain ⟨sf, xf, rfl, h2, h3⟩ := h
 obtain ⟨a, m, k, rfl⟩ := SlAt.form h2
 exact ⟨rfl, by simp [oneC]⟩
theorem DaAt.one {g : Ghost} {c : Da} {cs : List Value} (h : DaAt g c cs) : cs.length = 4 ∧ ∀ u ∈ cs, oneC u = true := by
 obtain ⟨sp, sc, xc, rfl, h2, h3, h4⟩ := h
 obtain ⟨a, m, k, rfl⟩ := SlAt.form h2
 obtain ⟨a', m', k', rfl⟩ := SlAt.form h3
 exact ⟨rfl, by simp [oneC]⟩
theorem BiAt.one {g : Ghost} {c : Bi} {cs : List Value} (h : BiAt g c cs) : cs.length = 20 ∧ ∀ u ∈ cs, oneC u = true := by
 obtain ⟨tc, ec, rfl, h2, h3⟩ := h
 have h4 := h2.one
 have h5 := h3.one
 refine ⟨by simp [h4.1, h5.1], fun u hu => ?_⟩
 rcases List.mem_append.1 hu with hu | hu
 ·simp only [List.mem_cons, List.not_mem_nil, or_false] at hu
  rcases hu with rfl | rfl | rfl | rfl <;> rfl
 ·rcases List.mem_append.1 hu with hu | hu
  ·exact h4.2 u hu
  ·exact h5.2 u hu
def DaV (g : Ghost) (v : Value) (d : Da) : Prop := ∃ cs, v = .agg cs.toArray ∧ DaAt g d cs
def BiV (g : Ghost) (v : Value) (x : Bi) : Prop := ∃ cs, v = .agg cs.toArray ∧ BiAt g x cs
def PgV (g : Ghost) (v : Value) (x : Pg) : Prop := ∃ cs, v = .agg cs.toArray ∧ PgAt g x cs
theorem DaAt.form {g : Ghost} {d : Da} {cs : List Value} (h : DaAt g d cs) : ∃ (a1 : Option Addr) (c1 : Nat) (a2 : Option Addr) (c2 : Nat) (xc : List Value), cs = [.int .i64 d.pos, str d.name, .slice a1 d.params.length c1, .slice a2 d.cons.length c2] ∧
  SlAt g 1 (.slice a1 d.params.length c1) d.params.length (d.params.map str) ∧ SlAt g 3 (.slice a2 d.cons.length c2) d.cons.length xc ∧ AllAt (CnAt g) d.cons xc := by
 obtain ⟨sp, sc, xc, rfl, h2, h3, h4⟩ := h
 have f : ∀ {size n : Nat} {v : Value} {xs : List Value}, SlAt g size v n xs → ∃ a c, v = .slice a n c := by
  intro size n v xs h
  rcases h.2 with ⟨⟨a, c, rfl⟩, h0⟩ | ⟨b, off, cap, rfl, _⟩
  ·exact ⟨_, _, by rw [h0]⟩
  ·exact ⟨_, _, rfl⟩
 obtain ⟨a1, c1, rfl⟩ := f h2
 obtain ⟨a2, c2, rfl⟩ := f h3
 exact ⟨a1, c1, a2, c2, xc, rfl, h2, h3, h4⟩
end Go.Proofs.YtpjehhnaojjanaaGreatDoor
-- sum e3d406f7f7374c19

/- The walks of the reference's reader of expressions: cases. -/
namespace Go.Proofs.YtpjehhnaojjanaaGreatDoor
open Go Go.Eng Go.Th Go.Proofs
set_option maxRecDepth 10000
set_option maxHeartbeats 4000000
attribute [local irreducible] wpList Code.wp Run bodyPost Go.Eng.Ends Exit.then Exit.inBlock Again Wq Kq
theorem RS.word_ok {l : List Tok} {k : Int} : ∀ {s : RS}, s.ok l → (s.word l k).ok l
 | .good i, h => by
  cases hk : kindAt l i k with
  | true => obtain ⟨_, e, hlt⟩ := nameAt_yes hk; rw [e]; exact hlt
  | false => rw [(nameAt_no hk).2.1]; exact h
 | .bad _ _, h => h
theorem RS.need_ok {l : List Tok} {w : Bytes} : ∀ {s : RS}, s.ok l → (s.need l w).ok l
 | .good i, h => by
  cases hk : isAt l i w with
  | true => obtain ⟨_, e, hlt⟩ := skip_yes hk; rw [e]; exact hlt
  | false => rw [(skip_no hk).2]; exact h
 | .bad _ _, h => h
def VarsR (l : List Tok) : RS → RS → List Bytes → Prop
 | .bad j p, s, vs => s = .bad j p ∧ vs = []
 | .good j, s, vs => s = .good (j + vs.length) ∧ j + vs.length ≤ l.length ∧ lowers (l.drop j) = vs ++ lowers (l.drop (j + vs.length))
theorem VarsR.start {l : List Tok} : ∀ {s : RS}, s.ok l → VarsR l s s []
 | .bad _ _, _ => ⟨rfl, rfl⟩
 | .good _, h => ⟨rfl, h, rfl⟩
theorem lowers_step {l : List Tok} {j : Nat} (h : kindAt l j 1 = true) : lowers (l.drop j) = RS.text l 1 (.good j) :: lowers (l.drop (j + 1)) := by
 obtain ⟨_, _, hlt⟩ := nameAt_yes h
 rw [kindAt_lt hlt] at h
 rw [List.drop_eq_getElem_cons hlt, text_good, toks_some hlt]
 simp only [decide_eq_true_eq] at h
 simp [lowers, h]
theorem lowers_stop {l : List Tok} {j : Nat} (h : kindAt l j 1 = false) : lowers (l.drop j) = [] := by
 by_cases hlt : j < l.length
 ·rw [kindAt_lt hlt] at h
  rw [List.drop_eq_getElem_cons hlt]
  simp only [decide_eq_false_iff_not] at h
  simp [lowers, h]
 ·rw [List.drop_eq_nil_of_le (by omega)]; rfl
theorem VarsR.next {l : List Tok} {s0 s : RS} {vs : List Bytes} (h : VarsR l s0 s vs) (hk : s.kindIs l 1 = true) : VarsR l s0 (s.word l 1) (vs ++ [s.text l 1]) := by
 cases s0 with
 | bad j p => obtain ⟨rfl, rfl⟩ := h; cases hk
 | good j =>
  obtain ⟨rfl, h2, h3⟩ := h
  have hk' : kindAt l (j + vs.length) 1 = true := hk
  obtain ⟨_, e, hlt⟩ := nameAt_yes hk'
  rw [e]
  refine ⟨by rw [List.length_append]; simp; omega, by rw [List.length_append]; simp; omega, ?_⟩
  rw [h3, lowers_step hk']
  simp [Nat.add_assoc]
theorem VarsR.ok {l : List Tok} {s0 s : RS} {vs : List Bytes} (h0 : s0.ok l) (h : VarsR l s0 s vs) : s.ok l := by
 cases s0 with
 | bad j p => obtain ⟨rfl, rfl⟩ := h; exact h0
 | good j => obtain ⟨rfl, h2, h3⟩ := h; exact h2
theorem VarsR.len {l : List Tok} {s0 s : RS} {vs : List Bytes} (h0 : s0.ok l) (h : VarsR l s0 s vs) : vs.length ≤ l.length := by
 cases s0 with
 | bad j p => obtain ⟨rfl, rfl⟩ := h; simp
 | good j => obtain ⟨rfl, h2, h3⟩ := h; omega
def caseRes (l : List Tok) (pos : Int) (i : Nat) : ER := match eread l .expr i with
 | .error p => .error p
 | .ok (e, j) => if wordAt l j ofB then eread l (.arms pos e []) (j + 1) else .error (failPos l j)
theorem caseRes_lt {l : List Tok} {pos : Int} {i : Nat} {e : Ex} {j : Nat} (h : caseRes l pos i = .ok (e, j)) : i < j := by
 unfold caseRes at h
 cases hq : eread l .expr i with
 | error p => rw [hq] at h; cases h
 | ok q =>
  obtain ⟨x, k⟩ := q
  rw [hq] at h
  simp only at h
  have h1 := eread_lt rfl hq
  split at h
  ·have h2 := eread_le h; omega
  ·cases h
def noEc : List Value := [.int .i64 0, .int .i64 0, str [], .int .i64 0, .slice none 0 0, .slice none 0 0, .int .i64 0, str [], .int .i64 0, .int .i64 0, .slice none 0 0]
def arCells (p : Int) (c : Bytes) (sv : Value) (bc : List Value) : List Value := .int .i64 p :: str c :: sv :: bc
def caseCells (p : Int) (ks sv : Value) : List Value := [.int .i64 8, .int .i64 p, str [], .int .i64 0, ks, sv, .int .i64 0, str [], .int .i64 0, .int .i64 0, .slice none 0 0]
theorem caseE_V {g : Ghost} {pos : Int} {x0 : Ex} {c0 : List Value} {acc : List Ar} {ks sv : Value} {xa : List Value} (h1 : SlAt g 11 ks 1 c0) (h2 : ExAt g x0 c0) (h3 : SlAt g 14 sv acc.length xa) (h4 : ArsAt g acc xa) : ExAt g (caseE pos x0 acc) (caseCells pos ks sv) :=
 ExAt.mk (e := caseE pos x0 acc) h1 (exs1 h2) h3 h4 (TyAt.mk (t := noT) (slNil g 5) (tysNil g))
def BodyR (l : List Tok) (k : Nat) (x : Ex) : RS → Prop
 | .good m => eread l .expr k = .ok (x, m) ∧ k < m ∧ m ≤ l.length
 | .bad j p => eread l .expr k = .error p ∧ j ≤ l.length
theorem BodyR.ok {l : List Tok} {k : Nat} {x : Ex} {s : RS} (h : BodyR l k x s) : s.ok l := by
 cases s with
 | good m => exact h.2.2
 | bad j p => exact h.2
def RS.isBad : RS → Bool
 | .good _ => false
 | .bad _ _ => true
def RS.left (l : List Tok) : RS → Nat
 | .good j => l.length - j + 1
 | .bad _ _ => 0
end Go.Proofs.YtpjehhnaojjanaaGreatDoor
-- sum 6c0d1a3dee0621d5

/- The walks of the reference's reader of programs (typedholesref7): declaration. -/
namespace Go.Proofs.YtpjehhnaojjanaaGreatDoor
open Go Go.Eng Go.Th Go.Proofs
set_option maxRecDepth 10000
set_option maxHeartbeats 4000000
attribute [local irreducible] wpList Code.wp Run bodyPost Go.Eng.Ends Exit.then Exit.inBlock Again Wq Kq
def ConsS (l : List Tok) (R : Except Int (List Cn × Nat)) (acc : List Cn) : RS → Prop
 | .good j => j ≤ l.length ∧ acc.length ≤ j ∧ R = consR l acc j
 | .bad j p => j ≤ l.length ∧ R = .error p
def ConsE (l : List Tok) (R : Except Int (List Cn × Nat)) (acc : List Cn) : RS → Prop
 | .good m => m ≤ l.length ∧ R = if markAt l m [59] then .ok (acc, m + 1) else .error (failPos l m)
 | .bad j p => j ≤ l.length ∧ R = .error p
def consStep (l : List Tok) (acc : List Cn) (pos : Int) (c : Bytes) (t : Ty) (k : Nat) : Except Int (List Cn × Nat) :=
 if markAt l k [124] then consR l (acc ++ [⟨pos, c, t.args⟩]) (k + 1) else if markAt l k [59] then .ok (acc ++ [⟨pos, c, t.args⟩], k + 1) else .error (failPos l k)
def FldS (l : List Tok) (R : Except Int (List Cn × Nat)) (acc : List Cn) (pos : Int) (c : Bytes) (n0 : Nat) (fs : List Ty) : RS → Prop
 | .good k => k ≤ l.length ∧ n0 + fs.length < k ∧ R = match tread l (.args c fs) k with
  | .error p => .error p
  | .ok (t, k') => consStep l acc pos c t k'
 | .bad j p => j ≤ l.length ∧ R = .error p
theorem decl_head {l : List Tok} (hkw : KW l) {i : Nat} (hi : i ≤ l.length) {s1 s3 : RS} {vs : List Bytes} (hs1 : s1 = RS.need l dataB (.good i)) (hv : VarsR l (s1.word l 2) s3 vs) (hk : s3.kindIs l 1 = false) :
  match s3.need l [61] with
  | .bad j p => j ≤ l.length ∧ declR l i = .error p
  | .good k => k ≤ l.length ∧ i < k ∧ declR l i = match consR l [] k with
   | .error p => .error p
   | .ok (cs, m) => .ok (⟨posOf l i, s1.text l 2, vs, cs⟩, m) := by
 have hp : isAt l i dataB = wordAt l i dataB := isAt_word hkw (by decide) i
 unfold declR
 cases hw : wordAt l i dataB with
 | false =>
  rw [(skip_no (hp.trans hw)).2] at hs1
  subst hs1
  obtain ⟨rfl, rfl⟩ := hv
  exact ⟨hi, rfl⟩
 | true =>
  have hlt := tokAt_lt hw
  rw [(skip_yes (hp.trans hw)).2.1] at hs1
  subst hs1
  simp only [if_true]
  cases h2 : kindAt l (i + 1) 2 with
  | false =>
   obtain ⟨e1, e2, e3⟩ := nameAt_no h2
   rw [e2] at hv
   obtain ⟨rfl, rfl⟩ := hv
   rw [e1]
   exact ⟨hlt, rfl⟩
  | true =>
   obtain ⟨e1, e2, hlt2⟩ := nameAt_yes h2
   rw [e2] at hv
   obtain ⟨rfl, hv2, hv3⟩ := hv
   have hk' : kindAt l (i + 1 + 1 + vs.length) 1 = false := hk
   rw [lowers_stop hk', List.append_nil] at hv3
   rw [e1]
   simp only
   rw [show i + 2 = i + 1 + 1 from rfl, hv3]
   have hq : isAt l (i + 1 + 1 + vs.length) [61] = markAt l (i + 1 + 1 + vs.length) [61] := isAt_mark hkw (by decide) _
   cases h3 : markAt l (i + 1 + 1 + vs.length) [61] with
   | false =>
    rw [(skip_no (hq.trans h3)).2]
    exact ⟨hv2, rfl⟩
   | true =>
    have hlt3 := tokAt_lt h3
    rw [(skip_yes (hq.trans h3)).2.1]
    exact ⟨hlt3, by omega, rfl⟩
theorem fld_start {l : List Tok} {R : Except Int (List Cn × Nat)} {acc : List Cn} {j : Nat} (h : ConsS l R acc (.good j)) : FldS l R acc (posOf l j) (RS.text l 2 (.good j)) acc.length [] (RS.word l 2 (.good j)) := by
 obtain ⟨h1, h2, h3⟩ := h
 rw [consR_eq] at h3
 cases hk : kindAt l j 2 with
 | false =>
  obtain ⟨e1, e2, e3⟩ := nameAt_no hk
  rw [e2]
  rw [e1] at h3
  exact ⟨h1, h3⟩
 | true =>
  obtain ⟨e1, e2, hlt⟩ := nameAt_yes hk
  rw [e2]
  rw [e1] at h3
  exact ⟨hlt, by simp; omega, h3⟩
theorem cns_snoc {g : Ghost} {l : List Cn} {xs : List Value} {p : Int} {c : Bytes} {fs : List Ty} {sf : Value} {xf : List Value} (h : AllAt (CnAt g) l xs) (h1 : SlAt g 5 sf fs.length xf) (h2 : TysAt g fs xf) :
  AllAt (CnAt g) (l ++ [⟨p, c, fs⟩]) (xs ++ [.int .i64 p, str c, sf]) := AllAt.snoc ⟨sf, xf, rfl, h1, h2⟩ h
end Go.Proofs.YtpjehhnaojjanaaGreatDoor
-- sum 0b0bae712910a322

/- The walks of the reference's reader of expressions: Read, and the joint induction. -/
namespace Go.Proofs.YtpjehhnaojjanaaGreatDoor
open Go Go.Eng Go.Th Go.Proofs
set_option maxRecDepth 10000
set_option maxHeartbeats 4000000
attribute [local irreducible] wpList Code.wp Run bodyPost Go.Eng.Ends Exit.then Exit.inBlock Again Wq Kq
def exCells (e : Ex) (s1 s2 s3 : Value) : List Value := [.int .i64 e.kind, .int .i64 e.pos, str e.name, .int .i64 e.num, s1, s2, .int .i64 e.ty.kind, str e.ty.name, .int .i64 e.ty.id, .int .i64 e.ty.home, s3]
theorem startsE_at {l : List Tok} {j : Nat} (h : j < l.length) : startsEAt l j = startsE l[j] := by unfold startsEAt; rw [toks_some h]
end Go.Proofs.YtpjehhnaojjanaaGreatDoor
-- sum 0cfb8fc4ea137ac4

/- The plain head of a binding, and the walk of the reference's binding (typedholesref7). -/
namespace Go.Proofs.YtpjehhnaojjanaaGreatDoor
open Go Go.Eng Go.Th Go.Proofs
set_option maxRecDepth 10000
set_option maxHeartbeats 4000000
attribute [local irreducible] wpList Code.wp Run bodyPost Go.Eng.Ends Exit.then Exit.inBlock Again Wq Kq
def tailR (l : List Tok) (pos : Int) (r : Bool) (n : Bytes) (k : Nat) : Except Int (Bi × Nat) :=
 if markAt l k [58] then match tread l .whole (k + 1) with
  | .error p => .error p
  | .ok (t, k') => bodyR l (fun e => ⟨pos, r, n, true, t, e⟩) k'
 else bodyR l (fun e => ⟨pos, r, n, false, noT, e⟩) k
theorem sigR_eq (l : List Tok) (pos : Int) (r : Bool) (j : Nat) : sigR l pos r j = match nameAt l j 1 with
 | none => .error (failPos l j)
 | some n => tailR l pos r n (j + 1) := rfl
def HeadS (l : List Tok) (i : Nat) (R : Except Int (Bi × Nat)) (pos : Int) (r : Bool) (n : Bytes) : RS → Prop
 | .good k => k ≤ l.length ∧ i < k ∧ R = tailR l pos r n k
 | .bad j p => j ≤ l.length ∧ R = .error p
theorem bind_head {l : List Tok} (hkw : KW l) {i : Nat} (hi : i ≤ l.length) {s1 s2 s3 : RS} (h1 : s1 = RS.need l letB (.good i)) (h2 : s2 = s1.skip l recB) (h3 : s3 = s2.word l 1) :
  HeadS l i (bindR l i) (posOf l i) (s1.isIs l recB) (s2.text l 1) s3 := by
 have hp : isAt l i letB = wordAt l i letB := isAt_word hkw (by decide) i
 have hr : isAt l (i + 1) recB = wordAt l (i + 1) recB := isAt_word hkw (by decide) (i + 1)
 unfold bindR
 cases hw : wordAt l i letB with
 | false =>
  rw [(skip_no (hp.trans hw)).2] at h1
  subst h1; subst h2; subst h3
  exact ⟨hi, rfl⟩
 | true =>
  have hlt := tokAt_lt hw
  rw [(skip_yes (hp.trans hw)).2.1] at h1
  subst h1
  have e0 : RS.isIs l recB (.good (i + 1)) = wordAt l (i + 1) recB := hr
  rw [e0]
  cases hw2 : wordAt l (i + 1) recB with
  | false =>
   rw [(skip_no (hr.trans hw2)).1] at h2
   subst h2
   simp only [if_true, Bool.false_eq_true, if_false, sigR_eq]
   cases hk : kindAt l (i + 1) 1 with
   | false =>
    obtain ⟨e1, e2, e3⟩ := nameAt_no hk
    rw [e2] at h3
    subst h3
    rw [e1]
    exact ⟨hlt, rfl⟩
   | true =>
    obtain ⟨e1, e2, hlt2⟩ := nameAt_yes hk
    rw [e2] at h3
    subst h3
    rw [e1]
    exact ⟨hlt2, by omega, rfl⟩
  | true =>
   have hlt' := tokAt_lt hw2
   rw [(skip_yes (hr.trans hw2)).1] at h2
   subst h2
   simp only [if_true, sigR_eq]
   cases hk : kindAt l (i + 1 + 1) 1 with
   | false =>
    obtain ⟨e1, e2, e3⟩ := nameAt_no hk
    rw [e2] at h3
    subst h3
    have e1' : nameAt l (i + 2) 1 = none := e1
    rw [e1']
    exact ⟨hlt', rfl⟩
   | true =>
    obtain ⟨e1, e2, hlt2⟩ := nameAt_yes hk
    rw [e2] at h3
    subst h3
    have e1' : nameAt l (i + 2) 1 = _ := e1
    rw [e1']
    exact ⟨hlt2, by omega, rfl⟩
def BodS (l : List Tok) (i : Nat) (R : Except Int (Bi × Nat)) (pos : Int) (r : Bool) (n : Bytes) (hs : Bool) (t : Ty) : RS → Prop
 | .good k => k ≤ l.length ∧ i < k ∧ R = bodyR l (fun e => ⟨pos, r, n, hs, t, e⟩) k
 | .bad j p => j ≤ l.length ∧ R = .error p
def SemS (l : List Tok) (i : Nat) (R : Except Int (Bi × Nat)) (x : Bi) : RS → Prop
 | .good k => k ≤ l.length ∧ i < k ∧ R = if markAt l k [59] then .ok (x, k + 1) else .error (failPos l k)
 | .bad j p => j ≤ l.length ∧ R = .error p
def ExpS (l : List Tok) (i : Nat) (R : Except Int (Bi × Nat)) (pos : Int) (r : Bool) (n : Bytes) (hs : Bool) (t : Ty) : RS → Prop
 | .good k => k ≤ l.length ∧ i < k ∧ R = match eread l .expr k with
   | .error p => .error p
   | .ok (e, m) => if markAt l m [59] then .ok (⟨pos, r, n, hs, t, e⟩, m + 1) else .error (failPos l m)
 | .bad j p => j ≤ l.length ∧ R = .error p
def FinB (l : List Tok) (i : Nat) (x : Bi) (s : RS) : Except Int (Bi × Nat) → Prop
 | .ok (y, j) => y = x ∧ s = .good j ∧ i < j ∧ j ≤ l.length
 | .error p => ∃ j, j ≤ l.length ∧ s = .bad j p
theorem BodS.eq {l : List Tok} (hkw : KW l) {i : Nat} {R : Except Int (Bi × Nat)} {pos : Int} {r : Bool} {n : Bytes} {hs : Bool} {t : Ty} {s : RS} (h : BodS l i R pos r n hs t s) :
  ExpS l i R pos r n hs t (s.need l [61]) := by
 cases s with
 | bad j p => exact h
 | good k =>
  obtain ⟨h1, h2, h3⟩ := h
  have hp : isAt l k [61] = markAt l k [61] := isAt_mark hkw (by decide) k
  unfold bodyR at h3
  cases hw : markAt l k [61] with
  | false =>
   rw [(skip_no (hp.trans hw)).2]
   rw [hw] at h3
   exact ⟨h1, h3⟩
  | true =>
   rw [(skip_yes (hp.trans hw)).2.1]
   rw [hw] at h3
   exact ⟨tokAt_lt hw, by omega, h3⟩
theorem SemS.fin {l : List Tok} (hkw : KW l) {i : Nat} {R : Except Int (Bi × Nat)} {x : Bi} {s : RS} (h : SemS l i R x s) :
  FinB l i x (s.need l [59]) R := by
 cases s with
 | bad j p =>
  obtain ⟨h1, h2⟩ := h
  subst h2
  exact ⟨j, h1, rfl⟩
 | good k =>
  obtain ⟨h1, h2, h3⟩ := h
  have hp : isAt l k [59] = markAt l k [59] := isAt_mark hkw (by decide) k
  cases hw : markAt l k [59] with
  | false =>
   rw [hw] at h3
   simp only [Bool.false_eq_true, if_false] at h3
   subst h3
   exact ⟨k, h1, (skip_no (hp.trans hw)).2⟩
  | true =>
   rw [hw] at h3
   simp only [if_true] at h3
   subst h3
   exact ⟨rfl, (skip_yes (hp.trans hw)).2.1, by omega, tokAt_lt hw⟩
def biCells (pos : Int) (r : Bool) (n : Bytes) (hs : Bool) (tc ec : List Value) : List Value := [.int .i64 pos, .bool r, str n, .bool hs] ++ (tc ++ ec)
def noTc : List Value := [.int .i64 0, str [], .int .i64 0, .int .i64 0, .slice none 0 0]
theorem noT_at (g : Ghost) : TyAt g noT noTc := TyAt.mk (t := noT) (slNil g 5) (tysNil g)
theorem noE_at (g : Ghost) : ExAt g noE noEc := ExAt.mk (e := noE) (slNil g 11) (exsNil g) (slNil g 14) (arsNil g) (TyAt.mk (t := noT) (slNil g 5) (tysNil g))
end Go.Proofs.YtpjehhnaojjanaaGreatDoor
-- sum 3f75204c35306cc4

/- How deep a type is: the walk of typedholesref3.Depth. -/
namespace Go.Th
mutual
def depthT : Ty → Nat
 | .mk _ _ _ _ ta => depthTs ta
def depthTs : List Ty → Nat
 | [] => 0
 | a :: r => max (1 + depthT a) (depthTs r)
end
theorem depthTs_app : ∀ (x y : List Ty), depthTs (x ++ y) = max (depthTs x) (depthTs y)
 | [], y => by simp [depthTs]
 | a :: x, y => by simp only [List.cons_append, depthTs, depthTs_app x y]; omega
theorem depthT_eq (t : Ty) : depthT t = depthTs t.args := by cases t; simp only [depthT, Ty.args]
theorem depthTs_mem : ∀ {l : List Ty} {a : Ty}, a ∈ l → 1 + depthT a ≤ depthTs l
 | b :: r, a, h => by
  simp only [depthTs]
  rcases List.mem_cons.1 h with rfl | h
  ·omega
  ·have := depthTs_mem h; omega
theorem depthTs_succ {l : List Ty} {i : Nat} (h : i < l.length) : depthTs (l.take (i + 1)) = max (depthTs (l.take i)) (1 + depthT l[i]) := by
 rw [List.take_succ_eq_append_getElem h, depthTs_app]
 simp [depthTs]
end Go.Th
namespace Go.Proofs.YtpjehhnaojjanaaGreatDoor
open Go Go.Eng Go.Th Go.Proofs
set_option maxRecDepth 10000
set_option maxHeartbeats 4000000
attribute [local irreducible] wpList Code.wp Run bodyPost Go.Eng.Ends Exit.then Exit.inBlock Again Wq Kq
theorem Depth3_aux (g : Ghost) : ∀ (N : Nat) (t : Ty) (v : Value), SizeOf.sizeOf t < N → depthT t ≤ 1000000 → TyV g v t → Pure Tryz.prog 56 [v] g (.int .i64 (depthT t))
 | 0, _, _, h, _, _ => by omega
 | N + 1, t, v, h, hd, hv => by
  have ih := Depth3_aux g N
  obtain ⟨sl, rfl, h1⟩ := hv
  obtain ⟨xs, hs1, ht1⟩ := h1.args
  obtain ⟨a, c, rfl⟩ := slForm2 hs1
  have hle := hs1.le
  rw [depthT_eq] at hd ⊢
  refine spec_of_run Tryz.func56 rfl Tryz.ntmps56 rfl fun E hE => ?_
  refine r_sr ?_
  refine r_box rfl rfl rfl (fun b1 => ?_)
  refine r_ev rfl rfl <| r_nn <| r_sr <| r_ev rfl rfl <| r_nn <| r_seq <| r_sr <| r_ev rfl rfl <| r_nn <| r_block ?_
  refine r_loop (ι := Nat) (fun i => [(1, ptr b1 0), (3, .int .i64 (depthTs (t.args.take i))), (4, .int .i64 i)]) (fun _ => g) (fun _ => [.blk b1 49 (tyCells t (.slice a t.args.length c))]) (fun i => i ≤ t.args.length) (fun i => t.args.length - i) 0 (Nat.zero_le _) ⟨rfl, rfl, rfl, trivial⟩ rfl rfl ?_
  intro i hi
  refine r_seq <| r_sr <| r_ev rfl rfl <| r_fieldAddr rfl rfl <| r_loadB1 0 rfl rfl rfl rfl <| r_len_sl rfl rfl <| r_ev rfl rfl <| r_nn ?_
  refine r_cond rfl (fun hlt => ?_) (fun hlt => ?_)
  ·have hlt' : i < t.args.length := by omega
   obtain ⟨b, off, cap, hsl, hx⟩ := hs1.held hlt'
   cases hsl
   obtain ⟨sl', h2, hr⟩ := ht1.rd (own := [.blk b1 49 (tyCells t (.slice (some ⟨b, off, none⟩) t.args.length c))]) hx hlt'
   have hm := depthTs_mem (List.getElem_mem hlt')
   have hsz : SizeOf.sizeOf t.args[i] < N := by
    have := List.sizeOf_lt_of_mem (List.getElem_mem hlt')
    cases t with
    | mk k n i hh ta => simp only [Ty.args] at this ⊢; simp at h; omega
   have hsu := depthTs_succ hlt'
   have hdi : depthTs (t.args.take i) ≤ depthTs t.args := by
    have := depthTs_app (t.args.take i) (t.args.drop i)
    rw [List.take_append_drop] at this
    omega
   refine r_skip <| r_then_normal <| r_seq <| r_block <| r_region <| r_ev rfl rfl <| r_fieldAddr rfl rfl <| r_loadB1 0 rfl rfl rfl rfl <| r_ev rfl rfl <| r_indexAddr rfl rfl rfl rfl (by omega) ?_
   refine r_load rfl rfl hr rfl ?_
   refine r_callP rfl rfl (ih t.args[i] _ hsz (by omega) ⟨sl', rfl, h2⟩) ?_
   refine r_add rfl rfl rfl (by omega) ?_; refine r_max rfl rfl rfl <| r_ev rfl rfl <| r_nil <| r_in_normal <| r_then_normal <| r_region <| r_ev rfl rfl <| r_add rfl rfl rfl (by omega) ?_; refine r_ev rfl rfl <| r_nn ?_
   refine r_again (i + 1) (by omega) (by omega) ⟨rfl, ?_, rfl, trivial⟩ rfl rfl
   rw [hsu]
   show _ = some (Value.int .i64 ((max (depthTs (t.args.take i)) (1 + depthT t.args[i]) : Nat) : Int))
   refine lkInt rfl ?_
   omega
  ·have hil : i = t.args.length := by omega
   subst hil
   refine r_exit <| r_then_exit <| r_then_exit <| r_in_exit <| r_then_normal <| r_sr <| r_ev rfl rfl <| r_ev rfl rfl <| r_nn <| r_retc ?_
   exact r_ret1 [] rfl rfl (by simp) ⟨by rw [List.take_length], rfl, rfl⟩
theorem Depth3_spec (g : Ghost) (t : Ty) (v : Value) (hd : depthT t ≤ 1000000) (hv : TyV g v t) : Pure Tryz.prog 56 [v] g (.int .i64 (depthT t)) := Depth3_aux g _ t v (Nat.lt_succ_self _) hd hv
end Go.Proofs.YtpjehhnaojjanaaGreatDoor
-- sum 9a79a47a94535d16

/- The walking engine, tenth part: calls through interfaces, type assertions, stand-ins that read, make or write memory (what errors.As needs). -/
namespace Go.Eng
open Go Go.RowKit
section
variable {P : Program} {E : Env} {n : Nat} {L : Slots} {g : Ghost} {own : List Res} {Q : Exit → Act → World → Prop} {ops : Array Oper} {rest : List Oper}
variable {d : Nat} {ty : TypeId} {pos : String} {after : Array Edge}
theorem args_run {a : Act} (hF : Fr n L a) {xs : Array Operand} {vals : List Value} (hx : evs L xs.toList = some vals) : (xs.map a.eval) = vals.toArray := by
 have := hF.evals hx
 apply Array.ext'
 simpa using this
theorem val_extI {f : FuncId} {e : Array Value → Sem Value} [hE : Ext P f e] {xs : Array Operand} {ts : Array TypeId} {vals : List Value} {v : Value} (hx : evs L xs.toList = some vals) (he : ∀ w, Inv E g own w → (e vals.toArray).run P w = .ok v w) :
  Val P E n L g own ty (.call ⟨.value (.func f), xs, ts⟩) v := fun a w dst pos after hF hI => by
 obtain ⟨fn, h1, h2, h3, h4, h5⟩ := hE.h
 have hargs := args_run hF hx
 have hc := run_callFunc_extern h1 h2 h3 h4 h5 vals.toArray w
 rw [he w hI] at hc
 simpa [execOp, resolve, Act.eval, Deferred.ofValue, invoke, hargs] using hc
theorem r_extA {f : FuncId} {e : Array Value → Sem Value} [hE : Ext P f e] {xs : Array Operand} {ts : Array TypeId} {vals : List Value} {mk : Nat → Value} {T : TypeId} {cs : List Value} (hd : Nat.blt d n = true) (hx : evs L xs.toList = some vals)
  (he : ∀ w, (e vals.toArray).run P w = .ok (mk w.heap.size) (w.alloc (.cells cs.toArray T))) (k : ∀ b, Run E n ((d, mk b) :: L) g (.blk b T cs :: own) (wpList P ops Q rest)) :
  Run E n L g own (wpList P ops Q (⟨some d, .call ⟨.value (.func f), xs, ts⟩, ty, pos, after, none⟩ :: rest)) := r_step fun a w hF hI => by
 obtain ⟨fn, h1, h2, h3, h4, h5⟩ := hE.h
 have hargs := args_run hF hx
 have hc := run_callFunc_extern h1 h2 h3 h4 h5 vals.toArray w
 rw [he w] at hc
 have hr : (execOp a.eval ⟨some d, .call ⟨.value (.func f), xs, ts⟩, ty, pos, after, none⟩).run P w = .ok (.value (mk w.heap.size)) (w.alloc (.cells cs.toArray T)) := by
  simpa [execOp, resolve, Act.eval, Deferred.ofValue, invoke, hargs] using hc
 unfold Oper.wp
 rw [hr]
 exact k _ _ _ (hF.put hd _) (hI.alloc T cs)
theorem r_extW {f : FuncId} {e : Array Value → Sem Value} [hE : Ext P f e] {xs : Array Operand} {ts : Array TypeId} {vals : List Value} {v : Value} {b : Nat} {T : TypeId} {cs cs' : List Value} (i : Nat) (hd : Nat.blt d n = true) (hx : evs L xs.toList = some vals) (ho : own[i]? = some (.blk b T cs))
  (he : ∀ w, Inv E g own w → (e vals.toArray).run P w = .ok v (w.setRow b cs'.toArray)) (k : Run E n ((d, v) :: L) g (own.set i (.blk b T cs')) (wpList P ops Q rest)) :
  Run E n L g own (wpList P ops Q (⟨some d, .call ⟨.value (.func f), xs, ts⟩, ty, pos, after, none⟩ :: rest)) := r_step fun a w hF hI => by
 obtain ⟨fn, h1, h2, h3, h4, h5⟩ := hE.h
 have hargs := args_run hF hx
 have hc := run_callFunc_extern h1 h2 h3 h4 h5 vals.toArray w
 rw [he w hI] at hc
 have hr : (execOp a.eval ⟨some d, .call ⟨.value (.func f), xs, ts⟩, ty, pos, after, none⟩).run P w = .ok (.value v) (w.setRow b cs'.toArray) := by
  simpa [execOp, resolve, Act.eval, Deferred.ofValue, invoke, hargs] using hc
 unfold Oper.wp
 rw [hr]
 exact k _ _ (hF.put hd v) (hI.setBlk ho cs')
theorem val_invoke {x : Operand} {name : String} {f : FuncId} {e : Array Value → Sem Value} [hE : Ext P f e] {xs : Array Operand} {ts : Array TypeId} {vals : List Value} {T : TypeId} {u u' v : Value} (hx : ev L x = some (.iface T u)) (hxs : evs L xs.toList = some vals)
  (hm : ∀ w, (Go.method (P.types.size + Made.depth) T u name).run P w = .ok (f, u') w) (he : ∀ w, (e (u' :: vals).toArray).run P w = .ok v w) :
  Val P E n L g own ty (.call ⟨.invoke x name, xs, ts⟩) v := fun a w dst pos after hF _ => by
 obtain ⟨fn, h1, h2, h3, h4, h5⟩ := hE.h
 have hargs := args_run hF hxs
 have hc := run_callFunc_extern h1 h2 h3 h4 h5 (u' :: vals).toArray w
 rw [he w] at hc
 have hp : (program).run P w = .ok P w := rfl
 have hcm : (callMethod (.iface T u) name vals.toArray).run P w = .ok (.value v) w := by
  unfold callMethod
  simp only [Sem.run_bind, hp, Result.andThen_ok, hm w]
  simpa using hc
 simp [execOp, resolve, invoke, hF.eval hx, hargs, hcm]
theorem r_invokeP {x : Operand} {name : String} {f : FuncId} {xs : Array Operand} {ts : Array TypeId} {vals : List Value} {T : TypeId} {u u' v : Value} [hB : Body P f] (hd : Nat.blt d n = true) (hx : ev L x = some (.iface T u)) (hxs : evs L xs.toList = some vals)
  (hm : ∀ w, (Go.method (P.types.size + Made.depth) T u name).run P w = .ok (f, u') w) (hs : Pure P f (u' :: vals) g v) (k : Run E n ((d, v) :: L) g own (wpList P ops Q rest)) :
  Run E n L g own (wpList P ops Q (⟨some d, .call ⟨.invoke x name, xs, ts⟩, ty, pos, after, none⟩ :: rest)) := r_step fun a w hF hI => by
 have hb := hB.h
 unfold bodyB at hb
 split at hb
 ·rename_i fn hfn
  simp only [Bool.and_eq_true, Bool.not_eq_true', beq_eq_false_iff_ne, ne_eq] at hb
  have hargs := args_run hF hxs
  have hbn : fn.body ≠ none := fun h => by simp [h] at hb
  have hp : (program).run P w = .ok P w := rfl
  have hcm : (callMethod (.iface T u) name vals.toArray).run P w = .ok (.enter f (u' :: vals).toArray) w := by
   unfold callMethod
   simp only [Sem.run_bind, hp, Result.andThen_ok, hm w]
   simp [callFunc, hp, hfn, hb.2, hbn]
  have h1 : (execOp a.eval ⟨some d, .call ⟨.invoke x name, xs, ts⟩, ty, pos, after, none⟩).run P w = .ok (.enter f (u' :: vals).toArray) w := by
   simp [execOp, resolve, invoke, hF.eval hx, hargs, hcm]
  unfold Oper.wp
  rw [h1]
  have hI' : Inv E g ([] ++ own) w := hI
  have hH : Holds g [] w := (hI'.drop (List.sublist_append_left _ _)).1
  refine (hs w hH).mono ?_
  rintro e w' ⟨v', g', own', rfl, ⟨rfl, rfl, rfl⟩, hH', hS'⟩
  refine k _ _ (hF.put hd _) ?_
  exact Inv.move hI' hS'.size hS'.tape hS'.os hS'.output hS'.kept hS'.gle hH'.cov hS'.gnew hH'.sat hH'.dis hH'.gn hS'.ofoot
 ·cases hb
theorem val_tassert {x : Operand} {X T : TypeId} {u v : Value} (hx : ev L x = some u) (h : ∀ w, (Instr.typeAssert u X T true).run P w = .ok v w) : Val P E n L g own ty (.typeAssert x X T true) v := fun a w dst pos after hF _ => by
 simp [execOp, hF.eval hx, h w]
theorem blk_cell {w : World} {i b o : Nat} {T : TypeId} {cs : List Value} {v : Value} (hI : Inv E g own w) (h : own[i]? = some (.blk b T cs)) (hv : cs[o]? = some v) : w.cell? ⟨b, o, none⟩ = some v := by
 have hs : w.heap[b]? = some (.cells cs.toArray T (0, 0)) := sat_at hI h
 simp [World.cell?, hs, hv]
end
end Go.Eng
-- sum 5c37b61a6227fa84

/- The walking engine: three operations of a drawn region that can come up in any order; parts of what is read; over any program. -/
namespace Go.Eng
open Go
section
variable {P : Program} {E : Env} {n : Nat} {L : Slots} {g : Ghost} {own : List Res} {Q : Exit → Act → World → Prop} {ops : Array Oper} {S : World → Prop} {fuel : Nat} {listed : Array Bool}
theorem h_three {o o' o'' : Oper} (i i' i'' : Nat) (hr : Region.ready .any ops listed = [i, i', i'']) (hi : ops[i]? = some o) (hi' : ops[i']? = some o') (hi'' : ops[i'']? = some o'')
  (h : Run E n L g own (wpList P ops (Exit.then (fun a w => S w ∧ Hq P ops Q S fuel (listed.setIfInBounds i true) a w) Q) [o]))
  (h' : Run E n L g own (wpList P ops (Exit.then (fun a w => S w ∧ Hq P ops Q S fuel (listed.setIfInBounds i' true) a w) Q) [o']))
  (h'' : Run E n L g own (wpList P ops (Exit.then (fun a w => S w ∧ Hq P ops Q S fuel (listed.setIfInBounds i'' true) a w) Q) [o''])) : Run E n L g own (Hq P ops Q S (fuel + 1) listed) := fun a w hF hI => by
 have aux : ∀ (j : Nat) (q : Oper), ops[j]? = some q → wpList P ops (Exit.then (fun a w => S w ∧ Hq P ops Q S fuel (listed.setIfInBounds j true) a w) Q) [q] a w →
   wpOp P ops Q j (fun a' w' => S w' ∧ wpAnyH P .any ops Q S fuel (listed.setIfInBounds j true) a' w') a w := by
  intro j q hq h1
  unfold wpOp
  simp only [hq]
  unfold wpList at h1
  split
  ·rename_i hw
   rw [if_pos hw] at h1
   rcases h1 with h1 | ⟨h1, h2⟩
   ·exact .inl (upon_then h1)
   ·exact .inr ⟨h1, h2⟩
  ·rename_i hw
   rw [if_neg hw] at h1
   exact h1
 refine wpAnyH_all hr (by simp) ?_
 intro j hj
 simp only [List.mem_cons, List.not_mem_nil, or_false] at hj
 rcases hj with rfl | rfl | rfl
 ·exact aux _ _ hi (h a w hF hI)
 ·exact aux _ _ hi' (h' a w hF hI)
 ·exact aux _ _ hi'' (h'' a w hF hI)
end
theorem Rd.at1 {g : Ghost} {own : List Res} {b off : Nat} {xs : List Value} (h : Rd g own b off xs) (d : Nat) {v : Value} (hv : xs[d]? = some v) : Rd g own b (off + d) [v] :=
 h.part d fun j x hj => by
  cases j with
  | zero => simp at hj; subst hj; simpa using hv
  | succ j => simp at hj
theorem Rd.tail3 {g : Ghost} {own : List Res} {b off : Nat} {x y z : Value} {bc : List Value} (h : Rd g own b off (x :: y :: z :: bc)) : Rd g own b (off + 3) bc :=
 h.part 3 fun j v hj => by rw [Nat.add_comm]; simpa using hj
end Go.Eng
-- sum 2dd0cdf93865e33d


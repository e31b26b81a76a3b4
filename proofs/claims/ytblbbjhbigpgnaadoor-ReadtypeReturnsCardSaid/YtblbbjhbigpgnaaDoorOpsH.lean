/- The walking engine, ninth part: regions that draw their order, with a head in which some operations act and a tail that comes in one order behind all of the head ('m_*': a store at the end may hit what the head has read). -/
import Derived.Test.YtblbbjhbigpgnaaDoorOpsG
namespace Go.Eng
open Go Go.RowKit
section
variable {P : Program} {ops : Array Oper} {Q : Exit → Act → World → Prop} {S : World → Prop} {m : Nat} {T : Array Bool → Act → World → Prop}
/-- Whatever order the head takes; behind each of its operations the condition holds; behind the head comes T. -/
def wpHead (P : Program) (ops : Array Oper) (Q : Exit → Act → World → Prop) (S : World → Prop) (m : Nat) (T : Array Bool → Act → World → Prop) : Nat → Array Bool → Act → World → Prop
  | 0, listed, a, w => T listed a w
  | f + 1, listed, a, w => Region.ready .any ops listed ≠ [] ∧ ∀ i ∈ Region.ready .any ops listed, i < m ∧ wpOp P ops Q i (fun a' w' => S w' ∧ wpHead P ops Q S m T f (listed.setIfInBounds i true) a' w') a w
theorem any_of_head {k : Nat} (hT : ∀ listed a w, T listed a w → wpAny P .any ops Q k listed a w) : ∀ (f : Nat) (listed : Array Bool) (a : Act) (w : World), wpHead P ops Q S m T f listed a w → wpAny P .any ops Q (f + k) listed a w
  | 0, listed, a, w, h => by rw [Nat.zero_add]; exact hT _ _ _ h
  | f + 1, listed, a, w, h => by
    rw [show f + 1 + k = (f + k) + 1 by omega]
    exact ⟨fun h0 => absurd h0 h.1, fun i hi => wpOp_mono (fun a' w' h' => any_of_head hT f _ a' w' h'.2) (h.2 i hi).2⟩
theorem wpHead_mono {S' : World → Prop} (hS : ∀ w, S' w → S w) : ∀ (f : Nat) (listed : Array Bool) (a : Act) (w : World), wpHead P ops Q S' m T f listed a w → wpHead P ops Q S m T f listed a w
  | 0, _, _, _, h => h
  | f + 1, _, _, _, h => ⟨h.1, fun i hi => ⟨(h.2 i hi).1, wpOp_mono (fun a' w' h' => ⟨hS w' h'.1, wpHead_mono hS f _ a' w' h'.2⟩) (h.2 i hi).2⟩⟩
theorem wpHead_first {i : Nat} {oi : Oper} {v : Value} (hi : ops[i]? = some oi) (hsel : ∀ (j : Nat) (o : Oper) cs b, ops[j]? = some o → o.op ≠ .select cs b)
    (hQ : ∀ c a w, Q (.panic c) (a.put oi.dst v) w → Q (.panic c) a w) (hs : Region.sinkB .any ops m = true) (hc : Region.chainB .any ops m = true) (hn : m < ops.size) (hin : i < m)
    (hdone : ∀ listed a w, T listed a w → ∀ j ∈ Region.ready .any ops listed, m ≤ j) :
    ∀ (f : Nat) (listed : Array Bool) (a : Act) (w : World), HeadInv .any ops m listed →
      (∀ j oj, ops[j]? = some oj → j ≠ i → listed.getD j true = false → (∀ e ∈ oj.after, Region.binds .any e = true → e.on ≠ i) → oi.apart ops oj = true) →
      i ∈ Region.ready .any ops listed → YieldsIf P ops S oi v a → S w →
      wpHead P ops Q S m T f (listed.setIfInBounds i true) (a.put oi.dst v) w → wpHead P ops Q S m T (f + 1) listed a w := by
  intro f
  induction f with
  | zero =>
    intro listed a w inv _ hr hy hS H
    have hun := (mem_ready.1 hr).1
    refine ⟨fun h => (by rw [h] at hr; cases hr), fun j hj => ?_⟩
    have hjm : j < m := by
      rcases Nat.lt_or_ge j m with h | h
      · exact h
      · exact absurd hj (tail_waits hs hc hn inv _ i rfl hin hun j h)
    refine ⟨hjm, ?_⟩
    by_cases hji : j = i
    · subst hji; exact hy.wpOp hi hS ⟨hS, H⟩
    · have := hdone _ _ _ H j (ready_mono hj hji)
      omega
  | succ f ih =>
    intro listed a w inv hfree hr hy hS H
    have hun := (mem_ready.1 hr).1
    refine ⟨fun h => (by rw [h] at hr; cases hr), fun j hj => ?_⟩
    have hjm : j < m := by
      rcases Nat.lt_or_ge j m with h | h
      · exact h
      · exact absurd hj (tail_waits hs hc hn inv _ i rfl hin hun j h)
    refine ⟨hjm, ?_⟩
    by_cases hji : j = i
    · subst hji; exact hy.wpOp hi hS ⟨hS, H⟩
    · have h1 := (H.2 j (ready_mono hj hji)).2
      obtain ⟨hjun, oj, hoj, hall⟩ := mem_ready.1 hj
      have hnot : ∀ e ∈ oj.after, Region.binds .any e = true → e.on ≠ i := fun e he hb heq => by
        have h1 := hall e he hb
        rw [heq, getD_both hun] at h1
        cases h1
      have h2 := wpOp_putIf hoj (hfree j oj hoj hji hjun hnot) (fun cs b => hsel i oi cs b hi) (fun cs b => hsel j oj cs b hoj) hQ hy h1
      have hfree' : ∀ k ok, ops[k]? = some ok → k ≠ i → (listed.setIfInBounds j true).getD k true = false →
          (∀ e ∈ ok.after, Region.binds .any e = true → e.on ≠ i) → oi.apart ops ok = true := fun k ok hk hki hun' hno => by
        refine hfree k ok hk hki ?_ hno
        by_cases hjk : j = k
        · subst hjk; exact hjun
        · rw [getD_set_ne true hjk] at hun'; exact hun'
      refine wpOp_mono (fun a' w' h3 => ⟨h3.2.1, ih (listed.setIfInBounds j true) a' w' (inv.set hj hjm) hfree' (ready_mono hr (Ne.symm hji)) h3.1 h3.2.1 ?_⟩) h2
      rw [Array.setIfInBounds_comm _ _ hji]
      exact h3.2.2
/-- The bookkeeping of a head, by reckoning. -/
def headB (ops : Array Oper) (m : Nat) (listed : Array Bool) : Bool := decide (listed.size = ops.size) &&
  ((List.range ops.size).all fun j => match ops[j]? with
    | some oj => !listed.getD j false || oj.after.all fun e => !Region.binds .any e || listed.getD e.on false
    | none => true) && (List.range ops.size).all fun t => decide (t < m) || !listed.getD t true
theorem headB_spec {listed : Array Bool} (h : headB ops m listed = true) : HeadInv .any ops m listed := by
  simp only [headB, Bool.and_eq_true, decide_eq_true_eq, List.all_eq_true, List.mem_range] at h
  obtain ⟨⟨h1, h2⟩, h3⟩ := h
  refine ⟨h1, fun j oj hj hl e he hb => ?_, fun t ht ht' => ?_⟩
  · have := h2 j (Array.getElem?_eq_some_iff.1 hj).1
    rw [hj] at this
    simp only [hl, Bool.not_true, Bool.false_or, Array.all_eq_true_iff_forall_mem] at this
    have := this e he
    simpa [hb] using this
  · have := h3 t ht'
    simp only [Bool.or_eq_true, decide_eq_true_eq, Bool.not_eq_true'] at this
    rcases this with h | h
    · omega
    · exact h
end
/-- A drawn region with a tail, on its way. -/
def Hm (P : Program) (l : List Oper) (Q : Exit → Act → World → Prop) (S : World → Prop) (m f : Nat) (listed : Array Bool) : Act → World → Prop :=
  wpHead P l.toArray Q S m (fun listed' a' w' => Region.seqB .any l.toArray (l.toArray.size - m) m listed' = true ∧ wpList P l.toArray Q (l.drop m) a' w') f listed
def mB (l : List Oper) (m : Nat) : Bool := Region.noSelect l.toArray && decide (m < l.toArray.size) && Region.sinkB .any l.toArray m && Region.chainB .any l.toArray m
section
variable {P : Program} {E : Env} {n : Nat} {L : Slots} {g : Ghost} {own : List Res} {Q : Exit → Act → World → Prop} {l : List Oper} {rest : List Oper}
variable {d : Nat} {ty : TypeId} {pos : String} {after : Array Edge} {f m : Nat} {listed : Array Bool} {own0 : List Res} {S : World → Prop}
theorem m_begin {id : Nat} (m : Nat) (js : List Nat) (hm : MixedB P = true) (hB : mB l m = true)
    (h : GFact E g → Run E n L g own (Hm P l Q (Inv E g (js.foldl (fun l j => l.eraseIdx j) own)) m m (Array.replicate l.length false))) : Run E n L g own ((Code.region id l.toArray true).wp P Q) := fun a w hF hI => by
  have h1 := h (GFact.of hI) a _ hF hI.drew
  simp only [mB, Bool.and_eq_true, decide_eq_true_eq] at hB
  have hlen : m ≤ l.toArray.size := by have := hB.1.1.2; omega
  refine wp_region_any hm ?_
  have h2 := any_of_head (k := l.toArray.size - m) (fun listed a' w' hT => by
    have := wpAny_of_seq (md := .any) (Q' := Q) (l.drop m) m listed a' w' (fun j => by simp [List.getElem?_drop]) (by rw [List.length_drop, ← List.size_toArray]; exact hT.1) hT.2
    rwa [List.length_drop, ← List.size_toArray] at this) _ _ _ _ h1
  rw [show m + (l.toArray.size - m) = l.toArray.size by omega] at h2
  simpa using h2
theorem m_takeX [hN : NP Q] {g0 : Ghost} {op : Op} (i : Nat) (hi : l.toArray[i]? = some ⟨some d, op, ty, pos, after, none⟩)
    (hB : (mB l m && headB l.toArray m listed && Region.free .any l.toArray listed i && (Region.ready .any l.toArray listed).contains i && decide (i < m)) = true)
    (hd : Nat.blt d n = true) (hG : GFact E g0) (hle : Ghost.le g0 g) (hsub : own0.Sublist own) (h : ∃ v, Val P E n L g0 own0 ty op v ∧ Run E n ((d, v) :: L) g own (Hm P l Q (Inv E g0 own0) m f (listed.setIfInBounds i true))) :
    Run E n L g own (Hm P l Q (Inv E g0 own0) m (f + 1) listed) := fun a w hF hI => by
  obtain ⟨v, hv, k⟩ := h
  simp only [mB, Bool.and_eq_true, decide_eq_true_eq] at hB
  obtain ⟨⟨⟨⟨⟨⟨⟨b1, b2⟩, b3⟩, b4⟩, b5⟩, b6⟩, b7⟩, b8⟩ := hB
  exact wpHead_first hi (Region.noSelect_spec b1) (fun c a' w' h => absurd h (hN.no c _ w')) b3 b4 b2 b8 (fun _ _ _ hT => seqB_ready hT.1) f listed a w (headB_spec b5) (Region.free_spec hi b6) (by simpa using b7)
    (.inl ⟨rfl, fun w' hw' => hv a w' (some d) pos after hF hw'⟩) (hI.back hG hle hsub) (k _ w (hF.put hd v) hI)
theorem m_one {o : Oper} (i : Nat) (hr : Region.ready .any l.toArray listed = [i]) (him : Nat.blt i m = true) (hi : l.toArray[i]? = some o)
    (h : Run E n L g own (wpList P l.toArray (Exit.then (fun a w => S w ∧ Hm P l Q S m f (listed.setIfInBounds i true) a w) Q) [o])) : Run E n L g own (Hm P l Q S m (f + 1) listed) := fun a w hF hI => by
  refine ⟨by rw [hr]; simp, ?_⟩
  intro j hj
  rw [hr] at hj
  obtain rfl : j = i := by simpa using hj
  have h1 := h a w hF hI
  refine ⟨Nat.blt_eq.mp him, ?_⟩
  unfold wpOp
  simp only [hi]
  unfold wpList at h1
  split
  · rename_i hw
    rw [if_pos hw] at h1
    rcases h1 with h1 | ⟨h1, h2⟩
    · exact .inl (upon_then h1)
    · exact .inr ⟨h1, h2⟩
  · rename_i hw
    rw [if_neg hw] at h1
    exact h1
theorem m_done (hB : Region.seqB .any l.toArray (l.toArray.size - m) m listed = true) (h : Run E n L g own (wpList P l.toArray Q (l.drop m))) : Run E n L g own (Hm P l Q S m 0 listed) := fun a w hF hI => ⟨hB, h a w hF hI⟩
theorem is_m {op : Op} (i : Nat) (_hi : l.toArray[i]? = some ⟨some d, op, ty, pos, after, none⟩) (k : Run E n L g own (Hm P l Q S m f listed)) : Run E n L g own (Hm P l Q S m f listed) := k
end
end Go.Eng
-- sum 0f2026fe85d9485e

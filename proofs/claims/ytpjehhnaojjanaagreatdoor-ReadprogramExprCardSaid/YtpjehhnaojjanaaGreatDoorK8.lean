/- The walks of the reference's reader (typedholesref5): Atom and Type read what the plain grammar reads. -/
import Derived.Test.YtpjehhnaojjanaaGreatDoorK7
import Derived.Test.YtpjehhnaojjanaaGreatDoorK1
import Derived.Test.YtpjehhnaojjanaaGreatDoorK4
namespace Go.Proofs.YtpjehhnaojjanaaGreatDoor
open Go Go.Eng Go.Th Go.Proofs
set_option maxRecDepth 10000
set_option maxHeartbeats 4000000
attribute [local irreducible] wpList Code.wp Run bodyPost Go.Eng.Ends Exit.then Exit.inBlock Again Wq Kq
def KW (l : List Tok) : Prop := ∀ t ∈ l, t.kind = kindOf t.text
theorem isAt_mark {l : List Tok} (h : KW l) {w : Bytes} (hw : kindOf w = 5) (i : Nat) : isAt l i w = markAt l i w := by
 unfold isAt markAt
 have : tokAt l i 4 w = false := by
  unfold tokAt
  cases hl : l[i]? with
  | none => rfl
  | some t =>
   simp only [Bool.and_eq_false_iff, decide_eq_false_iff_not]
   by_cases hk : t.kind = 4
   ·refine .inr fun ht => ?_
    have := h t (List.mem_of_getElem? hl)
    rw [ht, hw] at this
    omega
   ·exact .inl hk
 rw [this, Bool.or_false]
theorem kindAt_lt {l : List Tok} {i : Nat} (h : i < l.length) (k : Int) : kindAt l i k = decide (l[i].kind = k) := by unfold kindAt; rw [toks_some h]
theorem kindAt_ge {l : List Tok} {i : Nat} (h : ¬ i < l.length) (k : Int) : kindAt l i k = false := by unfold kindAt; rw [List.getElem?_eq_none (by omega)]
def post5 (l : List Tok) (i : Nat) (b : Nat) (lv : Value) (r : TR) (v : Value) (g' : Ghost) (r' : Res) : Prop := match r with
 | .ok (t, j) => TyV g' v t ∧ r' = rdB b lv (.good j) ∧ i < j ∧ j ≤ l.length
 | .error p => (∃ t, TyV g' v t) ∧ ∃ j, j ≤ l.length ∧ r' = rdB b lv (.bad j p)
theorem rCon0_spec (g : Ghost) (name : Bytes) : Pure Tryz.prog 60 [str name, .slice none 0 0] g (.agg #[.int .i64 4, str name, .int .i64 0, .int .i64 0, .slice none 0 0]) := by
 refine spec_of_run Tryz.func60 rfl Tryz.ntmps60 rfl fun E hE => ?_
 refine r_sr ?_
 refine r_alloc rfl (fun b4 => ?_)
 refine r_nn <| r_sr <| r_ev rfl rfl <| r_ev rfl rfl ?_
 refine r_nilRow 49 5 ?_
 refine r_append0 0 rfl rfl rfl rfl ?_
 refine r_drop (own' := [_]) (List.sublist_cons_self _ _) ?_
 refine r_build rfl rfl (by rfl) ?_; refine r_storeA 0 rfl rfl rfl rfl (by rfl) (by repeat' (first | exact rfl | assumption | refine all_cons ?_ ?_)) rfl ?_; refine r_nn <| r_retc ?_
 exact r_retA [] rfl (res_blk 0 rfl rfl (by rfl)) (by simp) ⟨rfl, rfl, rfl⟩
theorem conT_V (g : Ghost) (name : Bytes) : TyV g (.agg #[.int .i64 4, str name, .int .i64 0, .int .i64 0, .slice none 0 0]) (conT name []) := TyV.of (t := conT name []) (slNil g 5) (tysNil g)
theorem Atom5_step {l : List Tok} (hb : TB l) (hkw : KW l) (m : Nat) (lv : Value) (b : Nat)
  (hW : ∀ g i, ToksAt g lv l → i ≤ l.length → l.length - i < m → SpecL Tryz.prog 80 [ptr b 0] g (rdB b lv (.good i)) (post5 l i b lv (tread l .whole i)))
  (g : Ghost) (i : Nat) (hs : ToksAt g lv l) (hi : i ≤ l.length) (hm : l.length - i < m + 1) : SpecL Tryz.prog 97 [ptr b 0] g (rdB b lv (.good i)) (post5 l i b lv (tread l .atom i)) := by
 have hb1 := hb.1
 have hr := tread_atom l i
 have hp : isAt l i [40] = markAt l i [40] := isAt_mark hkw (by decide) i
 refine spec_of_run Tryz.func97 rfl Tryz.ntmps97 rfl fun E hE => ?_
 refine r_sr ?_
 refine r_alloc rfl (fun b2 => ?_)
 refine r_nn <| r_seq <| r_block <| r_sr <| r_ev rfl rfl ?_
 refine r_callO 1 rfl rfl rfl (Kind5_spec g l lv hs b (.good i) 1) ?_
 rw [show RS.kindIs l 1 (.good i) = kindAt l i 1 from rfl]
 cases h1 : kindAt l i 1 with
 | true =>
  have hlt : i < l.length := by
   by_cases h : i < l.length
   ·exact h
   ·rw [kindAt_ge h] at h1; cases h1
  rw [kindAt_lt hlt] at h1
  have h1' : l[i].kind = 1 := of_decide_eq_true h1
  rw [toks_some hlt] at hr
  simp only [h1', if_true] at hr
  have e1 : RS.word l 1 (.good i) = .good (i + 1) := by simp [RS.word, kindAt_lt hlt, h1']
  have e2 : RS.text l 1 (.good i) = l[i].text := by
   show (match l[i]? with | some t => if t.kind = 1 then t.text else [] | none => []) = _
   rw [toks_some hlt]; simp [h1']
  refine r_ev rfl rfl <| r_nn <| r_cond_true rfl <| r_sr <| r_ev rfl rfl ?_
  refine r_callL 1 rfl rfl rfl (Word5_spec g l hb lv hs b (.good i) hi 1) ?_
  rintro v g' r' ⟨rfl, rfl, rfl⟩ _
  rw [e1, e2]
  refine r_callP rfl rfl (rNamed_spec g' l[i].text) ?_
  refine r_storeA 0 rfl rfl rfl rfl (by rfl) (by repeat' (first | exact rfl | assumption | refine all_cons ?_ ?_)) rfl ?_; refine r_nn <| r_retc <| r_in_ret <| r_then_ret ?_
  refine r_retA [_] rfl (res_blk 0 rfl rfl (by rfl)) (.cons _ (List.Sublist.refl _)) ⟨_, rfl, ?_⟩
  rw [hr]
  exact ⟨nameT_V g' _, rfl, by omega, by omega⟩
 | false =>
  refine r_ev rfl rfl <| r_nn <| r_cond_false rfl <| r_sr <| r_ev rfl rfl ?_
  refine r_callO 1 rfl rfl rfl (Kind5_spec g l lv hs b (.good i) 2) ?_
  rw [show RS.kindIs l 2 (.good i) = kindAt l i 2 from rfl]
  cases h2 : kindAt l i 2 with
  | true =>
   have hlt : i < l.length := by
    by_cases h : i < l.length
    ·exact h
    ·rw [kindAt_ge h] at h2; cases h2
   rw [kindAt_lt hlt] at h2
   have h2' : l[i].kind = 2 := of_decide_eq_true h2
   rw [toks_some hlt] at hr
   simp only [h2'] at hr
   have e1 : RS.word l 2 (.good i) = .good (i + 1) := by simp [RS.word, kindAt_lt hlt, h2']
   have e2 : RS.text l 2 (.good i) = l[i].text := by
    show (match l[i]? with | some t => if t.kind = 2 then t.text else [] | none => []) = _
    rw [toks_some hlt]; simp [h2']
   refine r_ev rfl rfl <| r_nn <| r_cond_true rfl <| r_sr <| r_ev rfl rfl ?_
   refine r_callL 1 rfl rfl rfl (Word5_spec g l hb lv hs b (.good i) hi 2) ?_
   rintro v g' r' ⟨rfl, rfl, rfl⟩ _
   rw [e1, e2]
   refine r_callP rfl rfl (rCon0_spec g' l[i].text) ?_
   refine r_storeA 0 rfl rfl rfl rfl (by rfl) (by repeat' (first | exact rfl | assumption | refine all_cons ?_ ?_)) rfl ?_; refine r_nn <| r_retc <| r_in_ret <| r_then_ret ?_
   refine r_retA [_] rfl (res_blk 0 rfl rfl (by rfl)) (.cons _ (List.Sublist.refl _)) ⟨_, rfl, ?_⟩
   rw [hr]
   exact ⟨conT_V g' _, rfl, by omega, by omega⟩
  | false =>
   refine r_ev rfl rfl <| r_nn <| r_cond_false rfl <| r_skip <| r_in_normal <| r_then_normal <| r_sr <| r_ev rfl rfl ?_
   refine r_callL 1 rfl rfl rfl (Need5_spec g l hb lv hs b (.good i) hi [40]) ?_
   rintro v g' r' ⟨rfl, rfl⟩ _
   cases hmk : markAt l i [40] with
   | false =>
    have e1 : RS.need l [40] (.good i) = .bad i (failPos l i) := by simp [RS.need, hp, hmk]
    have hr' : tread l .atom i = .error (failPos l i) := by
     rw [hr]
     by_cases hlt : i < l.length
     ·rw [toks_some hlt]
      rw [kindAt_lt hlt] at h1 h2
      have h1' : ¬ l[i].kind = 1 := of_decide_eq_false h1
      have h2' : ¬ l[i].kind = 2 := of_decide_eq_false h2
      have h5' : ¬ (l[i].kind = 5 ∧ l[i].text = [40]) := by
       unfold markAt tokAt at hmk
       rw [toks_some hlt] at hmk
       intro h
       simp [h.1, h.2] at hmk
      simp only
      rw [if_neg h1', if_neg h2', if_neg h5']
     ·rw [List.getElem?_eq_none (by omega)]
    rw [e1]
    refine r_nn <| r_seq <| r_sr <| r_ev rfl rfl <| r_ev rfl rfl <| r_fieldAddr rfl rfl <| r_loadB1 1 rfl rfl rfl rfl <| r_nn <| r_cond_true rfl <| r_sr <| r_build rfl rfl (by rfl) ?_; refine r_storeA 0 rfl rfl rfl rfl (by rfl) (by repeat' (first | exact rfl | assumption | refine all_cons ?_ ?_)) rfl ?_; refine r_nn <| r_retc <| r_then_ret ?_
    refine r_retA [_] rfl (res_blk 0 rfl rfl (by rfl)) (.cons _ (List.Sublist.refl _)) ⟨_, rfl, ?_⟩
    rw [hr']
    exact ⟨⟨noT, noT_V g'⟩, i, hi, rfl⟩
   | true =>
    have hlt := tokAt_lt hmk
    have e1 : RS.need l [40] (.good i) = .good (i + 1) := by simp [RS.need, hp, hmk]
    rw [toks_some hlt] at hr
    rw [kindAt_lt hlt] at h1 h2
    have h1' : ¬ l[i].kind = 1 := of_decide_eq_false h1
    have h2' : ¬ l[i].kind = 2 := of_decide_eq_false h2
    have h5' : l[i].kind = 5 ∧ l[i].text = [40] := by
     unfold markAt tokAt at hmk
     rw [toks_some hlt] at hmk
     simpa using hmk
    simp only at hr
    rw [if_neg h1', if_neg h2', if_pos h5'] at hr
    rw [e1]
    refine r_nn <| r_seq <| r_sr <| r_ev rfl rfl <| r_ev rfl rfl <| r_fieldAddr rfl rfl <| r_loadB1 1 rfl rfl rfl rfl <| r_nn <| r_cond_false rfl <| r_skip <| r_then_normal <| r_sr <| r_ev rfl rfl ?_
    refine r_callL 1 rfl rfl rfl (hW g' (i + 1) hs (by omega) (by omega)) ?_
    rintro v g1 r' hw hle
    have hs1 := hs.mono hle
    cases hq : tread l .whole (i + 1) with
    | error p =>
     rw [hq] at hw hr
     simp only at hr
     obtain ⟨⟨t, hty⟩, j, hj, rfl⟩ := hw
     obtain ⟨a, m', c, rfl, ht⟩ := hty.cells5
     skip
     refine r_alloc rfl (fun b3 => ?_)
     refine r_storeA 0 rfl rfl rfl rfl (by rfl) (by repeat' (first | exact rfl | assumption | refine all_cons ?_ ?_)) rfl ?_; refine r_nn <| r_sr <| r_ev rfl rfl ?_
     refine r_callL 2 rfl rfl rfl (Need5_spec g1 l hb lv hs1 b (.bad j p) hj [41]) ?_
     rintro v g2 r' ⟨rfl, rfl⟩ _
     refine r_nn <| r_sr <| r_loadB 0 rfl rfl rfl (by rfl) ?_; refine r_storeA 1 rfl rfl rfl rfl (by rfl) (by repeat' (first | exact rfl | assumption | refine all_cons ?_ ?_)) rfl ?_; refine r_nn <| r_retc ?_
     refine r_retA [_] rfl (res_blk 1 rfl rfl (by rfl)) (.cons _ (.cons _ (List.Sublist.refl _))) ⟨_, rfl, ?_⟩
     rw [hr]
     exact ⟨⟨t, _, rfl, ht⟩, j, hj, rfl⟩
    | ok q =>
     obtain ⟨t, j⟩ := q
     rw [hq] at hw hr
     simp only at hr
     obtain ⟨hty, rfl, hj1, hj2⟩ := hw
     obtain ⟨a, m', c, rfl, ht⟩ := hty.cells5
     have hp2 : isAt l j [41] = markAt l j [41] := isAt_mark hkw (by decide) j
     skip
     refine r_alloc rfl (fun b3 => ?_)
     refine r_storeA 0 rfl rfl rfl rfl (by rfl) (by repeat' (first | exact rfl | assumption | refine all_cons ?_ ?_)) rfl ?_; refine r_nn <| r_sr <| r_ev rfl rfl ?_
     refine r_callL 2 rfl rfl rfl (Need5_spec g1 l hb lv hs1 b (.good j) hj2 [41]) ?_
     rintro v g2 r' ⟨rfl, rfl⟩ _
     cases hk : markAt l j [41] with
     | true =>
      rw [hk] at hr
      have := tokAt_lt hk
      have e2 : RS.need l [41] (.good j) = .good (j + 1) := by simp [RS.need, hp2, hk]
      rw [e2]
      refine r_nn <| r_sr <| r_loadB 0 rfl rfl rfl (by rfl) ?_; refine r_storeA 1 rfl rfl rfl rfl (by rfl) (by repeat' (first | exact rfl | assumption | refine all_cons ?_ ?_)) rfl ?_; refine r_nn <| r_retc ?_
      refine r_retA [_] rfl (res_blk 1 rfl rfl (by rfl)) (.cons _ (.cons _ (List.Sublist.refl _))) ⟨_, rfl, ?_⟩
      rw [hr]
      exact ⟨⟨_, rfl, ht⟩, rfl, by omega, by omega⟩
     | false =>
      rw [hk] at hr
      have e2 : RS.need l [41] (.good j) = .bad j (failPos l j) := by simp [RS.need, hp2, hk]
      rw [e2]
      refine r_nn <| r_sr <| r_loadB 0 rfl rfl rfl (by rfl) ?_; refine r_storeA 1 rfl rfl rfl rfl (by rfl) (by repeat' (first | exact rfl | assumption | refine all_cons ?_ ?_)) rfl ?_; refine r_nn <| r_retc ?_
      refine r_retA [_] rfl (res_blk 1 rfl rfl (by rfl)) (.cons _ (.cons _ (List.Sublist.refl _))) ⟨_, rfl, ?_⟩
      rw [hr]
      exact ⟨⟨t, _, rfl, ht⟩, j, hj2, rfl⟩
end Go.Proofs.YtpjehhnaojjanaaGreatDoor
-- sum adf1d1d3c2159130

/- The walks of the reference's reader (typedholesref5): Type, and the joint induction. -/
namespace Go.Eng
open Go
section
variable {P : Program} {E : Env} {n : Nat} {L : Slots} {g : Ghost} {own : List Res} {Q : Exit → Act → World → Prop}
theorem r_cutG {ι : Type} (Lf : ι → Slots) (gf : ι → Ghost) (of : ι → List Res) (φ : ι → Prop) {x y : Code} (h2 : ∀ p, φ p → Run E n (Lf p) (gf p) (of p) (y.wp P Q))
  (h1 : ∀ K : Act → World → Prop, (∀ p L'', φ p → Sub (Lf p) L'' → Run E n L'' (gf p) (of p) K) → Run E n L g own (x.wp P (Exit.then K Q))) : Run E n L g own ((Code.seq x y).wp P Q) :=
 r_seq (h1 _ fun p _ hφ hs => r_sub (Lf p) hs (h2 p hφ))
theorem r_rowForm {X : Act → World → Prop} {T : TypeId} {size m : Nat} {v : Value} {xs : List Value} (i : Nat) (h : own[i]? = some (.row T size v m xs)) (k : (∃ a m c, v = .slice a m c) → Run E n L g own X) : Run E n L g own X := fun a w hF hI => by
 have hs : w.ownsRow 0 T size v m xs := sat_at hI h
 refine k ?_ a w hF hI
 rcases hs.2 with ⟨rfl, _⟩ | ⟨b, cap, cur, rfl, _⟩
 ·exact ⟨_, _, _, rfl⟩
 ·exact ⟨_, _, _, rfl⟩
end
end Go.Eng
namespace Go.Proofs.YtpjehhnaojjanaaGreatDoor
open Go Go.Eng Go.Th Go.Proofs
set_option maxRecDepth 10000
set_option maxHeartbeats 4000000
attribute [local irreducible] wpList Code.wp Run bodyPost Go.Eng.Ends Exit.then Exit.inBlock Again Wq Kq
def appS (l : List Tok) (i : Nat) (t : Ty) : TR → RS → Prop
 | .ok (t', j), s => t' = t ∧ s = .good j ∧ i < j ∧ j ≤ l.length
 | .error p, s => ∃ j, j ≤ l.length ∧ s = .bad j p
theorem Type5_step {l : List Tok} (hb : TB l) (hkw : KW l) (m : Nat) (lv : Value) (b : Nat)
  (hW : ∀ g i, ToksAt g lv l → i ≤ l.length → l.length - i < m → SpecL Tryz.prog 80 [ptr b 0] g (rdB b lv (.good i)) (post5 l i b lv (tread l .whole i)))
  (hA : ∀ g i, ToksAt g lv l → i ≤ l.length → l.length - i < m + 1 → SpecL Tryz.prog 97 [ptr b 0] g (rdB b lv (.good i)) (post5 l i b lv (tread l .atom i)))
  (g : Ghost) (i : Nat) (hs : ToksAt g lv l) (hi : i ≤ l.length) (hm : l.length - i < m + 1) : SpecL Tryz.prog 80 [ptr b 0] g (rdB b lv (.good i)) (post5 l i b lv (tread l .whole i)) := by
 have hb1 := hb.1
 refine spec_of_run Tryz.func80 rfl Tryz.ntmps80 rfl fun E hE => ?_
 refine r_sr ?_
 refine r_alloc rfl (fun b2 => ?_)
 refine r_nn ?_
 refine r_sr ?_
 refine r_alloc rfl (fun b3 => ?_)
 refine r_nn ?_
 refine r_cutG (ι := Ty × Value × RS × Ghost) (fun p => [(0, ptr b 0), (2, ptr b2 0), (3, ptr b3 0)]) (fun p => p.2.2.2)
  (fun p => [.blk b3 49 (tyCells p.1 p.2.1), .blk b2 49 [.int .i64 0, str [], .int .i64 0, .int .i64 0, .slice none 0 0], rdB b lv p.2.2.1])
  (fun p => Ghost.le g p.2.2.2 ∧ TyAt p.2.2.2 p.1 (tyCells p.1 p.2.1) ∧ appS l i p.1 (tread l .applied i) p.2.2.1) ?_ ?_
 ·rintro ⟨t, sl, s, g1⟩ ⟨k1, k2, k3⟩
  simp only at k1 k2 k3
  have hr := tread_whole l i
  have hs1 := hs.mono k1
  obtain ⟨_, hsl, _⟩ := k2.args
  obtain ⟨a, m', c, rfl⟩ := SlAt.form hsl
  show Run E _ [(0, ptr b 0), (2, ptr b2 0), (3, ptr b3 0)] g1 [.blk b3 49 (tyCells t (.slice a m' c)), .blk b2 49 [.int .i64 0, str [], .int .i64 0, .int .i64 0, .slice none 0 0], rdB b lv s] _
  cases hq : tread l .applied i with
  | error p =>
   rw [hq] at k3 hr
   simp only at hr
   obtain ⟨j, hj, rfl⟩ := k3
   refine r_seq <| r_sr <| r_ev rfl rfl ?_
   refine r_callL 2 rfl rfl rfl (Skip5_spec g1 l hb lv hs1 b (.bad j p) hj arrowB) ?_
   rintro v g2 r' ⟨rfl, rfl, rfl⟩ _
   refine r_nn <| r_cond_false rfl <| r_skip <| r_then_normal <| r_sr <| r_loadB 0 rfl rfl rfl (by rfl) ?_; refine r_storeA 1 rfl rfl rfl rfl (by rfl) (by repeat' (first | exact rfl | assumption | refine all_cons ?_ ?_)) rfl ?_; refine r_nn <| r_retc ?_
   refine r_retA [_] rfl (res_blk 1 rfl rfl (by rfl)) (.cons _ (.cons _ (List.Sublist.refl _))) ⟨_, rfl, ?_⟩
   rw [hr]
   exact ⟨⟨t, _, rfl, k2⟩, j, hj, rfl⟩
  | ok q =>
   obtain ⟨t', j⟩ := q
   rw [hq] at k3 hr
   obtain ⟨rfl, rfl, hj1, hj2⟩ := k3
   simp only at hr
   have hp : isAt l j arrowB = markAt l j arrowB := isAt_mark hkw (by decide) j
   refine r_seq <| r_sr <| r_ev rfl rfl ?_
   refine r_callL 2 rfl rfl rfl (Skip5_spec g1 l hb lv hs1 b (.good j) hj2 arrowB) ?_
   rintro v g2 r' ⟨rfl, rfl, rfl⟩ _
   rw [show RS.isIs l arrowB (.good j) = markAt l j arrowB from hp]
   cases hk : markAt l j arrowB with
   | false =>
    rw [hk] at hr
    have e1 : RS.skip l arrowB (.good j) = .good j := by simp [RS.skip, hp, hk]
    rw [e1]
    refine r_nn <| r_cond_false rfl <| r_skip <| r_then_normal <| r_sr <| r_loadB 0 rfl rfl rfl (by rfl) ?_; refine r_storeA 1 rfl rfl rfl rfl (by rfl) (by repeat' (first | exact rfl | assumption | refine all_cons ?_ ?_)) rfl ?_; refine r_nn <| r_retc ?_
    refine r_retA [_] rfl (res_blk 1 rfl rfl (by rfl)) (.cons _ (.cons _ (List.Sublist.refl _))) ⟨_, rfl, ?_⟩
    rw [hr]
    exact ⟨⟨_, rfl, k2⟩, rfl, hj1, hj2⟩
   | true =>
    rw [hk] at hr
    have hjl := tokAt_lt hk
    simp only [if_true] at hr
    rw [if_pos (by omega)] at hr
    have e1 : RS.skip l arrowB (.good j) = .good (j + 1) := by simp [RS.skip, hp, hk]
    rw [e1]
    refine r_nn <| r_cond_true rfl <| r_seq ?_
    refine h_beginE [2, 1] mixed (fun hG => ?_)
    refine h_takeXA 0 rfl (by kernel_rfl) rfl hG ?_; refine ⟨_, (val_loadB 0 rfl rfl (by rfl)), ?_⟩; refine h_takeXA 1 rfl (by kernel_rfl) rfl hG ?_; refine ⟨_, (val_ev rfl), ?_⟩
    refine h_one 2 (by kernel_rfl) rfl ?_
    refine r_callL 2 rfl rfl rfl (hW g2 (j + 1) hs1 (by omega) (by omega)) ?_
    rintro w g3 r' hw hle3
    cases hq2 : tread l .whole (j + 1) with
    | error p =>
     rw [hq2] at hw hr
     simp only at hr
     obtain ⟨⟨t2, hty2⟩, j2, hj2', rfl⟩ := hw
     have ht := k2.mono hle3
     refine r_nn ?_
     refine h_keptA hG ?_
     refine h_one 3 (by kernel_rfl) rfl ?_
     refine r_callN rfl rfl (rArrow_spec g3 t' t2 _ _ ⟨_, rfl, ht⟩ hty2) ?_
     rintro w g4 hw hle4
     have hle34 := Ghost.le_trans hle3 hle4
     obtain ⟨a3, m3, c3, rfl, ht3⟩ := hw.cells5
     refine r_nn ?_
     refine h_keptA hG ?_
     refine h_one 4 (by kernel_rfl) rfl ?_
     refine r_storeA 1 rfl rfl rfl rfl (by rfl) (by repeat' (first | exact rfl | assumption | refine all_cons ?_ ?_)) rfl ?_; refine r_nn ?_
     refine h_keptA hG ?_
     refine h_done (by kernel_rfl) ?_
     refine r_then_normal <| r_retc <| r_then_ret ?_
     refine r_retA [_] rfl (res_blk 1 rfl rfl (by rfl)) (.cons _ (.cons _ (List.Sublist.refl _))) ⟨_, rfl, ?_⟩
     rw [hr]
     exact ⟨⟨_, _, rfl, ht3⟩, j2, hj2', rfl⟩
    | ok q2 =>
     obtain ⟨t2, j2⟩ := q2
     rw [hq2] at hw hr
     simp only at hr
     obtain ⟨hty2, rfl, hk1, hk2⟩ := hw
     have ht := k2.mono hle3
     refine r_nn ?_
     refine h_keptA hG ?_
     refine h_one 3 (by kernel_rfl) rfl ?_
     refine r_callN rfl rfl (rArrow_spec g3 t' t2 _ _ ⟨_, rfl, ht⟩ hty2) ?_
     rintro w g4 hw hle4
     have hle34 := Ghost.le_trans hle3 hle4
     obtain ⟨a3, m3, c3, rfl, ht3⟩ := hw.cells5
     refine r_nn ?_
     refine h_keptA hG ?_
     refine h_one 4 (by kernel_rfl) rfl ?_
     refine r_storeA 1 rfl rfl rfl rfl (by rfl) (by repeat' (first | exact rfl | assumption | refine all_cons ?_ ?_)) rfl ?_; refine r_nn ?_
     refine h_keptA hG ?_
     refine h_done (by kernel_rfl) ?_
     refine r_then_normal <| r_retc <| r_then_ret ?_
     refine r_retA [_] rfl (res_blk 1 rfl rfl (by rfl)) (.cons _ (.cons _ (List.Sublist.refl _))) ⟨_, rfl, ?_⟩
     rw [hr]
     exact ⟨⟨_, rfl, ht3⟩, rfl, by omega, hk2⟩
 ·intro K hK
  have hr := tread_applied l i
  refine r_sr <| r_ev rfl rfl ?_
  refine r_callO 2 rfl rfl rfl (Kind5_spec g l lv hs b (.good i) 2) ?_
  rw [show RS.kindIs l 2 (.good i) = kindAt l i 2 from rfl]
  cases h2 : kindAt l i 2 with
  | false =>
   have hr' : tread l .applied i = tread l .atom i := by
    rw [hr]
    by_cases hlt : i < l.length
    ·rw [kindAt_lt hlt] at h2
     rw [toks_some hlt]
     simp only
     rw [if_neg (of_decide_eq_false h2)]
    ·rw [List.getElem?_eq_none (by omega)]
   refine r_nn <| r_cond_false rfl <| r_region <| r_ev rfl rfl ?_
   refine r_callL 2 rfl rfl rfl (hA g i hs hi hm) ?_
   rintro v g1 r' hw hle
   cases hq : tread l .atom i with
   | error p =>
    rw [hq] at hw
    obtain ⟨⟨t, hty⟩, j, hj, rfl⟩ := hw
    obtain ⟨a, m', c, rfl, ht⟩ := hty.cells5
    refine r_storeA 0 rfl rfl rfl rfl (by rfl) (by repeat' (first | exact rfl | assumption | refine all_cons ?_ ?_)) rfl ?_; refine r_nn ?_
    exact hK (t, .slice a m' c, .bad j p, g1) _ ⟨hle, ht, by simp only; rw [hr', hq]; exact ⟨j, hj, rfl⟩⟩ ⟨rfl, rfl, rfl, trivial⟩
   | ok q =>
    obtain ⟨t, j⟩ := q
    rw [hq] at hw
    obtain ⟨hty, rfl, hj1, hj2⟩ := hw
    obtain ⟨a, m', c, rfl, ht⟩ := hty.cells5
    refine r_storeA 0 rfl rfl rfl rfl (by rfl) (by repeat' (first | exact rfl | assumption | refine all_cons ?_ ?_)) rfl ?_; refine r_nn ?_
    exact hK (t, .slice a m' c, .good j, g1) _ ⟨hle, ht, by simp only; rw [hr', hq]; exact ⟨rfl, rfl, hj1, hj2⟩⟩ ⟨rfl, rfl, rfl, trivial⟩
  | true =>
   have hlt : i < l.length := by
    by_cases h : i < l.length
    ·exact h
    ·rw [kindAt_ge h] at h2; cases h2
   rw [kindAt_lt hlt] at h2
   have h2' : l[i].kind = 2 := of_decide_eq_true h2
   rw [toks_some hlt] at hr
   simp only [h2', if_true] at hr
   have e1 : RS.word l 2 (.good i) = .good (i + 1) := by simp [RS.word, kindAt_lt hlt, h2']
   have e2 : RS.text l 2 (.good i) = l[i].text := by
    show (match l[i]? with | some t => if t.kind = 2 then t.text else [] | none => []) = _
    rw [toks_some hlt]; simp [h2']
   refine r_nn <| r_cond_true rfl <| r_sr <| r_ev rfl rfl ?_
   refine r_callL 2 rfl rfl rfl (Word5_spec g l hb lv hs b (.good i) hi 2) ?_
   rintro v g' r' ⟨rfl, rfl, rfl⟩ _
   rw [e1, e2]
   refine r_callP rfl rfl (rCon0_spec g' l[i].text) ?_
   refine r_storeA 0 rfl rfl rfl rfl (by rfl) (by repeat' (first | exact rfl | assumption | refine all_cons ?_ ?_)) rfl ?_; refine r_nn <| r_block ?_
   refine r_nilRow 49 5 ?_
   refine r_loop (ι := RS × List Ty × Value × List Value × Ghost) (fun p => [(0, ptr b 0), (2, ptr b2 0), (3, ptr b3 0)]) (fun p => p.2.2.2.2)
    (fun p => [.row 49 5 p.2.2.1 p.2.1.length p.2.2.2.1, .blk b3 49 (tyCells (conT l[i].text []) p.2.2.1), .blk b2 49 [.int .i64 0, str [], .int .i64 0, .int .i64 0, .slice none 0 0], rdB b lv p.1])
    (fun p => oneC p.2.2.1 = true ∧ p.2.1.length ≤ l.length ∧ TysAt p.2.2.2.2 p.2.1 p.2.2.2.1 ∧ Ghost.le g' p.2.2.2.2 ∧ (∃ a m c, p.2.2.1 = .slice a m c) ∧ match p.1 with
     | .good j => i + 1 ≤ j ∧ j ≤ l.length ∧ p.2.1.length ≤ j ∧ tread l .applied i = tread l (.args l[i].text p.2.1) j
     | .bad j q => j ≤ l.length ∧ tread l .applied i = .error q)
    (fun p => match p.1 with
     | .good j => l.length - j + 1
     | .bad _ _ => 0) (.good (i + 1), [], .slice none 0 0, [], g')
    ⟨rfl, by simp, tysNil g', Ghost.le_refl _, ⟨_, _, _, rfl⟩, Nat.le_refl _, hlt, by simp, hr⟩ ⟨rfl, rfl, rfl, trivial⟩ rfl rfl ?_
   rintro ⟨s, ta, slv, xs, g2⟩ ⟨k1, k2, k3, k4, ⟨sa, sm, sc, k5⟩, k6⟩
   simp only at k1 k2 k3 k4 k5 k6
   subst k5
   show Run E _ [(0, ptr b 0), (2, ptr b2 0), (3, ptr b3 0)] g2 [.row 49 5 (.slice sa sm sc) ta.length xs, .blk b3 49 (tyCells (conT l[i].text []) (.slice sa sm sc)), .blk b2 49 [.int .i64 0, str [], .int .i64 0, .int .i64 0, .slice none 0 0], rdB b lv s] _
   have hs2 := hs.mono k4
   cases s with
   | bad j q =>
    simp only at k6
    refine r_seq <| r_sr <| r_ev rfl rfl ?_
    refine r_callO 3 rfl rfl rfl (Atoms5_spec g2 l lv hs2 b (.bad j q)) ?_
    refine r_nn <| r_cond_false rfl <| r_exit <| r_then_exit <| r_then_exit <| r_in_exit <| r_then_normal ?_
    refine r_publishRow (fun g3 hg3 hs3 => ?_)
    skip
    exact hK (conT l[i].text ta, .slice sa sm sc, .bad j q, g3) _ ⟨Ghost.le_trans k4 hg3, TyAt.mk (t := conT l[i].text ta) hs3 (k3.mono hg3), by simp only; rw [k6.2]; exact ⟨j, k6.1, rfl⟩⟩ ⟨rfl, rfl, rfl, trivial⟩
   | good j =>
    obtain ⟨k6, k7, k8, k9⟩ := k6
    have hra := tread_args l l[i].text ta j
    have hst : (RS.kindIs l 1 (.good j) || RS.kindIs l 2 (.good j) || RS.isIs l [40] (.good j)) = startsAt l j := by
     show (kindAt l j 1 || kindAt l j 2 || isAt l j [40]) = _
     rw [isAt_mark hkw (by decide)]
     unfold startsAt startsT markAt tokAt kindAt
     cases l[j]? <;> rfl
    refine r_seq <| r_sr <| r_ev rfl rfl ?_
    refine r_callO 3 rfl rfl rfl (Atoms5_spec g2 l lv hs2 b (.good j)) ?_
    rw [hst]
    cases hst : startsAt l j with
    | false =>
     rw [hst] at hra
     refine r_nn <| r_cond_false rfl <| r_exit <| r_then_exit <| r_then_exit <| r_in_exit <| r_then_normal ?_
     refine r_publishRow (fun g3 hg3 hs3 => ?_)
     skip
     exact hK (conT l[i].text ta, .slice sa sm sc, .good j, g3) _ ⟨Ghost.le_trans k4 hg3, TyAt.mk (t := conT l[i].text ta) hs3 (k3.mono hg3), by simp only; rw [k9, hra]; exact ⟨rfl, rfl, by omega, k7⟩⟩ ⟨rfl, rfl, rfl, trivial⟩
    | true =>
     have hjl := startsAt_lt hst
     rw [hst] at hra
     simp only [if_true] at hra
     refine r_nn <| r_cond_true rfl <| r_skip <| r_then_normal <| r_block ?_
     refine m_begin 6 [3, 0] mixed (by kernel_rfl) (fun hG => ?_)
     refine m_takeXA 0 rfl (by kernel_rfl) rfl hG ?_; refine ⟨_, (val_fieldAddr rfl), ?_⟩; refine m_takeXA 1 rfl (by kernel_rfl) rfl hG ?_; refine ⟨_, (val_loadB1 0 rfl rfl rfl), ?_⟩; refine m_takeXA 2 rfl (by kernel_rfl) rfl hG ?_; refine ⟨_, (val_ev rfl), ?_⟩
     refine m_one 3 (by kernel_rfl) rfl rfl ?_
     refine r_callL 3 rfl rfl rfl (hA g2 j hs2 k7 (by omega)) ?_
     rintro w g3 r' hw hle3
     cases hq : tread l .atom j with
     | error p =>
      rw [hq] at hw hra
      simp only at hra
      obtain ⟨⟨t', hty'⟩, j', hj', rfl⟩ := hw
      obtain ⟨a2, m2, c2, rfl, ht2⟩ := hty'.cells5
      refine r_nn ?_
      refine h_keptA hG ?_
      refine m_one 4 (by kernel_rfl) rfl rfl ?_
      refine r_buildSlice rfl rfl (by rfl) (by rfl) (by rfl) (by rfl) (by rfl) (fun b5 => ?_)
      refine r_nn ?_
      refine h_keptA hG ?_
      refine m_one 5 (by kernel_rfl) rfl rfl ?_
      refine r_appendRow 1 0 rfl rfl rfl rfl rfl (by rfl) (by rfl) rfl (by unfold maxLen; omega) (by omega) (fun v' hv' => ?_)
      refine r_rowForm 1 rfl ?_
      rintro ⟨va, vm, vc, rfl⟩
      refine r_nn ?_
      refine h_keptA hG ?_
      refine m_done (by kernel_rfl) ?_
      refine r_fieldAddr rfl rfl <| r_store1 2 rfl rfl rfl (cells_one (by assumption)) (by repeat' (first | exact rfl | assumption | refine all_cons ?_ ?_)) rfl ?_; refine r_nil <| r_in_normal <| r_then_normal ?_
      -- STOP1
      refine r_drop (own' := [_, _, _, _]) (.cons _ (List.Sublist.refl _)) ?_
      refine r_again (RS.bad j' p, ta ++ [t'], .slice va vm vc, xs ++ tyCells t' (.slice a2 m2 c2), g3) ⟨rfl, by simp; omega, TysAt.snoc ht2 (k3.mono hle3), Ghost.le_trans k4 hle3, ⟨_, _, _, rfl⟩, hj', by rw [k9, hra]⟩ (by simp only; omega) ⟨rfl, rfl, rfl, trivial⟩ rfl ?_
      simp [tyCells, repN]
     | ok q =>
      obtain ⟨x, j'⟩ := q
      rw [hq] at hw hra
      simp only at hra
      obtain ⟨hty', rfl, hj1', hj2'⟩ := hw
      rw [if_pos hj1'] at hra
      obtain ⟨a2, m2, c2, rfl, ht2⟩ := hty'.cells5
      refine r_nn ?_
      refine h_keptA hG ?_
      refine m_one 4 (by kernel_rfl) rfl rfl ?_
      refine r_buildSlice rfl rfl (by rfl) (by rfl) (by rfl) (by rfl) (by rfl) (fun b5 => ?_)
      refine r_nn ?_
      refine h_keptA hG ?_
      refine m_one 5 (by kernel_rfl) rfl rfl ?_
      refine r_appendRow 1 0 rfl rfl rfl rfl rfl (by rfl) (by rfl) rfl (by unfold maxLen; omega) (by omega) (fun v' hv' => ?_)
      refine r_rowForm 1 rfl ?_
      rintro ⟨va, vm, vc, rfl⟩
      refine r_nn ?_
      refine h_keptA hG ?_
      refine m_done (by kernel_rfl) ?_
      refine r_fieldAddr rfl rfl <| r_store1 2 rfl rfl rfl (cells_one (by assumption)) (by repeat' (first | exact rfl | assumption | refine all_cons ?_ ?_)) rfl ?_; refine r_nil <| r_in_normal <| r_then_normal ?_
      refine r_drop (own' := [_, _, _, _]) (.cons _ (List.Sublist.refl _)) ?_
      refine r_again (RS.good j', ta ++ [x], .slice va vm vc, xs ++ tyCells x (.slice a2 m2 c2), g3) ⟨rfl, by simp; omega, TysAt.snoc ht2 (k3.mono hle3), Ghost.le_trans k4 hle3, ⟨_, _, _, rfl⟩, by omega, hj2', by simp; omega, by rw [k9, hra]⟩ (by simp only; omega) ⟨rfl, rfl, rfl, trivial⟩ rfl ?_
      simp [tyCells, repN]
theorem read5_all {l : List Tok} (hb : TB l) (hkw : KW l) (lv : Value) (b : Nat) : ∀ m : Nat,
  (∀ g i, ToksAt g lv l → i ≤ l.length → l.length - i < m → SpecL Tryz.prog 80 [ptr b 0] g (rdB b lv (.good i)) (post5 l i b lv (tread l .whole i))) ∧
  (∀ g i, ToksAt g lv l → i ≤ l.length → l.length - i < m → SpecL Tryz.prog 97 [ptr b 0] g (rdB b lv (.good i)) (post5 l i b lv (tread l .atom i)))
 | 0 => ⟨fun _ _ _ _ h => by omega, fun _ _ _ _ h => by omega⟩
 | m + 1 => by
  have ih := read5_all hb hkw lv b m
  have hA := fun g i => Atom5_step hb hkw m lv b ih.1 g i
  exact ⟨fun g i => Type5_step hb hkw m lv b ih.1 hA g i, hA⟩
theorem Type5_spec {l : List Tok} (hb : TB l) (hkw : KW l) (g : Ghost) (lv : Value) (b i : Nat) (hs : ToksAt g lv l) (hi : i ≤ l.length) : SpecL Tryz.prog 80 [ptr b 0] g (rdB b lv (.good i)) (post5 l i b lv (tread l .whole i)) := (read5_all hb hkw lv b _).1 g i hs hi (Nat.lt_succ_self _)
theorem RAtom5_spec {l : List Tok} (hb : TB l) (hkw : KW l) (g : Ghost) (lv : Value) (b i : Nat) (hs : ToksAt g lv l) (hi : i ≤ l.length) : SpecL Tryz.prog 97 [ptr b 0] g (rdB b lv (.good i)) (post5 l i b lv (tread l .atom i)) := (read5_all hb hkw lv b _).2 g i hs hi (Nat.lt_succ_self _)
end Go.Proofs.YtpjehhnaojjanaaGreatDoor
-- sum 3fc5dca94351726b

/- What a scan's tokens are like: bounds, kinds. No program in sight. -/
namespace Go.Th
theorem scanGo_facts : ∀ (f i : Nat) (s : Bytes) (l : List Tok), scanGo f i s = .ok l → l.length ≤ s.length ∧ ∀ t ∈ l, t.kind = kindOf t.text ∧ kindOf t.text ≠ 0 ∧ (i : Int) ≤ t.pos ∧ t.pos + t.text.length ≤ (i + s.length : Nat)
 | 0, _, _, l, h => by
  simp only [scanGo, Except.ok.injEq] at h; subst h; simp
 | _ + 1, _, [], l, h => by
  simp only [scanGo, Except.ok.injEq] at h; subst h; simp
 | f + 1, i, c :: r, l, h => by
  simp only [scanGo] at h
  split at h
  ·have ih := scanGo_facts f (i + 1) r l h
   refine ⟨by simp; omega, fun t ht => ?_⟩
   obtain ⟨h1, h2, h3, h4⟩ := ih.2 t ht
   exact ⟨h1, h2, by omega, by simp only [List.length_cons]; omega⟩
  ·split at h
   ·have ih := scanGo_facts f _ _ l h
    have hle := commentLen_le (c :: r)
    rw [List.length_drop] at ih
    refine ⟨by omega, fun t ht => ?_⟩
    obtain ⟨h1, h2, h3, h4⟩ := ih.2 t ht
    exact ⟨h1, h2, by omega, by omega⟩
   ·split at h
    ·cases h
    ·rename_i hk
     split at h
     ·cases h
     ·rename_i l' hl
      simp only [Except.ok.injEq] at h
      subst h
      have ih := scanGo_facts f _ _ l' hl
      have hle := tokLen_le (c :: r)
      have hpos := tokLen_pos c r
      rw [List.length_drop] at ih
      refine ⟨by simp only [List.length_cons] at *; omega, fun t ht => ?_⟩
      rcases List.mem_cons.1 ht with rfl | ht
      ·refine ⟨rfl, hk, by simp, ?_⟩
       simp only [List.length_take]
       omega
      ·obtain ⟨h1, h2, h3, h4⟩ := ih.2 t ht
       exact ⟨h1, h2, by omega, by omega⟩
def toksOf (s : Bytes) : List Tok := match scan s with | .ok l => l | .bad _ _ => []
theorem toksOf_facts (s : Bytes) : (toksOf s).length ≤ 4000 ∧ ∀ t ∈ toksOf s, t.kind = kindOf t.text ∧ kindOf t.text ≠ 0 ∧ 0 ≤ t.pos ∧ t.pos + t.text.length ≤ 4000 := by
 unfold toksOf scan
 by_cases h : 4000 < s.length
 ·rw [if_pos h]; simp
 ·rw [if_neg h]
  cases hq : scanGo s.length 0 s with
  | error p => simp
  | ok l =>
   obtain ⟨h1, h2⟩ := scanGo_facts _ _ _ _ hq
   simp only
   refine ⟨by omega, fun t ht => ?_⟩
   obtain ⟨a1, a2, a3, a4⟩ := h2 t ht
   exact ⟨a1, a2, by omega, by omega⟩
end Go.Th
-- sum 166aa291451055b0

/- The walks of the reference's reader of expressions (typedholesref6): Starts, number, and what a failed reader gives. -/
namespace Go.Th
theorem numOf_snoc (s : Bytes) (c : UInt8) : numOf (s ++ [c]) = 10 * numOf s + (c.toNat - 48 : Int) := by
 simp [numOf, List.foldl_append]
theorem numOf_succ {s : Bytes} {k : Nat} (h : k < s.length) : numOf (s.take (k + 1)) = 10 * numOf (s.take k) + ((s[k]).toNat - 48 : Int) := by
 rw [List.take_succ_eq_append_getElem h, numOf_snoc]
theorem numOf_bound {s : Bytes} (h : ∀ c ∈ s, digit c = true) : ∀ k : Nat, k ≤ s.length → 0 ≤ numOf (s.take k) ∧ numOf (s.take k) < (10 ^ k : Nat)
 | 0, _ => by simp [numOf]
 | k + 1, hk => by
  have ih := numOf_bound h k (by omega)
  have hd := h _ (List.getElem_mem (show k < s.length by omega))
  simp only [digit, Bool.and_eq_true, decide_eq_true_eq] at hd
  rw [numOf_succ (by omega), Nat.pow_succ]
  omega
end Go.Th
namespace Go.Eng
open Go Go.RowKit
section
variable {P : Program} {E : Env} {n : Nat} {L : Slots} {g : Ghost} {own : List Res} {Q : Exit → Act → World → Prop} {ops : Array Oper} {rest : List Oper}
variable {d : Nat} {ty : TypeId} {pos : String} {after : Array Edge}
theorem val_sub8 {x y : Operand} {T T' : TypeId} {p q : Int} (hx : ev L x = some (.int .u8 p)) (hy : ev L y = some (.int .u8 q))
  (hb : 0 ≤ p - q ∧ p - q ≤ 255) : Val P E n L g own ty (.binOp .sub T x y T') (.int .u8 (p - q)) := fun a w dst pos after hF _ => by simp [execOp, hF.eval hx, hF.eval hy, eqGuard, binOp, Op.intArith, IntWalk.u8_in _ hb]
end
end Go.Eng
namespace Go.Proofs.YtpjehhnaojjanaaGreatDoor
open Go Go.Eng Go.Th Go.Proofs
set_option maxRecDepth 10000
set_option maxHeartbeats 4000000
attribute [local irreducible] wpList Code.wp Run bodyPost Go.Eng.Ends Exit.then Exit.inBlock Again Wq Kq
theorem startsE6_spec (g : Ghost) (t : Tok) : Pure Tryz.prog 121 [tokV t] g (.bool (startsE t)) := by
 refine spec_of_run Tryz.func121 rfl Tryz.ntmps121 rfl fun E hE => ?_
 refine r_sr ?_
 refine r_box rfl rfl rfl (fun b1 => ?_)
 refine r_ev rfl rfl <| r_nn <| r_seq <| r_sr <| r_fieldAddr rfl rfl <| r_loadB1 0 rfl rfl rfl rfl <| r_nn <| r_block <| r_seq <| r_sr <| r_ev rfl rfl <| r_ev rfl rfl <| r_nn ?_
 refine r_cond rfl (fun h1 => ?_) (fun h1 => ?_)
 ·refine r_skip <| r_then_normal ?_
  refine r_cond rfl (fun k1 => ?_) (fun k1 => ?_)
  ·refine r_sr <| r_ev rfl rfl <| r_nn <| r_retc <| r_in_ret <| r_then_ret ?_
   exact r_ret1 [] rfl rfl (by simp) ⟨by simp [startsE, h1], rfl, rfl⟩
  ·exact absurd h1 k1
 refine r_sr <| r_ev rfl rfl <| r_ev rfl rfl <| r_nn ?_
 refine r_cond rfl (fun h2 => ?_) (fun h2 => ?_)
 ·refine r_skip <| r_then_normal ?_
  refine r_cond rfl (fun k2 => ?_) (fun k2 => ?_)
  ·refine r_sr <| r_ev rfl rfl <| r_nn <| r_retc <| r_in_ret <| r_then_ret ?_
   exact r_ret1 [] rfl rfl (by simp) ⟨by simp [startsE, h2], rfl, rfl⟩
  ·exact absurd h2 k2
 refine r_region <| r_ev rfl rfl <| r_ev rfl rfl <| r_nn ?_
 refine r_cond rfl (fun h3 => ?_) (fun h3 => ?_)
 ·refine r_sr <| r_ev rfl rfl <| r_nn <| r_retc <| r_in_ret <| r_then_ret ?_
  exact r_ret1 [] rfl rfl (by simp) ⟨by simp [startsE, h3], rfl, rfl⟩
 refine r_sr <| r_ev rfl rfl <| r_ev rfl rfl <| r_nn ?_
 refine r_cond rfl (fun h5 => ?_) (fun h5 => ?_)
 ·refine r_sr <| r_fieldAddr rfl rfl <| r_loadB1 0 rfl rfl rfl rfl <| r_ev rfl rfl <| r_ev rfl rfl ?_
  refine r_gdec rfl rfl (fun h6 => ?_) (fun h6 => ?_)
  ·refine r_pass rfl rfl rfl <| r_pass rfl rfl rfl <| r_pass rfl rfl rfl <| r_ev rfl rfl <| r_ev rfl rfl <| r_pass rfl rfl rfl <| r_pass rfl rfl rfl <| r_pass rfl rfl rfl <| r_ev rfl rfl <| r_ev rfl rfl <| r_nn <| r_retc <| r_in_ret <| r_then_ret ?_
   exact r_ret1 [] rfl rfl (by simp) ⟨by simp [startsE, h5, h6], rfl, rfl⟩
  refine r_take rfl <| r_fieldAddr rfl rfl <| r_take rfl <| r_loadB1 0 rfl rfl rfl rfl <| r_tev rfl rfl rfl <| r_ev rfl rfl <| r_ev rfl rfl ?_
  refine r_gdec rfl rfl (fun h7 => ?_) (fun h7 => ?_)
  ·refine r_pass rfl rfl rfl <| r_pass rfl rfl rfl <| r_pass rfl rfl rfl <| r_ev rfl rfl <| r_ev rfl rfl <| r_nn <| r_retc <| r_in_ret <| r_then_ret ?_
   exact r_ret1 [] rfl rfl (by simp) ⟨by simp [startsE, h5, h7], rfl, rfl⟩
  refine r_take rfl <| r_fieldAddr rfl rfl <| r_take rfl <| r_loadB1 0 rfl rfl rfl rfl <| r_tev rfl rfl rfl <| r_ev rfl rfl <| r_ev rfl rfl <| r_nn <| r_retc <| r_in_ret <| r_then_ret ?_
  exact r_ret1 [] rfl rfl (by simp) ⟨by simp [startsE, h5, h6, h7], rfl, rfl⟩
 ·refine r_skip <| r_in_normal <| r_then_normal <| r_sr <| r_ev rfl rfl <| r_nn <| r_retc ?_
  exact r_ret1 [] rfl rfl (by simp) ⟨by simp [startsE, h1, h2, h3, h5], rfl, rfl⟩
theorem number_spec (g : Ghost) (s : Bytes) (hs : s.length ≤ 9) (hd : ∀ c ∈ s, digit c = true) : Pure Tryz.prog 159 [str s] g (.int .i64 (numOf s)) := by
 refine spec_of_run Tryz.func159 rfl Tryz.ntmps159 rfl fun E hE => ?_
 refine r_sr <| r_ev rfl rfl <| r_nn <| r_sr <| r_ev rfl rfl <| r_nn <| r_seq <| r_sr <| r_ev rfl rfl <| r_nn <| r_block ?_
 refine r_loop (ι := Nat) (fun k => [(0, str s), (3, .int .i64 (numOf (s.take k))), (4, .int .i64 k)]) (fun _ => g) (fun _ => []) (fun k => k ≤ s.length) (fun k => s.length - k) 0 (by omega) ⟨rfl, rfl, rfl, trivial⟩ rfl rfl ?_
 intro k hk
 have hb := numOf_bound hd k hk
 have h9 : 10 ^ k ≤ 10 ^ 9 := Nat.pow_le_pow_right (by omega) (by omega)
 have h99 : (10 : Nat) ^ 9 = 1000000000 := rfl
 refine r_seq <| r_sr <| r_ev rfl rfl <| r_ev rfl rfl <| r_len_str rfl rfl <| r_ev rfl rfl <| r_nn ?_
 refine r_cond rfl (fun hlt => ?_) (fun hlt => ?_)
 ·have hlt' : k < s.length := by omega
  have hc := hd _ (List.getElem_mem hlt')
  simp only [digit, Bool.and_eq_true, decide_eq_true_eq] at hc
  have hsucc := numOf_succ hlt'
  refine r_skip <| r_then_normal <| r_seq <| r_block <| r_region <| r_ev rfl rfl ?_
  refine r_mul rfl rfl rfl (by omega) ?_
  refine r_ev rfl rfl <| r_ev rfl rfl <| r_index_str rfl rfl rfl rfl (by omega) ?_
  refine r_v rfl (val_sub8 rfl rfl (by omega)) ?_
  refine r_conv_i64 rfl rfl (by omega) ?_
  refine r_add rfl rfl rfl (by omega) ?_; refine r_ev rfl rfl <| r_nil <| r_in_normal <| r_then_normal <| r_region <| r_ev rfl rfl <| r_add rfl rfl rfl (by omega) ?_; refine r_ev rfl rfl <| r_nn ?_
  exact r_again (k + 1) (by omega) (by omega) ⟨rfl, by rw [hsucc]; rfl, rfl, trivial⟩ rfl rfl
 ·have hkl : k = s.length := by omega
  subst hkl
  refine r_exit <| r_then_exit <| r_then_exit <| r_in_exit <| r_then_normal <| r_sr <| r_ev rfl rfl <| r_ev rfl rfl <| r_nn <| r_retc ?_
  exact r_ret1 [] rfl rfl (by simp) ⟨by rw [List.take_length], rfl, rfl⟩
end Go.Proofs.YtpjehhnaojjanaaGreatDoor
-- sum c411e9912e6f70d5

/- The walks of the reference's reader of expressions: a failed reader. -/
namespace Go.Proofs.YtpjehhnaojjanaaGreatDoor
open Go Go.Eng Go.Th Go.Proofs
set_option maxRecDepth 10000
set_option maxHeartbeats 4000000
attribute [local irreducible] wpList Code.wp Run bodyPost Go.Eng.Ends Exit.then Exit.inBlock Again Wq Kq
abbrev noEv : Value := .agg #[.int .i64 0, .int .i64 0, str [], .int .i64 0, .slice none 0 0, .slice none 0 0, .int .i64 0, str [], .int .i64 0, .int .i64 0, .slice none 0 0]
theorem noE_V (g : Ghost) : ExV g noEv noE := ⟨_, rfl, ExAt.mk (e := noE) (slNil g 11) (by unfold ExsAt; rfl) (slNil g 14) (by unfold ArsAt; rfl) (TyAt.mk (t := noT) (slNil g 5) (tysNil g))⟩
end Go.Proofs.YtpjehhnaojjanaaGreatDoor
-- sum d32386a7d92d5f71


/- The walks of the reference's reader (typedholesref5): Atom and Type read what the plain grammar reads. -/
import Derived.Test.YtblbbjhbigpgnaaDoorTypG
import Derived.Test.YtblbbjhbigpgnaaDoorOpsH
namespace Go.Proofs.YtblbbjhbigpgnaaDoor
open Go Go.Eng Go.Th Go.Proofs
set_option maxRecDepth 10000
set_option maxHeartbeats 4000000
attribute [local irreducible] wpList Code.wp Run bodyPost Go.Eng.Ends Exit.then Exit.inBlock Again Wq Kq
/-- The kinds of the tokens are those of their texts. -/
def KW (l : List Tok) : Prop := ∀ t ∈ l, t.kind = kindOf t.text
theorem isAt_mark {l : List Tok} (h : KW l) {w : Bytes} (hw : kindOf w = 5) (i : Nat) : isAt l i w = markAt l i w := by
  unfold isAt markAt
  have : tokAt l i 4 w = false := by
    unfold tokAt
    cases hl : l[i]? with
    | none => rfl
    | some t =>
      simp only [Bool.and_eq_false_iff, decide_eq_false_iff_not]
      by_cases hk : t.kind = 4
      · refine .inr fun ht => ?_
        have := h t (List.mem_of_getElem? hl)
        rw [ht, hw] at this
        omega
      · exact .inl hk
  rw [this, Bool.or_false]
theorem kindAt_lt {l : List Tok} {i : Nat} (h : i < l.length) (k : Int) : kindAt l i k = decide (l[i].kind = k) := by unfold kindAt; rw [toks_some h]
theorem kindAt_ge {l : List Tok} {i : Nat} (h : ¬ i < l.length) (k : Int) : kindAt l i k = false := by unfold kindAt; rw [List.getElem?_eq_none (by omega)]
def post5 (l : List Tok) (i : Nat) (b : Nat) (lv : Value) (r : TR) (v : Value) (g' : Ghost) (r' : Res) : Prop := match r with
  | .ok (t, j) => TyV g' v t ∧ r' = rdB b lv (.good j) ∧ i < j ∧ j ≤ l.length
  | .error p => (∃ t, TyV g' v t) ∧ ∃ j, j ≤ l.length ∧ r' = rdB b lv (.bad j p)
theorem rCon0_spec (g : Ghost) (name : Bytes) : Pure Tryd.prog 26 [str name, .slice none 0 0] g (.agg #[.int .i64 4, str name, .int .i64 0, .int .i64 0, .slice none 0 0]) := by
  refine spec_of_run Tryd.func26 rfl Tryd.ntmps26 rfl fun E hE => ?_
  refine r_sr ?_
  refine r_alloc rfl (fun b4 => ?_)
  refine r_nn ?_; refine r_sr ?_; refine r_ev rfl rfl ?_; refine r_ev rfl rfl ?_
  refine r_nilRow 30 5 ?_
  refine r_append0 0 rfl rfl rfl rfl ?_
  refine r_drop (own' := [_]) (List.sublist_cons_self _ _) ?_
  refine r_build rfl rfl (by rfl) ?_; refine r_storeA 0 rfl rfl rfl rfl (by rfl) (by repeat' (first | exact rfl | assumption | refine all_cons ?_ ?_)) rfl ?_; refine r_nn ?_; refine r_retc ?_
  exact r_retA [] rfl (res_blk 0 rfl rfl (by rfl)) (by simp) ⟨rfl, rfl, rfl⟩
theorem conT_V (g : Ghost) (name : Bytes) : TyV g (.agg #[.int .i64 4, str name, .int .i64 0, .int .i64 0, .slice none 0 0]) (conT name []) := TyV.of (t := conT name []) (slNil g 5) (tysNil g)
theorem Atom5_bad (g : Ghost) (l : List Tok) (hb : TB l) (lv : Value) (hs : ToksAt g lv l) (b i : Nat) (hi : i ≤ l.length) (p : Int) : SpecL Tryd.prog 44 [ptr b 0] g (rdB b lv (.bad i p)) fun v g' r' => (∃ t, TyV g' v t) ∧ r' = rdB b lv (.bad i p) := by
  refine spec_of_run Tryd.func44 rfl Tryd.ntmps44 rfl fun E hE => ?_
  refine r_sr ?_
  refine r_alloc rfl (fun b2 => ?_)
  refine r_nn ?_; refine r_seq ?_; refine r_block ?_; refine r_sr ?_; refine r_ev rfl rfl ?_
  refine r_callO 1 rfl rfl rfl (Kind5_spec g l lv hs b (.bad i p) 1) ?_
  refine r_ev rfl rfl ?_; refine r_nn ?_; refine r_cond_false rfl ?_; refine r_sr ?_; refine r_ev rfl rfl ?_
  refine r_callO 1 rfl rfl rfl (Kind5_spec g l lv hs b (.bad i p) 2) ?_
  refine r_ev rfl rfl ?_; refine r_nn ?_; refine r_cond_false rfl ?_; refine r_skip ?_; refine r_in_normal ?_; refine r_then_normal ?_; refine r_sr ?_; refine r_ev rfl rfl ?_
  refine r_callL 1 rfl rfl rfl (Need5_spec g l hb lv hs b (.bad i p) hi [40]) ?_
  rintro v g' r' ⟨rfl, rfl⟩ _
  refine r_nn ?_; refine r_seq ?_; refine r_sr ?_; refine r_ev rfl rfl ?_; refine r_ev rfl rfl ?_; refine r_fieldAddr rfl rfl ?_; refine r_loadB1 1 rfl rfl rfl rfl ?_; refine r_nn ?_; refine r_cond_true rfl ?_; refine r_sr ?_; refine r_build rfl rfl (by rfl) ?_; refine r_storeA 0 rfl rfl rfl rfl (by rfl) (by repeat' (first | exact rfl | assumption | refine all_cons ?_ ?_)) rfl ?_; refine r_nn ?_; refine r_retc ?_; refine r_then_ret ?_
  exact r_retA [_] rfl (res_blk 0 rfl rfl (by rfl)) (.cons _ (List.Sublist.refl _)) ⟨_, rfl, ⟨noT, noT_V g'⟩, rfl⟩
theorem Atom5_step {l : List Tok} (hb : TB l) (hkw : KW l) (m : Nat) (lv : Value) (b : Nat)
    (hW : ∀ g i, ToksAt g lv l → i ≤ l.length → l.length - i < m → SpecL Tryd.prog 42 [ptr b 0] g (rdB b lv (.good i)) (post5 l i b lv (tread l .whole i)))
    (g : Ghost) (i : Nat) (hs : ToksAt g lv l) (hi : i ≤ l.length) (hm : l.length - i < m + 1) : SpecL Tryd.prog 44 [ptr b 0] g (rdB b lv (.good i)) (post5 l i b lv (tread l .atom i)) := by
  have hb1 := hb.1
  have hr := tread_atom l i
  have hp : isAt l i [40] = markAt l i [40] := isAt_mark hkw (by decide) i
  refine spec_of_run Tryd.func44 rfl Tryd.ntmps44 rfl fun E hE => ?_
  refine r_sr ?_
  refine r_alloc rfl (fun b2 => ?_)
  refine r_nn ?_; refine r_seq ?_; refine r_block ?_; refine r_sr ?_; refine r_ev rfl rfl ?_
  refine r_callO 1 rfl rfl rfl (Kind5_spec g l lv hs b (.good i) 1) ?_
  rw [show RS.kindIs l 1 (.good i) = kindAt l i 1 from rfl]
  cases h1 : kindAt l i 1 with
  | true =>
    have hlt : i < l.length := by
      by_cases h : i < l.length
      · exact h
      · rw [kindAt_ge h] at h1; cases h1
    rw [kindAt_lt hlt] at h1
    have h1' : l[i].kind = 1 := of_decide_eq_true h1
    rw [toks_some hlt] at hr
    simp only [h1', if_true] at hr
    have e1 : RS.word l 1 (.good i) = .good (i + 1) := by simp [RS.word, kindAt_lt hlt, h1']
    have e2 : RS.text l 1 (.good i) = l[i].text := by
      show (match l[i]? with | some t => if t.kind = 1 then t.text else [] | none => []) = _
      rw [toks_some hlt]; simp [h1']
    refine r_ev rfl rfl ?_; refine r_nn ?_; refine r_cond_true rfl ?_; refine r_sr ?_; refine r_ev rfl rfl ?_
    refine r_callL 1 rfl rfl rfl (Word5_spec g l hb lv hs b (.good i) hi 1) ?_
    rintro v g' r' ⟨rfl, rfl, rfl⟩ _
    rw [e1, e2]
    refine r_callP rfl rfl (rNamed_spec g' l[i].text) ?_
    refine r_storeA 0 rfl rfl rfl rfl (by rfl) (by repeat' (first | exact rfl | assumption | refine all_cons ?_ ?_)) rfl ?_; refine r_nn ?_; refine r_retc ?_; refine r_in_ret ?_; refine r_then_ret ?_
    refine r_retA [_] rfl (res_blk 0 rfl rfl (by rfl)) (.cons _ (List.Sublist.refl _)) ⟨_, rfl, ?_⟩
    rw [hr]
    exact ⟨nameT_V g' _, rfl, by omega, by omega⟩
  | false =>
    refine r_ev rfl rfl ?_; refine r_nn ?_; refine r_cond_false rfl ?_; refine r_sr ?_; refine r_ev rfl rfl ?_
    refine r_callO 1 rfl rfl rfl (Kind5_spec g l lv hs b (.good i) 2) ?_
    rw [show RS.kindIs l 2 (.good i) = kindAt l i 2 from rfl]
    cases h2 : kindAt l i 2 with
    | true =>
      have hlt : i < l.length := by
        by_cases h : i < l.length
        · exact h
        · rw [kindAt_ge h] at h2; cases h2
      rw [kindAt_lt hlt] at h2
      have h2' : l[i].kind = 2 := of_decide_eq_true h2
      rw [toks_some hlt] at hr
      simp only [h2'] at hr
      have e1 : RS.word l 2 (.good i) = .good (i + 1) := by simp [RS.word, kindAt_lt hlt, h2']
      have e2 : RS.text l 2 (.good i) = l[i].text := by
        show (match l[i]? with | some t => if t.kind = 2 then t.text else [] | none => []) = _
        rw [toks_some hlt]; simp [h2']
      refine r_ev rfl rfl ?_; refine r_nn ?_; refine r_cond_true rfl ?_; refine r_sr ?_; refine r_ev rfl rfl ?_
      refine r_callL 1 rfl rfl rfl (Word5_spec g l hb lv hs b (.good i) hi 2) ?_
      rintro v g' r' ⟨rfl, rfl, rfl⟩ _
      rw [e1, e2]
      refine r_callP rfl rfl (rCon0_spec g' l[i].text) ?_
      refine r_storeA 0 rfl rfl rfl rfl (by rfl) (by repeat' (first | exact rfl | assumption | refine all_cons ?_ ?_)) rfl ?_; refine r_nn ?_; refine r_retc ?_; refine r_in_ret ?_; refine r_then_ret ?_
      refine r_retA [_] rfl (res_blk 0 rfl rfl (by rfl)) (.cons _ (List.Sublist.refl _)) ⟨_, rfl, ?_⟩
      rw [hr]
      exact ⟨conT_V g' _, rfl, by omega, by omega⟩
    | false =>
      refine r_ev rfl rfl ?_; refine r_nn ?_; refine r_cond_false rfl ?_; refine r_skip ?_; refine r_in_normal ?_; refine r_then_normal ?_; refine r_sr ?_; refine r_ev rfl rfl ?_
      refine r_callL 1 rfl rfl rfl (Need5_spec g l hb lv hs b (.good i) hi [40]) ?_
      rintro v g' r' ⟨rfl, rfl⟩ _
      cases hmk : markAt l i [40] with
      | false =>
        have e1 : RS.need l [40] (.good i) = .bad i (failPos l i) := by simp [RS.need, hp, hmk]
        have hr' : tread l .atom i = .error (failPos l i) := by
          rw [hr]
          by_cases hlt : i < l.length
          · rw [toks_some hlt]
            rw [kindAt_lt hlt] at h1 h2
            have h1' : ¬ l[i].kind = 1 := of_decide_eq_false h1
            have h2' : ¬ l[i].kind = 2 := of_decide_eq_false h2
            have h5' : ¬ (l[i].kind = 5 ∧ l[i].text = [40]) := by
              unfold markAt tokAt at hmk
              rw [toks_some hlt] at hmk
              intro h
              simp [h.1, h.2] at hmk
            simp only
            rw [if_neg h1', if_neg h2', if_neg h5']
          · rw [List.getElem?_eq_none (by omega)]
        rw [e1]
        refine r_nn ?_; refine r_seq ?_; refine r_sr ?_; refine r_ev rfl rfl ?_; refine r_ev rfl rfl ?_; refine r_fieldAddr rfl rfl ?_; refine r_loadB1 1 rfl rfl rfl rfl ?_; refine r_nn ?_; refine r_cond_true rfl ?_; refine r_sr ?_; refine r_build rfl rfl (by rfl) ?_; refine r_storeA 0 rfl rfl rfl rfl (by rfl) (by repeat' (first | exact rfl | assumption | refine all_cons ?_ ?_)) rfl ?_; refine r_nn ?_; refine r_retc ?_; refine r_then_ret ?_
        refine r_retA [_] rfl (res_blk 0 rfl rfl (by rfl)) (.cons _ (List.Sublist.refl _)) ⟨_, rfl, ?_⟩
        rw [hr']
        exact ⟨⟨noT, noT_V g'⟩, i, hi, rfl⟩
      | true =>
        have hlt := tokAt_lt hmk
        have e1 : RS.need l [40] (.good i) = .good (i + 1) := by simp [RS.need, hp, hmk]
        rw [toks_some hlt] at hr
        rw [kindAt_lt hlt] at h1 h2
        have h1' : ¬ l[i].kind = 1 := of_decide_eq_false h1
        have h2' : ¬ l[i].kind = 2 := of_decide_eq_false h2
        have h5' : l[i].kind = 5 ∧ l[i].text = [40] := by
          unfold markAt tokAt at hmk
          rw [toks_some hlt] at hmk
          simpa using hmk
        simp only at hr
        rw [if_neg h1', if_neg h2', if_pos h5'] at hr
        rw [e1]
        refine r_nn ?_; refine r_seq ?_; refine r_sr ?_; refine r_ev rfl rfl ?_; refine r_ev rfl rfl ?_; refine r_fieldAddr rfl rfl ?_; refine r_loadB1 1 rfl rfl rfl rfl ?_; refine r_nn ?_; refine r_cond_false rfl ?_; refine r_skip ?_; refine r_then_normal ?_; refine r_sr ?_; refine r_ev rfl rfl ?_
        refine r_callL 1 rfl rfl rfl (hW g' (i + 1) hs (by omega) (by omega)) ?_
        rintro v g1 r' hw hle
        have hs1 := hs.mono hle
        cases hq : tread l .whole (i + 1) with
        | error p =>
          rw [hq] at hw hr
          simp only at hr
          obtain ⟨⟨t, hty⟩, j, hj, rfl⟩ := hw
          obtain ⟨a, m', c, rfl, ht⟩ := hty.cells5
          skip
          refine r_alloc rfl (fun b3 => ?_)
          refine r_storeA 0 rfl rfl rfl rfl (by rfl) (by repeat' (first | exact rfl | assumption | refine all_cons ?_ ?_)) rfl ?_; refine r_nn ?_; refine r_sr ?_; refine r_ev rfl rfl ?_
          refine r_callL 2 rfl rfl rfl (Need5_spec g1 l hb lv hs1 b (.bad j p) hj [41]) ?_
          rintro v g2 r' ⟨rfl, rfl⟩ _
          refine r_nn ?_; refine r_sr ?_; refine r_loadB 0 rfl rfl rfl (by rfl) ?_; refine r_storeA 1 rfl rfl rfl rfl (by rfl) (by repeat' (first | exact rfl | assumption | refine all_cons ?_ ?_)) rfl ?_; refine r_nn ?_; refine r_retc ?_
          refine r_retA [_] rfl (res_blk 1 rfl rfl (by rfl)) (.cons _ (.cons _ (List.Sublist.refl _))) ⟨_, rfl, ?_⟩
          rw [hr]
          exact ⟨⟨t, _, rfl, ht⟩, j, hj, rfl⟩
        | ok q =>
          obtain ⟨t, j⟩ := q
          rw [hq] at hw hr
          simp only at hr
          obtain ⟨hty, rfl, hj1, hj2⟩ := hw
          obtain ⟨a, m', c, rfl, ht⟩ := hty.cells5
          have hp2 : isAt l j [41] = markAt l j [41] := isAt_mark hkw (by decide) j
          skip
          refine r_alloc rfl (fun b3 => ?_)
          refine r_storeA 0 rfl rfl rfl rfl (by rfl) (by repeat' (first | exact rfl | assumption | refine all_cons ?_ ?_)) rfl ?_; refine r_nn ?_; refine r_sr ?_; refine r_ev rfl rfl ?_
          refine r_callL 2 rfl rfl rfl (Need5_spec g1 l hb lv hs1 b (.good j) hj2 [41]) ?_
          rintro v g2 r' ⟨rfl, rfl⟩ _
          cases hk : markAt l j [41] with
          | true =>
            rw [hk] at hr
            have := tokAt_lt hk
            have e2 : RS.need l [41] (.good j) = .good (j + 1) := by simp [RS.need, hp2, hk]
            rw [e2]
            refine r_nn ?_; refine r_sr ?_; refine r_loadB 0 rfl rfl rfl (by rfl) ?_; refine r_storeA 1 rfl rfl rfl rfl (by rfl) (by repeat' (first | exact rfl | assumption | refine all_cons ?_ ?_)) rfl ?_; refine r_nn ?_; refine r_retc ?_
            refine r_retA [_] rfl (res_blk 1 rfl rfl (by rfl)) (.cons _ (.cons _ (List.Sublist.refl _))) ⟨_, rfl, ?_⟩
            rw [hr]
            exact ⟨⟨_, rfl, ht⟩, rfl, by omega, by omega⟩
          | false =>
            rw [hk] at hr
            have e2 : RS.need l [41] (.good j) = .bad j (failPos l j) := by simp [RS.need, hp2, hk]
            rw [e2]
            refine r_nn ?_; refine r_sr ?_; refine r_loadB 0 rfl rfl rfl (by rfl) ?_; refine r_storeA 1 rfl rfl rfl rfl (by rfl) (by repeat' (first | exact rfl | assumption | refine all_cons ?_ ?_)) rfl ?_; refine r_nn ?_; refine r_retc ?_
            refine r_retA [_] rfl (res_blk 1 rfl rfl (by rfl)) (.cons _ (.cons _ (List.Sublist.refl _))) ⟨_, rfl, ?_⟩
            rw [hr]
            exact ⟨⟨t, _, rfl, ht⟩, j, hj2, rfl⟩
end Go.Proofs.YtblbbjhbigpgnaaDoor
-- sum adf1d1d3c2159130

/- The walks of the reference's reader (typedholesref5): Type, and the joint induction. -/
import Derived.Test.YtblbbjhbigpgnaaDoorTypH
namespace Go.Eng
open Go
section
variable {P : Program} {E : Env} {n : Nat} {L : Slots} {g : Ghost} {own : List Res} {Q : Exit → Act → World → Prop}
/-- As r_cut, with memory that has grown in between. -/
theorem r_cutG {ι : Type} (Lf : ι → Slots) (gf : ι → Ghost) (of : ι → List Res) (φ : ι → Prop) {x y : Code} (h2 : ∀ p, φ p → Run E n (Lf p) (gf p) (of p) (y.wp P Q))
    (h1 : ∀ K : Act → World → Prop, (∀ p L'', φ p → Sub (Lf p) L'' → Run E n L'' (gf p) (of p) K) → Run E n L g own (x.wp P (Exit.then K Q))) : Run E n L g own ((Code.seq x y).wp P Q) :=
  r_seq (h1 _ fun p _ hφ hs => r_sub (Lf p) hs (h2 p hφ))
theorem r_rowForm {X : Act → World → Prop} {T : TypeId} {size m : Nat} {v : Value} {xs : List Value} (i : Nat) (h : own[i]? = some (.row T size v m xs)) (k : (∃ a m c, v = .slice a m c) → Run E n L g own X) : Run E n L g own X := fun a w hF hI => by
  have hs : w.ownsRow 0 T size v m xs := sat_at hI h
  refine k ?_ a w hF hI
  rcases hs.2 with ⟨rfl, _⟩ | ⟨b, cap, cur, rfl, _⟩
  · exact ⟨_, _, _, rfl⟩
  · exact ⟨_, _, _, rfl⟩
end
end Go.Eng
namespace Go.Proofs.YtblbbjhbigpgnaaDoor
open Go Go.Eng Go.Th Go.Proofs
set_option maxRecDepth 10000
set_option maxHeartbeats 4000000
attribute [local irreducible] wpList Code.wp Run bodyPost Go.Eng.Ends Exit.then Exit.inBlock Again Wq Kq
theorem Type5_bad (g : Ghost) (l : List Tok) (hb : TB l) (lv : Value) (hs : ToksAt g lv l) (b i : Nat) (hi : i ≤ l.length) (p : Int) : SpecL Tryd.prog 42 [ptr b 0] g (rdB b lv (.bad i p)) fun v g' r' => (∃ t, TyV g' v t) ∧ r' = rdB b lv (.bad i p) := by
  refine spec_of_run Tryd.func42 rfl Tryd.ntmps42 rfl fun E hE => ?_
  refine r_sr ?_
  refine r_alloc rfl (fun b2 => ?_)
  refine r_nn ?_; refine r_sr ?_
  refine r_alloc rfl (fun b3 => ?_)
  refine r_nn ?_; refine r_seq ?_; refine r_sr ?_; refine r_ev rfl rfl ?_
  refine r_callO 2 rfl rfl rfl (Kind5_spec g l lv hs b (.bad i p) 2) ?_
  refine r_nn ?_; refine r_cond_false rfl ?_; refine r_region ?_; refine r_ev rfl rfl ?_
  refine r_callL 2 rfl rfl rfl (Atom5_bad g l hb lv hs b i hi p) ?_
  rintro v g1 r' ⟨⟨t, hty⟩, rfl⟩ hle
  obtain ⟨a, m', c, rfl, ht⟩ := hty.cells5
  refine r_storeA 0 rfl rfl rfl rfl (by rfl) (by repeat' (first | exact rfl | assumption | refine all_cons ?_ ?_)) rfl ?_; refine r_nn ?_; refine r_seq ?_; refine r_sr ?_; refine r_ev rfl rfl ?_
  refine r_callL 2 rfl rfl rfl (Skip5_spec g1 l hb lv (hs.mono hle) b (.bad i p) hi arrowB) ?_
  rintro v g2 r' ⟨rfl, rfl, rfl⟩ _
  refine r_nn ?_; refine r_cond_false rfl ?_; refine r_skip ?_; refine r_then_normal ?_; refine r_sr ?_; refine r_loadB 0 rfl rfl rfl (by rfl) ?_; refine r_storeA 1 rfl rfl rfl rfl (by rfl) (by repeat' (first | exact rfl | assumption | refine all_cons ?_ ?_)) rfl ?_; refine r_nn ?_; refine r_retc ?_
  exact r_retA [_] rfl (res_blk 1 rfl rfl (by rfl)) (.cons _ (.cons _ (List.Sublist.refl _))) ⟨_, rfl, ⟨t, _, rfl, ht⟩, rfl⟩
/-- The state behind the part of a type that stands ahead of an arrow. -/
def appS (l : List Tok) (i : Nat) (t : Ty) : TR → RS → Prop
  | .ok (t', j), s => t' = t ∧ s = .good j ∧ i < j ∧ j ≤ l.length
  | .error p, s => ∃ j, j ≤ l.length ∧ s = .bad j p
theorem Type5_step {l : List Tok} (hb : TB l) (hkw : KW l) (m : Nat) (lv : Value) (b : Nat)
    (hW : ∀ g i, ToksAt g lv l → i ≤ l.length → l.length - i < m → SpecL Tryd.prog 42 [ptr b 0] g (rdB b lv (.good i)) (post5 l i b lv (tread l .whole i)))
    (hA : ∀ g i, ToksAt g lv l → i ≤ l.length → l.length - i < m + 1 → SpecL Tryd.prog 44 [ptr b 0] g (rdB b lv (.good i)) (post5 l i b lv (tread l .atom i)))
    (g : Ghost) (i : Nat) (hs : ToksAt g lv l) (hi : i ≤ l.length) (hm : l.length - i < m + 1) : SpecL Tryd.prog 42 [ptr b 0] g (rdB b lv (.good i)) (post5 l i b lv (tread l .whole i)) := by
  have hb1 := hb.1
  refine spec_of_run Tryd.func42 rfl Tryd.ntmps42 rfl fun E hE => ?_
  refine r_sr ?_
  refine r_alloc rfl (fun b2 => ?_)
  refine r_nn ?_
  refine r_sr ?_
  refine r_alloc rfl (fun b3 => ?_)
  refine r_nn ?_
  refine r_cutG (ι := Ty × Value × RS × Ghost) (fun p => [(0, ptr b 0), (2, ptr b2 0), (3, ptr b3 0)]) (fun p => p.2.2.2)
    (fun p => [.blk b3 30 (tyCells p.1 p.2.1), .blk b2 30 [.int .i64 0, str [], .int .i64 0, .int .i64 0, .slice none 0 0], rdB b lv p.2.2.1])
    (fun p => Ghost.le g p.2.2.2 ∧ TyAt p.2.2.2 p.1 (tyCells p.1 p.2.1) ∧ appS l i p.1 (tread l .applied i) p.2.2.1) ?_ ?_
  · rintro ⟨t, sl, s, g1⟩ ⟨k1, k2, k3⟩
    simp only at k1 k2 k3
    have hr := tread_whole l i
    have hs1 := hs.mono k1
    obtain ⟨_, hsl, _⟩ := k2.args
    obtain ⟨a, m', c, rfl⟩ := SlAt.form hsl
    show Run E _ [(0, ptr b 0), (2, ptr b2 0), (3, ptr b3 0)] g1 [.blk b3 30 (tyCells t (.slice a m' c)), .blk b2 30 [.int .i64 0, str [], .int .i64 0, .int .i64 0, .slice none 0 0], rdB b lv s] _
    cases hq : tread l .applied i with
    | error p =>
      rw [hq] at k3 hr
      simp only at hr
      obtain ⟨j, hj, rfl⟩ := k3
      refine r_seq ?_; refine r_sr ?_; refine r_ev rfl rfl ?_
      refine r_callL 2 rfl rfl rfl (Skip5_spec g1 l hb lv hs1 b (.bad j p) hj arrowB) ?_
      rintro v g2 r' ⟨rfl, rfl, rfl⟩ _
      refine r_nn ?_; refine r_cond_false rfl ?_; refine r_skip ?_; refine r_then_normal ?_; refine r_sr ?_; refine r_loadB 0 rfl rfl rfl (by rfl) ?_; refine r_storeA 1 rfl rfl rfl rfl (by rfl) (by repeat' (first | exact rfl | assumption | refine all_cons ?_ ?_)) rfl ?_; refine r_nn ?_; refine r_retc ?_
      refine r_retA [_] rfl (res_blk 1 rfl rfl (by rfl)) (.cons _ (.cons _ (List.Sublist.refl _))) ⟨_, rfl, ?_⟩
      rw [hr]
      exact ⟨⟨t, _, rfl, k2⟩, j, hj, rfl⟩
    | ok q =>
      obtain ⟨t', j⟩ := q
      rw [hq] at k3 hr
      obtain ⟨rfl, rfl, hj1, hj2⟩ := k3
      simp only at hr
      have hp : isAt l j arrowB = markAt l j arrowB := isAt_mark hkw (by decide) j
      refine r_seq ?_; refine r_sr ?_; refine r_ev rfl rfl ?_
      refine r_callL 2 rfl rfl rfl (Skip5_spec g1 l hb lv hs1 b (.good j) hj2 arrowB) ?_
      rintro v g2 r' ⟨rfl, rfl, rfl⟩ _
      rw [show RS.isIs l arrowB (.good j) = markAt l j arrowB from hp]
      cases hk : markAt l j arrowB with
      | false =>
        rw [hk] at hr
        have e1 : RS.skip l arrowB (.good j) = .good j := by simp [RS.skip, hp, hk]
        rw [e1]
        refine r_nn ?_; refine r_cond_false rfl ?_; refine r_skip ?_; refine r_then_normal ?_; refine r_sr ?_; refine r_loadB 0 rfl rfl rfl (by rfl) ?_; refine r_storeA 1 rfl rfl rfl rfl (by rfl) (by repeat' (first | exact rfl | assumption | refine all_cons ?_ ?_)) rfl ?_; refine r_nn ?_; refine r_retc ?_
        refine r_retA [_] rfl (res_blk 1 rfl rfl (by rfl)) (.cons _ (.cons _ (List.Sublist.refl _))) ⟨_, rfl, ?_⟩
        rw [hr]
        exact ⟨⟨_, rfl, k2⟩, rfl, hj1, hj2⟩
      | true =>
        rw [hk] at hr
        have hjl := tokAt_lt hk
        simp only [if_true] at hr
        rw [if_pos (by omega)] at hr
        have e1 : RS.skip l arrowB (.good j) = .good (j + 1) := by simp [RS.skip, hp, hk]
        rw [e1]
        refine r_nn ?_; refine r_cond_true rfl ?_; refine r_seq ?_
        refine h_beginE [2, 1] mixed (fun hG => ?_)
        refine h_takeX 0 rfl (by kernel_rfl) rfl hG (by first | exact Ghost.le_refl _ | assumption) (by repeat' (first | exact List.nil_sublist _ | refine List.Sublist.cons_cons _ ?_ | refine List.Sublist.cons _ ?_)) ?_; refine ⟨_, (val_loadB 0 rfl rfl (by rfl)), ?_⟩; refine h_takeX 1 rfl (by kernel_rfl) rfl hG (by first | exact Ghost.le_refl _ | assumption) (by repeat' (first | exact List.nil_sublist _ | refine List.Sublist.cons_cons _ ?_ | refine List.Sublist.cons _ ?_)) ?_; refine ⟨_, (val_ev rfl), ?_⟩
        refine h_one 2 (by kernel_rfl) rfl ?_
        refine r_callL 2 rfl rfl rfl (hW g2 (j + 1) hs1 (by omega) (by omega)) ?_
        rintro w g3 r' hw hle3
        cases hq2 : tread l .whole (j + 1) with
        | error p =>
          rw [hq2] at hw hr
          simp only at hr
          obtain ⟨⟨t2, hty2⟩, j2, hj2', rfl⟩ := hw
          have ht := k2.mono hle3
          refine r_nn ?_
          refine h_kept hG (by first | exact Ghost.le_refl _ | assumption) (by repeat' (first | exact List.nil_sublist _ | refine List.Sublist.cons_cons _ ?_ | refine List.Sublist.cons _ ?_)) ?_
          refine h_one 3 (by kernel_rfl) rfl ?_
          refine r_callN rfl rfl (rArrow_spec g3 t' t2 _ _ ⟨_, rfl, ht⟩ hty2) ?_
          rintro w g4 hw hle4
          have hle34 := Ghost.le_trans hle3 hle4
          obtain ⟨a3, m3, c3, rfl, ht3⟩ := hw.cells5
          refine r_nn ?_
          refine h_kept hG (by first | exact Ghost.le_refl _ | assumption) (by repeat' (first | exact List.nil_sublist _ | refine List.Sublist.cons_cons _ ?_ | refine List.Sublist.cons _ ?_)) ?_
          refine h_one 4 (by kernel_rfl) rfl ?_
          refine r_storeA 1 rfl rfl rfl rfl (by rfl) (by repeat' (first | exact rfl | assumption | refine all_cons ?_ ?_)) rfl ?_; refine r_nn ?_
          refine h_kept hG (by first | exact Ghost.le_refl _ | assumption) (by repeat' (first | exact List.nil_sublist _ | refine List.Sublist.cons_cons _ ?_ | refine List.Sublist.cons _ ?_)) ?_
          refine h_done (by kernel_rfl) ?_
          refine r_then_normal ?_; refine r_retc ?_; refine r_then_ret ?_
          refine r_retA [_] rfl (res_blk 1 rfl rfl (by rfl)) (.cons _ (.cons _ (List.Sublist.refl _))) ⟨_, rfl, ?_⟩
          rw [hr]
          exact ⟨⟨_, _, rfl, ht3⟩, j2, hj2', rfl⟩
        | ok q2 =>
          obtain ⟨t2, j2⟩ := q2
          rw [hq2] at hw hr
          simp only at hr
          obtain ⟨hty2, rfl, hk1, hk2⟩ := hw
          have ht := k2.mono hle3
          refine r_nn ?_
          refine h_kept hG (by first | exact Ghost.le_refl _ | assumption) (by repeat' (first | exact List.nil_sublist _ | refine List.Sublist.cons_cons _ ?_ | refine List.Sublist.cons _ ?_)) ?_
          refine h_one 3 (by kernel_rfl) rfl ?_
          refine r_callN rfl rfl (rArrow_spec g3 t' t2 _ _ ⟨_, rfl, ht⟩ hty2) ?_
          rintro w g4 hw hle4
          have hle34 := Ghost.le_trans hle3 hle4
          obtain ⟨a3, m3, c3, rfl, ht3⟩ := hw.cells5
          refine r_nn ?_
          refine h_kept hG (by first | exact Ghost.le_refl _ | assumption) (by repeat' (first | exact List.nil_sublist _ | refine List.Sublist.cons_cons _ ?_ | refine List.Sublist.cons _ ?_)) ?_
          refine h_one 4 (by kernel_rfl) rfl ?_
          refine r_storeA 1 rfl rfl rfl rfl (by rfl) (by repeat' (first | exact rfl | assumption | refine all_cons ?_ ?_)) rfl ?_; refine r_nn ?_
          refine h_kept hG (by first | exact Ghost.le_refl _ | assumption) (by repeat' (first | exact List.nil_sublist _ | refine List.Sublist.cons_cons _ ?_ | refine List.Sublist.cons _ ?_)) ?_
          refine h_done (by kernel_rfl) ?_
          refine r_then_normal ?_; refine r_retc ?_; refine r_then_ret ?_
          refine r_retA [_] rfl (res_blk 1 rfl rfl (by rfl)) (.cons _ (.cons _ (List.Sublist.refl _))) ⟨_, rfl, ?_⟩
          rw [hr]
          exact ⟨⟨_, rfl, ht3⟩, rfl, by omega, hk2⟩
  · intro K hK
    have hr := tread_applied l i
    refine r_sr ?_; refine r_ev rfl rfl ?_
    refine r_callO 2 rfl rfl rfl (Kind5_spec g l lv hs b (.good i) 2) ?_
    rw [show RS.kindIs l 2 (.good i) = kindAt l i 2 from rfl]
    cases h2 : kindAt l i 2 with
    | false =>
      have hr' : tread l .applied i = tread l .atom i := by
        rw [hr]
        by_cases hlt : i < l.length
        · rw [kindAt_lt hlt] at h2
          rw [toks_some hlt]
          simp only
          rw [if_neg (of_decide_eq_false h2)]
        · rw [List.getElem?_eq_none (by omega)]
      refine r_nn ?_; refine r_cond_false rfl ?_; refine r_region ?_; refine r_ev rfl rfl ?_
      refine r_callL 2 rfl rfl rfl (hA g i hs hi hm) ?_
      rintro v g1 r' hw hle
      cases hq : tread l .atom i with
      | error p =>
        rw [hq] at hw
        obtain ⟨⟨t, hty⟩, j, hj, rfl⟩ := hw
        obtain ⟨a, m', c, rfl, ht⟩ := hty.cells5
        refine r_storeA 0 rfl rfl rfl rfl (by rfl) (by repeat' (first | exact rfl | assumption | refine all_cons ?_ ?_)) rfl ?_; refine r_nn ?_
        exact hK (t, .slice a m' c, .bad j p, g1) _ ⟨hle, ht, by simp only; rw [hr', hq]; exact ⟨j, hj, rfl⟩⟩ ⟨rfl, rfl, rfl, trivial⟩
      | ok q =>
        obtain ⟨t, j⟩ := q
        rw [hq] at hw
        obtain ⟨hty, rfl, hj1, hj2⟩ := hw
        obtain ⟨a, m', c, rfl, ht⟩ := hty.cells5
        refine r_storeA 0 rfl rfl rfl rfl (by rfl) (by repeat' (first | exact rfl | assumption | refine all_cons ?_ ?_)) rfl ?_; refine r_nn ?_
        exact hK (t, .slice a m' c, .good j, g1) _ ⟨hle, ht, by simp only; rw [hr', hq]; exact ⟨rfl, rfl, hj1, hj2⟩⟩ ⟨rfl, rfl, rfl, trivial⟩
    | true =>
      have hlt : i < l.length := by
        by_cases h : i < l.length
        · exact h
        · rw [kindAt_ge h] at h2; cases h2
      rw [kindAt_lt hlt] at h2
      have h2' : l[i].kind = 2 := of_decide_eq_true h2
      rw [toks_some hlt] at hr
      simp only [h2', if_true] at hr
      have e1 : RS.word l 2 (.good i) = .good (i + 1) := by simp [RS.word, kindAt_lt hlt, h2']
      have e2 : RS.text l 2 (.good i) = l[i].text := by
        show (match l[i]? with | some t => if t.kind = 2 then t.text else [] | none => []) = _
        rw [toks_some hlt]; simp [h2']
      refine r_nn ?_; refine r_cond_true rfl ?_; refine r_sr ?_; refine r_ev rfl rfl ?_
      refine r_callL 2 rfl rfl rfl (Word5_spec g l hb lv hs b (.good i) hi 2) ?_
      rintro v g' r' ⟨rfl, rfl, rfl⟩ _
      rw [e1, e2]
      refine r_callP rfl rfl (rCon0_spec g' l[i].text) ?_
      refine r_storeA 0 rfl rfl rfl rfl (by rfl) (by repeat' (first | exact rfl | assumption | refine all_cons ?_ ?_)) rfl ?_; refine r_nn ?_; refine r_block ?_
      refine r_nilRow 30 5 ?_
      refine r_loop (ι := RS × List Ty × Value × List Value × Ghost) (fun p => [(0, ptr b 0), (2, ptr b2 0), (3, ptr b3 0)]) (fun p => p.2.2.2.2)
        (fun p => [.row 30 5 p.2.2.1 p.2.1.length p.2.2.2.1, .blk b3 30 (tyCells (conT l[i].text []) p.2.2.1), .blk b2 30 [.int .i64 0, str [], .int .i64 0, .int .i64 0, .slice none 0 0], rdB b lv p.1])
        (fun p => oneC p.2.2.1 = true ∧ p.2.1.length ≤ l.length ∧ TysAt p.2.2.2.2 p.2.1 p.2.2.2.1 ∧ Ghost.le g' p.2.2.2.2 ∧ (∃ a m c, p.2.2.1 = .slice a m c) ∧ match p.1 with
          | .good j => i + 1 ≤ j ∧ j ≤ l.length ∧ p.2.1.length ≤ j ∧ tread l .applied i = tread l (.args l[i].text p.2.1) j
          | .bad j q => j ≤ l.length ∧ tread l .applied i = .error q)
        (fun p => match p.1 with
          | .good j => l.length - j + 1
          | .bad _ _ => 0) (.good (i + 1), [], .slice none 0 0, [], g')
        ⟨rfl, by simp, tysNil g', Ghost.le_refl _, ⟨_, _, _, rfl⟩, Nat.le_refl _, hlt, by simp, hr⟩ ⟨rfl, rfl, rfl, trivial⟩ rfl rfl ?_
      rintro ⟨s, ta, slv, xs, g2⟩ ⟨k1, k2, k3, k4, ⟨sa, sm, sc, k5⟩, k6⟩
      simp only at k1 k2 k3 k4 k5 k6
      subst k5
      show Run E _ [(0, ptr b 0), (2, ptr b2 0), (3, ptr b3 0)] g2 [.row 30 5 (.slice sa sm sc) ta.length xs, .blk b3 30 (tyCells (conT l[i].text []) (.slice sa sm sc)), .blk b2 30 [.int .i64 0, str [], .int .i64 0, .int .i64 0, .slice none 0 0], rdB b lv s] _
      have hs2 := hs.mono k4
      cases s with
      | bad j q =>
        simp only at k6
        refine r_seq ?_; refine r_sr ?_; refine r_ev rfl rfl ?_
        refine r_callO 3 rfl rfl rfl (Atoms5_spec g2 l lv hs2 b (.bad j q)) ?_
        refine r_nn ?_; refine r_cond_false rfl ?_; refine r_exit ?_; refine r_then_exit ?_; refine r_then_exit ?_; refine r_in_exit ?_; refine r_then_normal ?_
        refine r_publishRow (fun g3 hg3 hs3 => ?_)
        skip
        exact hK (conT l[i].text ta, .slice sa sm sc, .bad j q, g3) _ ⟨Ghost.le_trans k4 hg3, TyAt.mk (t := conT l[i].text ta) hs3 (k3.mono hg3), by simp only; rw [k6.2]; exact ⟨j, k6.1, rfl⟩⟩ ⟨rfl, rfl, rfl, trivial⟩
      | good j =>
        obtain ⟨k6, k7, k8, k9⟩ := k6
        have hra := tread_args l l[i].text ta j
        have hst : (RS.kindIs l 1 (.good j) || RS.kindIs l 2 (.good j) || RS.isIs l [40] (.good j)) = startsAt l j := by
          show (kindAt l j 1 || kindAt l j 2 || isAt l j [40]) = _
          rw [isAt_mark hkw (by decide)]
          unfold startsAt startsT markAt tokAt kindAt
          cases l[j]? <;> rfl
        refine r_seq ?_; refine r_sr ?_; refine r_ev rfl rfl ?_
        refine r_callO 3 rfl rfl rfl (Atoms5_spec g2 l lv hs2 b (.good j)) ?_
        rw [hst]
        cases hst : startsAt l j with
        | false =>
          rw [hst] at hra
          refine r_nn ?_; refine r_cond_false rfl ?_; refine r_exit ?_; refine r_then_exit ?_; refine r_then_exit ?_; refine r_in_exit ?_; refine r_then_normal ?_
          refine r_publishRow (fun g3 hg3 hs3 => ?_)
          skip
          exact hK (conT l[i].text ta, .slice sa sm sc, .good j, g3) _ ⟨Ghost.le_trans k4 hg3, TyAt.mk (t := conT l[i].text ta) hs3 (k3.mono hg3), by simp only; rw [k9, hra]; exact ⟨rfl, rfl, by omega, k7⟩⟩ ⟨rfl, rfl, rfl, trivial⟩
        | true =>
          have hjl := startsAt_lt hst
          rw [hst] at hra
          simp only [if_true] at hra
          refine r_nn ?_; refine r_cond_true rfl ?_; refine r_skip ?_; refine r_then_normal ?_; refine r_block ?_
          refine m_begin 6 [3, 0] mixed (by kernel_rfl) (fun hG => ?_)
          refine m_takeX 0 rfl (by kernel_rfl) rfl hG (by first | exact Ghost.le_refl _ | assumption) (by repeat' (first | exact List.nil_sublist _ | refine List.Sublist.cons_cons _ ?_ | refine List.Sublist.cons _ ?_)) ?_; refine ⟨_, (val_fieldAddr rfl), ?_⟩; refine m_takeX 1 rfl (by kernel_rfl) rfl hG (by first | exact Ghost.le_refl _ | assumption) (by repeat' (first | exact List.nil_sublist _ | refine List.Sublist.cons_cons _ ?_ | refine List.Sublist.cons _ ?_)) ?_; refine ⟨_, (val_loadB1 0 rfl rfl rfl), ?_⟩; refine m_takeX 2 rfl (by kernel_rfl) rfl hG (by first | exact Ghost.le_refl _ | assumption) (by repeat' (first | exact List.nil_sublist _ | refine List.Sublist.cons_cons _ ?_ | refine List.Sublist.cons _ ?_)) ?_; refine ⟨_, (val_ev rfl), ?_⟩
          refine m_one 3 (by kernel_rfl) rfl rfl ?_
          refine r_callL 3 rfl rfl rfl (hA g2 j hs2 k7 (by omega)) ?_
          rintro w g3 r' hw hle3
          cases hq : tread l .atom j with
          | error p =>
            rw [hq] at hw hra
            simp only at hra
            obtain ⟨⟨t', hty'⟩, j', hj', rfl⟩ := hw
            obtain ⟨a2, m2, c2, rfl, ht2⟩ := hty'.cells5
            refine r_nn ?_
            refine h_kept hG (by first | exact Ghost.le_refl _ | assumption) (by repeat' (first | exact List.nil_sublist _ | refine List.Sublist.cons_cons _ ?_ | refine List.Sublist.cons _ ?_)) ?_
            refine m_one 4 (by kernel_rfl) rfl rfl ?_
            refine r_buildSlice rfl rfl (by rfl) (by rfl) (by rfl) (by rfl) (by rfl) (fun b5 => ?_)
            refine r_nn ?_
            refine h_kept hG (by first | exact Ghost.le_refl _ | assumption) (by repeat' (first | exact List.nil_sublist _ | refine List.Sublist.cons_cons _ ?_ | refine List.Sublist.cons _ ?_)) ?_
            refine m_one 5 (by kernel_rfl) rfl rfl ?_
            refine r_appendRow 1 0 rfl rfl rfl rfl rfl (by rfl) (by rfl) rfl (by unfold maxLen; omega) (by omega) (fun v' hv' => ?_)
            refine r_rowForm 1 rfl ?_
            rintro ⟨va, vm, vc, rfl⟩
            refine r_nn ?_
            refine h_kept hG (by first | exact Ghost.le_refl _ | assumption) (by repeat' (first | exact List.nil_sublist _ | refine List.Sublist.cons_cons _ ?_ | refine List.Sublist.cons _ ?_)) ?_
            refine m_done (by kernel_rfl) ?_
            refine r_fieldAddr rfl rfl ?_; refine r_store1 2 rfl rfl rfl (cells_one (by assumption)) (by repeat' (first | exact rfl | assumption | refine all_cons ?_ ?_)) rfl ?_; refine r_nil ?_; refine r_in_normal ?_; refine r_then_normal ?_
            -- STOP1
            refine r_drop (own' := [_, _, _, _]) (.cons _ (List.Sublist.refl _)) ?_
            refine r_again (RS.bad j' p, ta ++ [t'], .slice va vm vc, xs ++ tyCells t' (.slice a2 m2 c2), g3) ⟨rfl, by simp; omega, TysAt.snoc ht2 (k3.mono hle3), Ghost.le_trans k4 hle3, ⟨_, _, _, rfl⟩, hj', by rw [k9, hra]⟩ (by simp only; omega) ⟨rfl, rfl, rfl, trivial⟩ rfl ?_
            simp [tyCells, repN]
          | ok q =>
            obtain ⟨x, j'⟩ := q
            rw [hq] at hw hra
            simp only at hra
            obtain ⟨hty', rfl, hj1', hj2'⟩ := hw
            rw [if_pos hj1'] at hra
            obtain ⟨a2, m2, c2, rfl, ht2⟩ := hty'.cells5
            refine r_nn ?_
            refine h_kept hG (by first | exact Ghost.le_refl _ | assumption) (by repeat' (first | exact List.nil_sublist _ | refine List.Sublist.cons_cons _ ?_ | refine List.Sublist.cons _ ?_)) ?_
            refine m_one 4 (by kernel_rfl) rfl rfl ?_
            refine r_buildSlice rfl rfl (by rfl) (by rfl) (by rfl) (by rfl) (by rfl) (fun b5 => ?_)
            refine r_nn ?_
            refine h_kept hG (by first | exact Ghost.le_refl _ | assumption) (by repeat' (first | exact List.nil_sublist _ | refine List.Sublist.cons_cons _ ?_ | refine List.Sublist.cons _ ?_)) ?_
            refine m_one 5 (by kernel_rfl) rfl rfl ?_
            refine r_appendRow 1 0 rfl rfl rfl rfl rfl (by rfl) (by rfl) rfl (by unfold maxLen; omega) (by omega) (fun v' hv' => ?_)
            refine r_rowForm 1 rfl ?_
            rintro ⟨va, vm, vc, rfl⟩
            refine r_nn ?_
            refine h_kept hG (by first | exact Ghost.le_refl _ | assumption) (by repeat' (first | exact List.nil_sublist _ | refine List.Sublist.cons_cons _ ?_ | refine List.Sublist.cons _ ?_)) ?_
            refine m_done (by kernel_rfl) ?_
            refine r_fieldAddr rfl rfl ?_; refine r_store1 2 rfl rfl rfl (cells_one (by assumption)) (by repeat' (first | exact rfl | assumption | refine all_cons ?_ ?_)) rfl ?_; refine r_nil ?_; refine r_in_normal ?_; refine r_then_normal ?_
            refine r_drop (own' := [_, _, _, _]) (.cons _ (List.Sublist.refl _)) ?_
            refine r_again (RS.good j', ta ++ [x], .slice va vm vc, xs ++ tyCells x (.slice a2 m2 c2), g3) ⟨rfl, by simp; omega, TysAt.snoc ht2 (k3.mono hle3), Ghost.le_trans k4 hle3, ⟨_, _, _, rfl⟩, by omega, hj2', by simp; omega, by rw [k9, hra]⟩ (by simp only; omega) ⟨rfl, rfl, rfl, trivial⟩ rfl ?_
            simp [tyCells, repN]
theorem read5_all {l : List Tok} (hb : TB l) (hkw : KW l) (lv : Value) (b : Nat) : ∀ m : Nat,
    (∀ g i, ToksAt g lv l → i ≤ l.length → l.length - i < m → SpecL Tryd.prog 42 [ptr b 0] g (rdB b lv (.good i)) (post5 l i b lv (tread l .whole i))) ∧
    (∀ g i, ToksAt g lv l → i ≤ l.length → l.length - i < m → SpecL Tryd.prog 44 [ptr b 0] g (rdB b lv (.good i)) (post5 l i b lv (tread l .atom i)))
  | 0 => ⟨fun _ _ _ _ h => by omega, fun _ _ _ _ h => by omega⟩
  | m + 1 => by
    have ih := read5_all hb hkw lv b m
    have hA := fun g i => Atom5_step hb hkw m lv b ih.1 g i
    exact ⟨fun g i => Type5_step hb hkw m lv b ih.1 hA g i, hA⟩
theorem Type5_spec {l : List Tok} (hb : TB l) (hkw : KW l) (g : Ghost) (lv : Value) (b i : Nat) (hs : ToksAt g lv l) (hi : i ≤ l.length) : SpecL Tryd.prog 42 [ptr b 0] g (rdB b lv (.good i)) (post5 l i b lv (tread l .whole i)) := (read5_all hb hkw lv b _).1 g i hs hi (Nat.lt_succ_self _)
theorem RAtom5_spec {l : List Tok} (hb : TB l) (hkw : KW l) (g : Ghost) (lv : Value) (b i : Nat) (hs : ToksAt g lv l) (hi : i ≤ l.length) : SpecL Tryd.prog 44 [ptr b 0] g (rdB b lv (.good i)) (post5 l i b lv (tread l .atom i)) := (read5_all hb hkw lv b _).2 g i hs hi (Nat.lt_succ_self _)
end Go.Proofs.YtblbbjhbigpgnaaDoor
-- sum 3fc5dca94351726b

/- The walks of the reference's reader (typedholesref5): Type, and the joint induction. -/
import Derived.Test.YtcapgcohhgjngaaGreatDoorK6
import Derived.Test.YtcapgcohhgjngaaGreatDoorK4
import Derived.Test.YtcapgcohhgjngaaGreatDoorK2
import Derived.Test.YtcapgcohhgjngaaGreatDoorK3
namespace Go.Eng
open Go
section
variable {P : Program} {E : Env} {n : Nat} {L : Slots} {g : Ghost} {own : List Res} {Q : Exit → Act → World → Prop}
/-- As r_cut, with memory that has grown in between. -/
theorem r_cutG {ι : Type} (Lf : ι → Slots) (gf : ι → Ghost) (of : ι → List Res) (φ : ι → Prop) {x y : Code} (h2 : ∀ p, φ p → Run E n (Lf p) (gf p) (of p) (y.wp P Q))
    (h1 : ∀ K : Act → World → Prop, (∀ p L'', φ p → Sub (Lf p) L'' → Run E n L'' (gf p) (of p) K) → Run E n L g own (x.wp P (Exit.then K Q))) : Run E n L g own ((Code.seq x y).wp P Q) :=
  r_seq (h1 _ fun p _ hφ hs => r_sub (Lf p) hs (h2 p hφ))
theorem r_rowForm {X : Act → World → Prop} {T : TypeId} {size m : Nat} {v : Value} {xs : List Value} (i : Nat) (h : own[i]? = some (.row T size v m xs)) (k : (∃ a m c, v = .slice a m c) → Run E n L g own X) : Run E n L g own X := fun a w hF hI => by
  have hs : w.ownsRow 0 T size v m xs := sat_at hI h
  refine k ?_ a w hF hI
  rcases hs.2 with ⟨rfl, _⟩ | ⟨b, cap, cur, rfl, _⟩
  · exact ⟨_, _, _, rfl⟩
  · exact ⟨_, _, _, rfl⟩
end
end Go.Eng
namespace Go.Proofs.YtcapgcohhgjngaaGreatDoor
open Go Go.Eng Go.Th Go.Proofs
set_option maxRecDepth 10000
set_option maxHeartbeats 4000000
attribute [local irreducible] wpList Code.wp Run bodyPost Go.Eng.Ends Exit.then Exit.inBlock Again Wq Kq
theorem Type5_bad (g : Ghost) (l : List Tok) (hb : TB l) (lv : Value) (hs : ToksAt g lv l) (b i : Nat) (hi : i ≤ l.length) (p : Int) : SpecL Tryz.prog 89 [ptr b 0] g (rdB b lv (.bad i p)) fun v g' r' => (∃ t, TyV g' v t) ∧ r' = rdB b lv (.bad i p) := by
  refine spec_of_run Tryz.func89 rfl Tryz.ntmps89 rfl fun E hE => ?_
  refine r_sr ?_
  refine r_alloc rfl (fun b2 => ?_)
  refine r_nn ?_; refine r_sr ?_
  refine r_alloc rfl (fun b3 => ?_)
  refine r_nn ?_; refine r_seq ?_; refine r_sr ?_; refine r_ev rfl rfl ?_
  refine r_callO 2 rfl rfl rfl (Kind5_spec g l lv hs b (.bad i p) 2) ?_
  refine r_nn ?_; refine r_cond_false rfl ?_; refine r_region ?_; refine r_ev rfl rfl ?_
  refine r_callL 2 rfl rfl rfl (Atom5_bad g l hb lv hs b i hi p) ?_
  rintro v g1 r' ⟨⟨t, hty⟩, rfl⟩ hle
  obtain ⟨a, m', c, rfl, ht⟩ := hty.cells5
  refine r_storeA 0 rfl rfl rfl rfl (by rfl) (by repeat' (first | exact rfl | assumption | refine all_cons ?_ ?_)) rfl ?_; refine r_nn ?_; refine r_seq ?_; refine r_sr ?_; refine r_ev rfl rfl ?_
  refine r_callL 2 rfl rfl rfl (Skip5_spec g1 l hb lv (hs.mono hle) b (.bad i p) hi arrowB) ?_
  rintro v g2 r' ⟨rfl, rfl, rfl⟩ _
  refine r_nn ?_; refine r_cond_false rfl ?_; refine r_skip ?_; refine r_then_normal ?_; refine r_sr ?_; refine r_loadB 0 rfl rfl rfl (by rfl) ?_; refine r_storeA 1 rfl rfl rfl rfl (by rfl) (by repeat' (first | exact rfl | assumption | refine all_cons ?_ ?_)) rfl ?_; refine r_nn ?_; refine r_retc ?_
  exact r_retA [_] rfl (res_blk 1 rfl rfl (by rfl)) (.cons _ (.cons _ (List.Sublist.refl _))) ⟨_, rfl, ⟨t, _, rfl, ht⟩, rfl⟩
/-- The state behind the part of a type that stands ahead of an arrow. -/
def appS (l : List Tok) (i : Nat) (t : Ty) : TR → RS → Prop
  | .ok (t', j), s => t' = t ∧ s = .good j ∧ i < j ∧ j ≤ l.length
  | .error p, s => ∃ j, j ≤ l.length ∧ s = .bad j p
theorem Type5_step {l : List Tok} (hb : TB l) (hkw : KW l) (m : Nat) (lv : Value) (b : Nat)
    (hW : ∀ g i, ToksAt g lv l → i ≤ l.length → l.length - i < m → SpecL Tryz.prog 89 [ptr b 0] g (rdB b lv (.good i)) (post5 l i b lv (tread l .whole i)))
    (hA : ∀ g i, ToksAt g lv l → i ≤ l.length → l.length - i < m + 1 → SpecL Tryz.prog 121 [ptr b 0] g (rdB b lv (.good i)) (post5 l i b lv (tread l .atom i)))
    (g : Ghost) (i : Nat) (hs : ToksAt g lv l) (hi : i ≤ l.length) (hm : l.length - i < m + 1) : SpecL Tryz.prog 89 [ptr b 0] g (rdB b lv (.good i)) (post5 l i b lv (tread l .whole i)) := by
  have hb1 := hb.1
  refine spec_of_run Tryz.func89 rfl Tryz.ntmps89 rfl fun E hE => ?_
  refine r_sr ?_
  refine r_alloc rfl (fun b2 => ?_)
  refine r_nn ?_
  refine r_sr ?_
  refine r_alloc rfl (fun b3 => ?_)
  refine r_nn ?_
  refine r_cutG (ι := Ty × Value × RS × Ghost) (fun p => [(0, ptr b 0), (2, ptr b2 0), (3, ptr b3 0)]) (fun p => p.2.2.2)
    (fun p => [.blk b3 32 (tyCells p.1 p.2.1), .blk b2 32 [.int .i64 0, str [], .int .i64 0, .int .i64 0, .slice none 0 0], rdB b lv p.2.2.1])
    (fun p => Ghost.le g p.2.2.2 ∧ TyAt p.2.2.2 p.1 (tyCells p.1 p.2.1) ∧ appS l i p.1 (tread l .applied i) p.2.2.1) ?_ ?_
  · rintro ⟨t, sl, s, g1⟩ ⟨k1, k2, k3⟩
    simp only at k1 k2 k3
    have hr := tread_whole l i
    have hs1 := hs.mono k1
    obtain ⟨_, hsl, _⟩ := k2.args
    obtain ⟨a, m', c, rfl⟩ := SlAt.form hsl
    show Run E _ [(0, ptr b 0), (2, ptr b2 0), (3, ptr b3 0)] g1 [.blk b3 32 (tyCells t (.slice a m' c)), .blk b2 32 [.int .i64 0, str [], .int .i64 0, .int .i64 0, .slice none 0 0], rdB b lv s] _
    cases hq : tread l .applied i with
    | error p =>
      rw [hq] at k3 hr
      simp only at hr
      obtain ⟨j, hj, rfl⟩ := k3
      refine r_seq ?_; refine r_sr ?_; refine r_ev rfl rfl ?_
      refine r_callL 2 rfl rfl rfl (Skip5_spec g1 l hb lv hs1 b (.bad j p) hj arrowB) ?_
      rintro v g2 r' ⟨rfl, rfl, rfl⟩ _
      refine r_nn ?_; refine r_cond_false rfl ?_; refine r_skip ?_; refine r_then_normal ?_; refine r_sr ?_; refine r_loadB 0 rfl rfl rfl (by rfl) ?_; refine r_storeA 1 rfl rfl rfl rfl (by rfl) (by repeat' (first | exact rfl | assumption | refine all_cons ?_ ?_)) rfl ?_; refine r_nn ?_; refine r_retc ?_
      refine r_retA [_] rfl (res_blk 1 rfl rfl (by rfl)) (.cons _ (.cons _ (List.Sublist.refl _))) ⟨_, rfl, ?_⟩
      rw [hr]
      exact ⟨⟨t, _, rfl, k2⟩, j, hj, rfl⟩
    | ok q =>
      obtain ⟨t', j⟩ := q
      rw [hq] at k3 hr
      obtain ⟨rfl, rfl, hj1, hj2⟩ := k3
      simp only at hr
      have hp : isAt l j arrowB = markAt l j arrowB := isAt_mark hkw (by decide) j
      refine r_seq ?_; refine r_sr ?_; refine r_ev rfl rfl ?_
      refine r_callL 2 rfl rfl rfl (Skip5_spec g1 l hb lv hs1 b (.good j) hj2 arrowB) ?_
      rintro v g2 r' ⟨rfl, rfl, rfl⟩ _
      rw [show RS.isIs l arrowB (.good j) = markAt l j arrowB from hp]
      cases hk : markAt l j arrowB with
      | false =>
        rw [hk] at hr
        have e1 : RS.skip l arrowB (.good j) = .good j := by simp [RS.skip, hp, hk]
        rw [e1]
        refine r_nn ?_; refine r_cond_false rfl ?_; refine r_skip ?_; refine r_then_normal ?_; refine r_sr ?_; refine r_loadB 0 rfl rfl rfl (by rfl) ?_; refine r_storeA 1 rfl rfl rfl rfl (by rfl) (by repeat' (first | exact rfl | assumption | refine all_cons ?_ ?_)) rfl ?_; refine r_nn ?_; refine r_retc ?_
        refine r_retA [_] rfl (res_blk 1 rfl rfl (by rfl)) (.cons _ (.cons _ (List.Sublist.refl _))) ⟨_, rfl, ?_⟩
        rw [hr]
        exact ⟨⟨_, rfl, k2⟩, rfl, hj1, hj2⟩
      | true =>
        rw [hk] at hr
        have hjl := tokAt_lt hk
        simp only [if_true] at hr
        rw [if_pos (by omega)] at hr
        have e1 : RS.skip l arrowB (.good j) = .good (j + 1) := by simp [RS.skip, hp, hk]
        rw [e1]
        refine r_nn ?_; refine r_cond_true rfl ?_; refine r_seq ?_
        refine h_beginE [2, 1] mixed (fun hG => ?_)
        refine h_takeX 0 rfl (by kernel_rfl) rfl hG (by first | exact Ghost.le_refl _ | assumption) (by repeat' (first | exact List.nil_sublist _ | refine List.Sublist.cons_cons _ ?_ | refine List.Sublist.cons _ ?_)) ?_; refine ⟨_, (val_loadB 0 rfl rfl (by rfl)), ?_⟩; refine h_takeX 1 rfl (by kernel_rfl) rfl hG (by first | exact Ghost.le_refl _ | assumption) (by repeat' (first | exact List.nil_sublist _ | refine List.Sublist.cons_cons _ ?_ | refine List.Sublist.cons _ ?_)) ?_; refine ⟨_, (val_ev rfl), ?_⟩
        refine h_one 2 (by kernel_rfl) rfl ?_
        refine r_callL 2 rfl rfl rfl (hW g2 (j + 1) hs1 (by omega) (by omega)) ?_
        rintro w g3 r' hw hle3
        cases hq2 : tread l .whole (j + 1) with
        | error p =>
          rw [hq2] at hw hr
          simp only at hr
          obtain ⟨⟨t2, hty2⟩, j2, hj2', rfl⟩ := hw
          have ht := k2.mono hle3
          refine r_nn ?_
          refine h_kept hG (by first | exact Ghost.le_refl _ | assumption) (by repeat' (first | exact List.nil_sublist _ | refine List.Sublist.cons_cons _ ?_ | refine List.Sublist.cons _ ?_)) ?_
          refine h_one 3 (by kernel_rfl) rfl ?_
          refine r_callN rfl rfl (rArrow_spec g3 t' t2 _ _ ⟨_, rfl, ht⟩ hty2) ?_
          rintro w g4 hw hle4
          have hle34 := Ghost.le_trans hle3 hle4
          obtain ⟨a3, m3, c3, rfl, ht3⟩ := hw.cells5
          refine r_nn ?_
          refine h_kept hG (by first | exact Ghost.le_refl _ | assumption) (by repeat' (first | exact List.nil_sublist _ | refine List.Sublist.cons_cons _ ?_ | refine List.Sublist.cons _ ?_)) ?_
          refine h_one 4 (by kernel_rfl) rfl ?_
          refine r_storeA 1 rfl rfl rfl rfl (by rfl) (by repeat' (first | exact rfl | assumption | refine all_cons ?_ ?_)) rfl ?_; refine r_nn ?_
          refine h_kept hG (by first | exact Ghost.le_refl _ | assumption) (by repeat' (first | exact List.nil_sublist _ | refine List.Sublist.cons_cons _ ?_ | refine List.Sublist.cons _ ?_)) ?_
          refine h_done (by kernel_rfl) ?_
          refine r_then_normal ?_; refine r_retc ?_; refine r_then_ret ?_
          refine r_retA [_] rfl (res_blk 1 rfl rfl (by rfl)) (.cons _ (.cons _ (List.Sublist.refl _))) ⟨_, rfl, ?_⟩
          rw [hr]
          exact ⟨⟨_, _, rfl, ht3⟩, j2, hj2', rfl⟩
        | ok q2 =>
          obtain ⟨t2, j2⟩ := q2
          rw [hq2] at hw hr
          simp only at hr
          obtain ⟨hty2, rfl, hk1, hk2⟩ := hw
          have ht := k2.mono hle3
          refine r_nn ?_
          refine h_kept hG (by first | exact Ghost.le_refl _ | assumption) (by repeat' (first | exact List.nil_sublist _ | refine List.Sublist.cons_cons _ ?_ | refine List.Sublist.cons _ ?_)) ?_
          refine h_one 3 (by kernel_rfl) rfl ?_
          refine r_callN rfl rfl (rArrow_spec g3 t' t2 _ _ ⟨_, rfl, ht⟩ hty2) ?_
          rintro w g4 hw hle4
          have hle34 := Ghost.le_trans hle3 hle4
          obtain ⟨a3, m3, c3, rfl, ht3⟩ := hw.cells5
          refine r_nn ?_
          refine h_kept hG (by first | exact Ghost.le_refl _ | assumption) (by repeat' (first | exact List.nil_sublist _ | refine List.Sublist.cons_cons _ ?_ | refine List.Sublist.cons _ ?_)) ?_
          refine h_one 4 (by kernel_rfl) rfl ?_
          refine r_storeA 1 rfl rfl rfl rfl (by rfl) (by repeat' (first | exact rfl | assumption | refine all_cons ?_ ?_)) rfl ?_; refine r_nn ?_
          refine h_kept hG (by first | exact Ghost.le_refl _ | assumption) (by repeat' (first | exact List.nil_sublist _ | refine List.Sublist.cons_cons _ ?_ | refine List.Sublist.cons _ ?_)) ?_
          refine h_done (by kernel_rfl) ?_
          refine r_then_normal ?_; refine r_retc ?_; refine r_then_ret ?_
          refine r_retA [_] rfl (res_blk 1 rfl rfl (by rfl)) (.cons _ (.cons _ (List.Sublist.refl _))) ⟨_, rfl, ?_⟩
          rw [hr]
          exact ⟨⟨_, rfl, ht3⟩, rfl, by omega, hk2⟩
  · intro K hK
    have hr := tread_applied l i
    refine r_sr ?_; refine r_ev rfl rfl ?_
    refine r_callO 2 rfl rfl rfl (Kind5_spec g l lv hs b (.good i) 2) ?_
    rw [show RS.kindIs l 2 (.good i) = kindAt l i 2 from rfl]
    cases h2 : kindAt l i 2 with
    | false =>
      have hr' : tread l .applied i = tread l .atom i := by
        rw [hr]
        by_cases hlt : i < l.length
        · rw [kindAt_lt hlt] at h2
          rw [toks_some hlt]
          simp only
          rw [if_neg (of_decide_eq_false h2)]
        · rw [List.getElem?_eq_none (by omega)]
      refine r_nn ?_; refine r_cond_false rfl ?_; refine r_region ?_; refine r_ev rfl rfl ?_
      refine r_callL 2 rfl rfl rfl (hA g i hs hi hm) ?_
      rintro v g1 r' hw hle
      cases hq : tread l .atom i with
      | error p =>
        rw [hq] at hw
        obtain ⟨⟨t, hty⟩, j, hj, rfl⟩ := hw
        obtain ⟨a, m', c, rfl, ht⟩ := hty.cells5
        refine r_storeA 0 rfl rfl rfl rfl (by rfl) (by repeat' (first | exact rfl | assumption | refine all_cons ?_ ?_)) rfl ?_; refine r_nn ?_
        exact hK (t, .slice a m' c, .bad j p, g1) _ ⟨hle, ht, by simp only; rw [hr', hq]; exact ⟨j, hj, rfl⟩⟩ ⟨rfl, rfl, rfl, trivial⟩
      | ok q =>
        obtain ⟨t, j⟩ := q
        rw [hq] at hw
        obtain ⟨hty, rfl, hj1, hj2⟩ := hw
        obtain ⟨a, m', c, rfl, ht⟩ := hty.cells5
        refine r_storeA 0 rfl rfl rfl rfl (by rfl) (by repeat' (first | exact rfl | assumption | refine all_cons ?_ ?_)) rfl ?_; refine r_nn ?_
        exact hK (t, .slice a m' c, .good j, g1) _ ⟨hle, ht, by simp only; rw [hr', hq]; exact ⟨rfl, rfl, hj1, hj2⟩⟩ ⟨rfl, rfl, rfl, trivial⟩
    | true =>
      have hlt : i < l.length := by
        by_cases h : i < l.length
        · exact h
        · rw [kindAt_ge h] at h2; cases h2
      rw [kindAt_lt hlt] at h2
      have h2' : l[i].kind = 2 := of_decide_eq_true h2
      rw [toks_some hlt] at hr
      simp only [h2', if_true] at hr
      have e1 : RS.word l 2 (.good i) = .good (i + 1) := by simp [RS.word, kindAt_lt hlt, h2']
      have e2 : RS.text l 2 (.good i) = l[i].text := by
        show (match l[i]? with | some t => if t.kind = 2 then t.text else [] | none => []) = _
        rw [toks_some hlt]; simp [h2']
      refine r_nn ?_; refine r_cond_true rfl ?_; refine r_sr ?_; refine r_ev rfl rfl ?_
      refine r_callL 2 rfl rfl rfl (Word5_spec g l hb lv hs b (.good i) hi 2) ?_
      rintro v g' r' ⟨rfl, rfl, rfl⟩ _
      rw [e1, e2]
      refine r_callP rfl rfl (rCon0_spec g' l[i].text) ?_
      refine r_storeA 0 rfl rfl rfl rfl (by rfl) (by repeat' (first | exact rfl | assumption | refine all_cons ?_ ?_)) rfl ?_; refine r_nn ?_; refine r_block ?_
      refine r_nilRow 32 5 ?_
      refine r_loop (ι := RS × List Ty × Value × List Value × Ghost) (fun p => [(0, ptr b 0), (2, ptr b2 0), (3, ptr b3 0)]) (fun p => p.2.2.2.2)
        (fun p => [.row 32 5 p.2.2.1 p.2.1.length p.2.2.2.1, .blk b3 32 (tyCells (conT l[i].text []) p.2.2.1), .blk b2 32 [.int .i64 0, str [], .int .i64 0, .int .i64 0, .slice none 0 0], rdB b lv p.1])
        (fun p => oneC p.2.2.1 = true ∧ p.2.1.length ≤ l.length ∧ TysAt p.2.2.2.2 p.2.1 p.2.2.2.1 ∧ Ghost.le g' p.2.2.2.2 ∧ (∃ a m c, p.2.2.1 = .slice a m c) ∧ match p.1 with
          | .good j => i + 1 ≤ j ∧ j ≤ l.length ∧ p.2.1.length ≤ j ∧ tread l .applied i = tread l (.args l[i].text p.2.1) j
          | .bad j q => j ≤ l.length ∧ tread l .applied i = .error q)
        (fun p => match p.1 with
          | .good j => l.length - j + 1
          | .bad _ _ => 0) (.good (i + 1), [], .slice none 0 0, [], g')
        ⟨rfl, by simp, tysNil g', Ghost.le_refl _, ⟨_, _, _, rfl⟩, Nat.le_refl _, hlt, by simp, hr⟩ ⟨rfl, rfl, rfl, trivial⟩ rfl rfl ?_
      rintro ⟨s, ta, slv, xs, g2⟩ ⟨k1, k2, k3, k4, ⟨sa, sm, sc, k5⟩, k6⟩
      simp only at k1 k2 k3 k4 k5 k6
      subst k5
      show Run E _ [(0, ptr b 0), (2, ptr b2 0), (3, ptr b3 0)] g2 [.row 32 5 (.slice sa sm sc) ta.length xs, .blk b3 32 (tyCells (conT l[i].text []) (.slice sa sm sc)), .blk b2 32 [.int .i64 0, str [], .int .i64 0, .int .i64 0, .slice none 0 0], rdB b lv s] _
      have hs2 := hs.mono k4
      cases s with
      | bad j q =>
        simp only at k6
        refine r_seq ?_; refine r_sr ?_; refine r_ev rfl rfl ?_
        refine r_callO 3 rfl rfl rfl (Atoms5_spec g2 l lv hs2 b (.bad j q)) ?_
        refine r_nn ?_; refine r_cond_false rfl ?_; refine r_exit ?_; refine r_then_exit ?_; refine r_then_exit ?_; refine r_in_exit ?_; refine r_then_normal ?_
        refine r_publishRow (fun g3 hg3 hs3 => ?_)
        skip
        exact hK (conT l[i].text ta, .slice sa sm sc, .bad j q, g3) _ ⟨Ghost.le_trans k4 hg3, TyAt.mk (t := conT l[i].text ta) hs3 (k3.mono hg3), by simp only; rw [k6.2]; exact ⟨j, k6.1, rfl⟩⟩ ⟨rfl, rfl, rfl, trivial⟩
      | good j =>
        obtain ⟨k6, k7, k8, k9⟩ := k6
        have hra := tread_args l l[i].text ta j
        have hst : (RS.kindIs l 1 (.good j) || RS.kindIs l 2 (.good j) || RS.isIs l [40] (.good j)) = startsAt l j := by
          show (kindAt l j 1 || kindAt l j 2 || isAt l j [40]) = _
          rw [isAt_mark hkw (by decide)]
          unfold startsAt startsT markAt tokAt kindAt
          cases l[j]? <;> rfl
        refine r_seq ?_; refine r_sr ?_; refine r_ev rfl rfl ?_
        refine r_callO 3 rfl rfl rfl (Atoms5_spec g2 l lv hs2 b (.good j)) ?_
        rw [hst]
        cases hst : startsAt l j with
        | false =>
          rw [hst] at hra
          refine r_nn ?_; refine r_cond_false rfl ?_; refine r_exit ?_; refine r_then_exit ?_; refine r_then_exit ?_; refine r_in_exit ?_; refine r_then_normal ?_
          refine r_publishRow (fun g3 hg3 hs3 => ?_)
          skip
          exact hK (conT l[i].text ta, .slice sa sm sc, .good j, g3) _ ⟨Ghost.le_trans k4 hg3, TyAt.mk (t := conT l[i].text ta) hs3 (k3.mono hg3), by simp only; rw [k9, hra]; exact ⟨rfl, rfl, by omega, k7⟩⟩ ⟨rfl, rfl, rfl, trivial⟩
        | true =>
          have hjl := startsAt_lt hst
          rw [hst] at hra
          simp only [if_true] at hra
          refine r_nn ?_; refine r_cond_true rfl ?_; refine r_skip ?_; refine r_then_normal ?_; refine r_block ?_
          refine m_begin 6 [3, 0] mixed (by kernel_rfl) (fun hG => ?_)
          refine m_takeX 0 rfl (by kernel_rfl) rfl hG (by first | exact Ghost.le_refl _ | assumption) (by repeat' (first | exact List.nil_sublist _ | refine List.Sublist.cons_cons _ ?_ | refine List.Sublist.cons _ ?_)) ?_; refine ⟨_, (val_fieldAddr rfl), ?_⟩; refine m_takeX 1 rfl (by kernel_rfl) rfl hG (by first | exact Ghost.le_refl _ | assumption) (by repeat' (first | exact List.nil_sublist _ | refine List.Sublist.cons_cons _ ?_ | refine List.Sublist.cons _ ?_)) ?_; refine ⟨_, (val_loadB1 0 rfl rfl rfl), ?_⟩; refine m_takeX 2 rfl (by kernel_rfl) rfl hG (by first | exact Ghost.le_refl _ | assumption) (by repeat' (first | exact List.nil_sublist _ | refine List.Sublist.cons_cons _ ?_ | refine List.Sublist.cons _ ?_)) ?_; refine ⟨_, (val_ev rfl), ?_⟩
          refine m_one 3 (by kernel_rfl) rfl rfl ?_
          refine r_callL 3 rfl rfl rfl (hA g2 j hs2 k7 (by omega)) ?_
          rintro w g3 r' hw hle3
          cases hq : tread l .atom j with
          | error p =>
            rw [hq] at hw hra
            simp only at hra
            obtain ⟨⟨t', hty'⟩, j', hj', rfl⟩ := hw
            obtain ⟨a2, m2, c2, rfl, ht2⟩ := hty'.cells5
            refine r_nn ?_
            refine h_kept hG (by first | exact Ghost.le_refl _ | assumption) (by repeat' (first | exact List.nil_sublist _ | refine List.Sublist.cons_cons _ ?_ | refine List.Sublist.cons _ ?_)) ?_
            refine m_one 4 (by kernel_rfl) rfl rfl ?_
            refine r_buildSlice rfl rfl (by rfl) (by rfl) (by rfl) (by rfl) (by rfl) (fun b5 => ?_)
            refine r_nn ?_
            refine h_kept hG (by first | exact Ghost.le_refl _ | assumption) (by repeat' (first | exact List.nil_sublist _ | refine List.Sublist.cons_cons _ ?_ | refine List.Sublist.cons _ ?_)) ?_
            refine m_one 5 (by kernel_rfl) rfl rfl ?_
            refine r_appendRow 1 0 rfl rfl rfl rfl rfl (by rfl) (by rfl) rfl (by unfold maxLen; omega) (by omega) (fun v' hv' => ?_)
            refine r_rowForm 1 rfl ?_
            rintro ⟨va, vm, vc, rfl⟩
            refine r_nn ?_
            refine h_kept hG (by first | exact Ghost.le_refl _ | assumption) (by repeat' (first | exact List.nil_sublist _ | refine List.Sublist.cons_cons _ ?_ | refine List.Sublist.cons _ ?_)) ?_
            refine m_done (by kernel_rfl) ?_
            refine r_fieldAddr rfl rfl ?_; refine r_store1 2 rfl rfl rfl (cells_one (by assumption)) (by repeat' (first | exact rfl | assumption | refine all_cons ?_ ?_)) rfl ?_; refine r_nil ?_; refine r_in_normal ?_; refine r_then_normal ?_
            -- STOP1
            refine r_drop (own' := [_, _, _, _]) (.cons _ (List.Sublist.refl _)) ?_
            refine r_again (RS.bad j' p, ta ++ [t'], .slice va vm vc, xs ++ tyCells t' (.slice a2 m2 c2), g3) ⟨rfl, by simp; omega, TysAt.snoc ht2 (k3.mono hle3), Ghost.le_trans k4 hle3, ⟨_, _, _, rfl⟩, hj', by rw [k9, hra]⟩ (by simp only; omega) ⟨rfl, rfl, rfl, trivial⟩ rfl ?_
            simp [tyCells, repN]
          | ok q =>
            obtain ⟨x, j'⟩ := q
            rw [hq] at hw hra
            simp only at hra
            obtain ⟨hty', rfl, hj1', hj2'⟩ := hw
            rw [if_pos hj1'] at hra
            obtain ⟨a2, m2, c2, rfl, ht2⟩ := hty'.cells5
            refine r_nn ?_
            refine h_kept hG (by first | exact Ghost.le_refl _ | assumption) (by repeat' (first | exact List.nil_sublist _ | refine List.Sublist.cons_cons _ ?_ | refine List.Sublist.cons _ ?_)) ?_
            refine m_one 4 (by kernel_rfl) rfl rfl ?_
            refine r_buildSlice rfl rfl (by rfl) (by rfl) (by rfl) (by rfl) (by rfl) (fun b5 => ?_)
            refine r_nn ?_
            refine h_kept hG (by first | exact Ghost.le_refl _ | assumption) (by repeat' (first | exact List.nil_sublist _ | refine List.Sublist.cons_cons _ ?_ | refine List.Sublist.cons _ ?_)) ?_
            refine m_one 5 (by kernel_rfl) rfl rfl ?_
            refine r_appendRow 1 0 rfl rfl rfl rfl rfl (by rfl) (by rfl) rfl (by unfold maxLen; omega) (by omega) (fun v' hv' => ?_)
            refine r_rowForm 1 rfl ?_
            rintro ⟨va, vm, vc, rfl⟩
            refine r_nn ?_
            refine h_kept hG (by first | exact Ghost.le_refl _ | assumption) (by repeat' (first | exact List.nil_sublist _ | refine List.Sublist.cons_cons _ ?_ | refine List.Sublist.cons _ ?_)) ?_
            refine m_done (by kernel_rfl) ?_
            refine r_fieldAddr rfl rfl ?_; refine r_store1 2 rfl rfl rfl (cells_one (by assumption)) (by repeat' (first | exact rfl | assumption | refine all_cons ?_ ?_)) rfl ?_; refine r_nil ?_; refine r_in_normal ?_; refine r_then_normal ?_
            refine r_drop (own' := [_, _, _, _]) (.cons _ (List.Sublist.refl _)) ?_
            refine r_again (RS.good j', ta ++ [x], .slice va vm vc, xs ++ tyCells x (.slice a2 m2 c2), g3) ⟨rfl, by simp; omega, TysAt.snoc ht2 (k3.mono hle3), Ghost.le_trans k4 hle3, ⟨_, _, _, rfl⟩, by omega, hj2', by simp; omega, by rw [k9, hra]⟩ (by simp only; omega) ⟨rfl, rfl, rfl, trivial⟩ rfl ?_
            simp [tyCells, repN]
theorem read5_all {l : List Tok} (hb : TB l) (hkw : KW l) (lv : Value) (b : Nat) : ∀ m : Nat,
    (∀ g i, ToksAt g lv l → i ≤ l.length → l.length - i < m → SpecL Tryz.prog 89 [ptr b 0] g (rdB b lv (.good i)) (post5 l i b lv (tread l .whole i))) ∧
    (∀ g i, ToksAt g lv l → i ≤ l.length → l.length - i < m → SpecL Tryz.prog 121 [ptr b 0] g (rdB b lv (.good i)) (post5 l i b lv (tread l .atom i)))
  | 0 => ⟨fun _ _ _ _ h => by omega, fun _ _ _ _ h => by omega⟩
  | m + 1 => by
    have ih := read5_all hb hkw lv b m
    have hA := fun g i => Atom5_step hb hkw m lv b ih.1 g i
    exact ⟨fun g i => Type5_step hb hkw m lv b ih.1 hA g i, hA⟩
theorem Type5_spec {l : List Tok} (hb : TB l) (hkw : KW l) (g : Ghost) (lv : Value) (b i : Nat) (hs : ToksAt g lv l) (hi : i ≤ l.length) : SpecL Tryz.prog 89 [ptr b 0] g (rdB b lv (.good i)) (post5 l i b lv (tread l .whole i)) := (read5_all hb hkw lv b _).1 g i hs hi (Nat.lt_succ_self _)
theorem RAtom5_spec {l : List Tok} (hb : TB l) (hkw : KW l) (g : Ghost) (lv : Value) (b i : Nat) (hs : ToksAt g lv l) (hi : i ≤ l.length) : SpecL Tryz.prog 121 [ptr b 0] g (rdB b lv (.good i)) (post5 l i b lv (tread l .atom i)) := (read5_all hb hkw lv b _).2 g i hs hi (Nat.lt_succ_self _)
end Go.Proofs.YtcapgcohhgjngaaGreatDoor
-- sum 3fc5dca94351726b
/- The walk of the reference's scanner. -/
namespace Go.Proofs.YtcapgcohhgjngaaGreatDoor
open Go Go.Eng Go.Th Go.Proofs
set_option maxRecDepth 10000
set_option maxHeartbeats 4000000
attribute [local irreducible] wpList Code.wp Run bodyPost Go.Eng.Ends Exit.then Exit.inBlock Again Wq Kq
/-- What Scan hands back: the tokens in a row of the caller's own, or a fault. -/
def ScanPost (T : TypeId) (s : Bytes) (g : Ghost) (v : Value) (g' : Ghost) (own' : List Res) : Prop := g' = g ∧ match scan s with
  | .ok l => ∃ sv, v = .tuple #[sv, .agg #[.int .i64 0, .int .i64 0]] ∧ own' = [.row T 3 sv l.length (l.flatMap tokCells)]
  | .bad e p => v = .tuple #[.slice none 0 0, .agg #[.int .i64 e, .int .i64 p]] ∧ own' = []

theorem refScan_spec (g : Ghost) (s : Bytes) (hs : s.length ≤ 9223372036854775807) : Eng.Spec Tryz.prog 45 [str s] g [] (ScanPost 101 s g) := by
  refine spec_of_run Tryz.func45 rfl Tryz.ntmps45 rfl fun E hE => ?_
  refine r_sr ?_
  refine r_ev rfl rfl ?_
  refine r_alloc rfl (fun b => ?_)
  refine r_nn ?_; refine r_seq ?_; refine r_sr ?_; refine r_ev rfl rfl ?_; refine r_len_str rfl rfl ?_; refine r_ev rfl rfl ?_; refine r_nn ?_
  refine r_cond rfl (fun hlong => ?_) (fun hlong => ?_)
  · refine r_sr ?_; refine r_build rfl rfl (by rfl) ?_; refine r_ev rfl rfl ?_; refine r_storeA 0 rfl rfl rfl rfl (by rfl) rfl rfl ?_; refine r_nn ?_; refine r_retc ?_; refine r_then_ret ?_
    refine r_ret2 [] rfl (.tmp rfl) (res_blk 0 rfl rfl (by rfl)) (by simp) ⟨rfl, ?_⟩
    have : 4000 < s.length := by omega
    simp [scan, this]
  · have hle : s.length ≤ 4000 := by omega
    refine r_skip ?_; refine r_then_normal ?_; refine r_sr ?_; refine r_ev rfl rfl ?_; refine r_nn ?_; refine r_seq ?_; refine r_sr ?_; refine r_ev rfl rfl ?_; refine r_nn ?_; refine r_block ?_
    refine r_nilRow 101 3 ?_
    refine r_loop (ι := Nat × List Tok × Value) (fun p => [(0, str s), (3, ptr b 0), (4, p.2.2), (5, .int .i64 p.1)]) (fun _ => g)
      (fun p => [.row 101 3 p.2.2 p.2.1.length (p.2.1.flatMap tokCells), .blk b 43 [.int .i64 0, .int .i64 0]])
      (fun p => p.1 ≤ s.length ∧ p.2.1.length ≤ p.1 ∧ scanFrom 0 (s.drop 0) = pre p.2.1 (scanFrom p.1 (s.drop p.1))) (fun p => s.length - p.1) (0, [], .slice none 0 0) ⟨by simp, by simp, by simp [pre_nil]⟩ ⟨rfl, rfl, rfl, rfl, trivial⟩ rfl rfl ?_
    rintro ⟨i, l, v⟩ ⟨hi, hl, hinv⟩
    simp only at hi hl hinv
    show Run E _ [(0, str s), (3, ptr b 0), (4, v), (5, .int .i64 i)] g [.row 101 3 v l.length (l.flatMap tokCells), .blk b 43 [.int .i64 0, .int .i64 0]] _
    refine r_seq ?_; refine r_sr ?_; refine r_ev rfl rfl ?_; refine r_ev rfl rfl ?_; refine r_len_str rfl rfl ?_; refine r_ev rfl rfl ?_; refine r_nn ?_
    refine r_cond rfl (fun hlt => ?_) (fun hlt => ?_)
    · have hlt' : i < s.length := by omega
      refine r_skip ?_; refine r_then_normal ?_; refine r_block ?_; refine r_sr ?_; refine r_ev rfl rfl ?_; refine r_ev rfl rfl ?_
      refine r_index_str (j := i) rfl rfl rfl rfl hlt' ?_
      refine r_ev rfl rfl ?_; refine r_nn ?_; refine r_sr ?_; refine r_ev rfl rfl ?_
      refine r_add rfl rfl rfl (by omega) ?_
      refine r_ev rfl rfl ?_; refine r_nn ?_
      refine r_cut [(0, str s), (3, ptr b 0), (4, v), (5, .int .i64 i), (7, .int .i64 (i + tokLen (s.drop i) : Nat))] (white s[i] = false ∧ s[i].toNat ≠ 35) ?_ ?_
      · rintro ⟨hw, hc⟩
        have htl := tokLen_le (s.drop i)
        have htp : 1 ≤ tokLen (s.drop i) := by rw [drop_cons hlt']; exact tokLen_pos _ _
        rw [List.length_drop] at htl
        have hpl : ((s.drop i).take (tokLen (s.drop i))).length ≤ 9223372036854775807 := by rw [List.length_take, List.length_drop]; omega
        refine r_sr ?_; refine r_ev rfl rfl ?_; refine r_ev rfl rfl ?_; refine r_ev rfl rfl ?_
        refine r_slice_str (p := i) (q := i + tokLen (s.drop i)) rfl rfl ⟨_, _, rfl, rfl⟩ ⟨_, _, rfl, rfl⟩ (by omega) (by omega) ?_
        rw [piece_eq]
        refine r_callP rfl rfl (Kind_spec g _ hpl) ?_
        refine r_ev rfl rfl ?_; refine r_nn ?_; refine r_seq ?_; refine r_sr ?_; refine r_ev rfl rfl ?_; refine r_ev rfl rfl ?_; refine r_nn ?_
        refine r_cond rfl (fun hk => ?_) (fun hk => ?_)
        · refine r_sr ?_; refine r_ev rfl rfl ?_; refine r_build rfl rfl (by rfl) ?_; refine r_ev rfl rfl ?_; refine r_storeA 1 rfl rfl rfl rfl (by rfl) rfl rfl ?_; refine r_nn ?_; refine r_retc ?_; refine r_then_ret ?_; refine r_in_ret ?_; refine r_then_ret ?_; refine r_in_ret ?_; refine r_then_ret ?_
          refine r_ret2 [] rfl (.tmp rfl) (res_blk 1 rfl rfl (by rfl)) (by simp) ⟨rfl, ?_⟩
          rw [scan_of hle, hinv, scan_bad hlt' hw hc hk]
          exact ⟨rfl, rfl⟩
        · refine r_skip ?_; refine r_then_normal ?_; refine r_sr ?_; refine r_ev rfl rfl ?_; refine r_ev rfl rfl ?_; refine r_ev rfl rfl ?_; refine r_ev rfl rfl ?_; refine r_ev rfl rfl ?_
          refine r_slice_str (p := i) (q := i + tokLen (s.drop i)) rfl rfl ⟨_, _, rfl, rfl⟩ ⟨_, _, rfl, rfl⟩ (by omega) (by omega) ?_
          rw [piece_eq]
          refine r_ev rfl rfl ?_; refine r_build rfl rfl (by rfl) ?_
          refine r_buildSlice rfl rfl (by rfl) (by rfl) (by rfl) (by rfl) (by rfl) (fun b2 => ?_)
          refine r_appendRow 1 0 rfl rfl rfl rfl rfl (by rfl) (by rfl) rfl (by unfold maxLen; omega) (by omega) (fun v' _ => ?_)
          refine r_ev rfl rfl ?_; refine r_nn ?_; refine r_region ?_; refine r_ev rfl rfl ?_; refine r_ev rfl rfl ?_; refine r_nil ?_; refine r_in_normal ?_; refine r_then_normal ?_
          refine r_drop (own' := [_, _]) (List.sublist_cons_self _ _) ?_
          refine r_again (i + tokLen (s.drop i), l ++ [⟨kindOf ((s.drop i).take (tokLen (s.drop i))), (s.drop i).take (tokLen (s.drop i)), i⟩], v') ⟨by simp; omega, by simp; omega, ?_⟩ (by simp; omega) ⟨rfl, rfl, rfl, rfl, trivial⟩ rfl ?_
          · simp only
            rw [hinv, scan_tok hlt' hw hc hk]
          · simp [tokCells, repN]
      · intro K hK
        refine r_block ?_; refine r_sr ?_; refine r_ev rfl rfl ?_; refine r_ev rfl rfl ?_; refine r_ev rfl rfl ?_
        refine r_gdec rfl rfl (fun a1 => ?_) (fun a1 => ?_)
        · have hw : white s[i] = true := by simp [white]; omega
          refine r_pass rfl rfl rfl ?_; refine r_pass rfl rfl rfl ?_; refine r_ev rfl rfl ?_; refine r_ev rfl rfl ?_; refine r_pass rfl rfl rfl ?_; refine r_pass rfl rfl rfl ?_; refine r_ev rfl rfl ?_; refine r_ev rfl rfl ?_; refine r_pass rfl rfl rfl ?_; refine r_pass rfl rfl rfl ?_; refine r_ev rfl rfl ?_; refine r_ev rfl rfl ?_; refine r_nn ?_; refine r_cond_true rfl ?_; refine r_sr ?_; refine r_ev rfl rfl ?_
          refine r_add rfl rfl rfl (by omega) ?_
          refine r_ev rfl rfl ?_; refine r_nn ?_; refine r_exit ?_; refine r_in_exit_other rfl ?_; refine r_then_exit ?_; refine r_in_exit ?_; refine r_then_normal ?_
          exact r_again (i + 1, l, v) ⟨by simp; omega, by simp; omega, by simp only; rw [hinv, scan_white hlt' hw]⟩ (by simp; omega) ⟨rfl, rfl, rfl, rfl, trivial⟩ rfl rfl
        refine r_tev rfl rfl rfl ?_; refine r_tev rfl rfl rfl ?_; refine r_ev rfl rfl ?_; refine r_ev rfl rfl ?_
        refine r_gdec rfl rfl (fun a2 => ?_) (fun a2 => ?_)
        · have hw : white s[i] = true := by simp [white]; omega
          refine r_pass rfl rfl rfl ?_; refine r_pass rfl rfl rfl ?_; refine r_ev rfl rfl ?_; refine r_ev rfl rfl ?_; refine r_pass rfl rfl rfl ?_; refine r_pass rfl rfl rfl ?_; refine r_ev rfl rfl ?_; refine r_ev rfl rfl ?_; refine r_nn ?_; refine r_cond_true rfl ?_; refine r_sr ?_; refine r_ev rfl rfl ?_
          refine r_add rfl rfl rfl (by omega) ?_
          refine r_ev rfl rfl ?_; refine r_nn ?_; refine r_exit ?_; refine r_in_exit_other rfl ?_; refine r_then_exit ?_; refine r_in_exit ?_; refine r_then_normal ?_
          exact r_again (i + 1, l, v) ⟨by simp; omega, by simp; omega, by simp only; rw [hinv, scan_white hlt' hw]⟩ (by simp; omega) ⟨rfl, rfl, rfl, rfl, trivial⟩ rfl rfl
        refine r_tev rfl rfl rfl ?_; refine r_tev rfl rfl rfl ?_; refine r_ev rfl rfl ?_; refine r_ev rfl rfl ?_
        refine r_gdec rfl rfl (fun a3 => ?_) (fun a3 => ?_)
        · have hw : white s[i] = true := by simp [white]; omega
          refine r_pass rfl rfl rfl ?_; refine r_pass rfl rfl rfl ?_; refine r_ev rfl rfl ?_; refine r_ev rfl rfl ?_; refine r_nn ?_; refine r_cond_true rfl ?_; refine r_sr ?_; refine r_ev rfl rfl ?_
          refine r_add rfl rfl rfl (by omega) ?_
          refine r_ev rfl rfl ?_; refine r_nn ?_; refine r_exit ?_; refine r_in_exit_other rfl ?_; refine r_then_exit ?_; refine r_in_exit ?_; refine r_then_normal ?_
          exact r_again (i + 1, l, v) ⟨by simp; omega, by simp; omega, by simp only; rw [hinv, scan_white hlt' hw]⟩ (by simp; omega) ⟨rfl, rfl, rfl, rfl, trivial⟩ rfl rfl
        refine r_tev rfl rfl rfl ?_; refine r_tev rfl rfl rfl ?_; refine r_ev rfl rfl ?_; refine r_ev rfl rfl ?_; refine r_nn ?_
        refine r_cond rfl (fun a4 => ?_) (fun a4 => ?_)
        · have hw : white s[i] = true := by simp [white]; omega
          refine r_sr ?_; refine r_ev rfl rfl ?_
          refine r_add rfl rfl rfl (by omega) ?_
          refine r_ev rfl rfl ?_; refine r_nn ?_; refine r_exit ?_; refine r_in_exit_other rfl ?_; refine r_then_exit ?_; refine r_in_exit ?_; refine r_then_normal ?_
          exact r_again (i + 1, l, v) ⟨by simp; omega, by simp; omega, by simp only; rw [hinv, scan_white hlt' hw]⟩ (by simp; omega) ⟨rfl, rfl, rfl, rfl, trivial⟩ rfl rfl
        have hw : white s[i] = false := by simp [white]; omega
        refine r_sr ?_; refine r_ev rfl rfl ?_; refine r_ev rfl rfl ?_; refine r_ev rfl rfl ?_; refine r_nn ?_
        refine r_cond rfl (fun hc => ?_) (fun hc => ?_)
        · have hc' : s[i].toNat = 35 := by omega
          refine r_seq ?_; refine r_block ?_
          refine r_loop (ι := Nat) (fun j => [(0, str s), (3, ptr b 0), (4, v), (5, .int .i64 j)]) (fun _ => g) (fun _ => [.row 101 3 v l.length (l.flatMap tokCells), .blk b 43 [.int .i64 0, .int .i64 0]])
            (fun j => i ≤ j ∧ j ≤ s.length ∧ j + commentLen (s.drop j) = i + commentLen (s.drop i)) (fun j => s.length - j) i ⟨Nat.le_refl _, by omega, rfl⟩ ⟨rfl, rfl, rfl, rfl, trivial⟩ rfl rfl ?_
          rintro j ⟨hij, hjl, hcm⟩
          have hcp : 1 ≤ commentLen (s.drop i) := by rw [drop_cons hlt']; exact commentLen_pos _ hc'
          refine r_seq ?_; refine r_sr ?_; refine r_ev rfl rfl ?_; refine r_ev rfl rfl ?_; refine r_len_str rfl rfl ?_; refine r_ev rfl rfl ?_; refine r_ev rfl rfl ?_
          refine r_gdec rfl rfl (fun hj => ?_) (fun hj => ?_)
          · have hj' : j < s.length := by omega
            refine r_tev rfl rfl rfl ?_; refine r_tev rfl rfl rfl ?_; refine r_take rfl ?_
            refine r_index_str (j := j) rfl rfl rfl rfl hj' ?_
            refine r_tev rfl rfl rfl ?_; refine r_ev rfl rfl ?_; refine r_nn ?_
            refine r_cond rfl (fun hn => ?_) (fun hn => ?_)
            · have hst := commentLen_step hj' (by omega)
              refine r_skip ?_; refine r_then_normal ?_; refine r_block ?_; refine r_region ?_; refine r_ev rfl rfl ?_
              refine r_add rfl rfl rfl (by omega) ?_
              refine r_ev rfl rfl ?_; refine r_nil ?_; refine r_in_normal ?_; refine r_then_normal ?_
              exact r_again (j + 1) ⟨by omega, by omega, by omega⟩ (by omega) ⟨rfl, rfl, rfl, rfl, trivial⟩ rfl rfl
            · have hst := commentLen_stop hj' (by omega)
              refine r_exit ?_; refine r_then_exit ?_; refine r_then_exit ?_; refine r_in_exit ?_; refine r_then_normal ?_; refine r_exit ?_; refine r_in_exit_other rfl ?_; refine r_then_exit ?_; refine r_in_exit ?_; refine r_then_normal ?_
              refine r_again (j, l, v) ⟨by simp; omega, by simp; omega, ?_⟩ (by simp; omega) ⟨rfl, rfl, rfl, rfl, trivial⟩ rfl rfl
              simp only
              rw [hinv, scan_comment hlt' hw hc', show i + commentLen (s.drop i) = j by omega]
          · have hst := commentLen_end (s := s) (k := j) (by omega)
            refine r_pass rfl rfl rfl ?_; refine r_pass rfl rfl rfl ?_; refine r_pass rfl rfl rfl ?_; refine r_pass rfl rfl rfl ?_; refine r_ev rfl rfl ?_; refine r_nn ?_; refine r_cond_false rfl ?_; refine r_exit ?_; refine r_then_exit ?_; refine r_then_exit ?_; refine r_in_exit ?_; refine r_then_normal ?_; refine r_exit ?_; refine r_in_exit_other rfl ?_; refine r_then_exit ?_; refine r_in_exit ?_; refine r_then_normal ?_
            refine r_again (j, l, v) ⟨by simp; omega, by simp; omega, ?_⟩ (by simp; omega) ⟨rfl, rfl, rfl, rfl, trivial⟩ rfl rfl
            simp only
            rw [hinv, scan_comment hlt' hw hc', show i + commentLen (s.drop i) = j by omega]
        have hc' : s[i].toNat ≠ 35 := by omega
        refine r_sr ?_; refine r_ev rfl rfl ?_
        refine r_callP rfl rfl (inner_spec g _) ?_
        refine r_ev rfl rfl ?_; refine r_nn ?_
        refine r_condb rfl (fun hin => ?_) (fun hin => ?_)
        · have htk := tokLen_word hlt' hin
          refine r_block ?_
          refine r_loop (ι := Nat) (fun j => [(0, str s), (3, ptr b 0), (4, v), (5, .int .i64 i), (7, .int .i64 j)]) (fun _ => g) (fun _ => [.row 101 3 v l.length (l.flatMap tokCells), .blk b 43 [.int .i64 0, .int .i64 0]])
            (fun j => i + 1 ≤ j ∧ j ≤ s.length ∧ j + wordLen (s.drop j) = i + 1 + wordLen (s.drop (i + 1))) (fun j => s.length - j) (i + 1) ⟨Nat.le_refl _, by omega, rfl⟩ ⟨rfl, rfl, rfl, rfl, rfl, trivial⟩ rfl rfl ?_
          rintro j ⟨hij, hjl, hcm⟩
          refine r_seq ?_; refine r_sr ?_; refine r_ev rfl rfl ?_; refine r_ev rfl rfl ?_; refine r_len_str rfl rfl ?_; refine r_ev rfl rfl ?_; refine r_ev rfl rfl ?_
          refine r_gdec rfl rfl (fun hj => ?_) (fun hj => ?_)
          · have hj' : j < s.length := by omega
            refine r_tev rfl rfl rfl ?_; refine r_tev rfl rfl rfl ?_; refine r_take rfl ?_
            refine r_index_str (j := j) rfl rfl rfl rfl hj' ?_
            refine r_take rfl ?_
            refine r_callP rfl rfl (inner_spec g _) ?_
            refine r_ev rfl rfl ?_; refine r_nn ?_
            refine r_condb rfl (fun hn => ?_) (fun hn => ?_)
            · have hst := wordLen_step hj' hn
              refine r_skip ?_; refine r_then_normal ?_; refine r_block ?_; refine r_region ?_; refine r_ev rfl rfl ?_
              refine r_add rfl rfl rfl (by omega) ?_
              refine r_ev rfl rfl ?_; refine r_nil ?_; refine r_in_normal ?_; refine r_then_normal ?_
              exact r_again (j + 1) ⟨by omega, by omega, by omega⟩ (by omega) ⟨rfl, rfl, rfl, rfl, rfl, trivial⟩ rfl rfl
            · have hst := wordLen_stop hj' hn
              have hfin : j = i + tokLen (s.drop i) := by omega
              subst hfin
              refine r_exit ?_; refine r_then_exit ?_; refine r_then_exit ?_; refine r_in_exit ?_; refine r_in_normal ?_; refine r_then_normal ?_
              exact hK _ ⟨hw, hc'⟩ ⟨rfl, rfl, rfl, rfl, rfl, trivial⟩
          · have hst := wordLen_end (s := s) (k := j) (by omega)
            have hfin : j = i + tokLen (s.drop i) := by omega
            subst hfin
            refine r_pass rfl rfl rfl ?_; refine r_pass rfl rfl rfl ?_; refine r_pass rfl rfl rfl ?_; refine r_pass rfl rfl rfl ?_; refine r_ev rfl rfl ?_; refine r_nn ?_; refine r_cond_false rfl ?_; refine r_exit ?_; refine r_then_exit ?_; refine r_then_exit ?_; refine r_in_exit ?_; refine r_in_normal ?_; refine r_then_normal ?_
            exact hK _ ⟨hw, hc'⟩ ⟨rfl, rfl, rfl, rfl, rfl, trivial⟩
        · refine r_sr ?_; refine r_ev rfl rfl ?_; refine r_ev rfl rfl ?_; refine r_ev rfl rfl ?_
          refine r_gdec rfl rfl (fun h45 => ?_) (fun h45 => ?_)
          · refine r_tev rfl rfl rfl ?_; refine r_tev rfl rfl rfl ?_; refine r_take rfl ?_; refine r_len_str rfl rfl ?_; refine r_tev rfl rfl rfl ?_; refine r_ev rfl rfl ?_; refine r_ev rfl rfl ?_
            refine r_gdec rfl rfl (fun hl2 => ?_) (fun hl2 => ?_)
            · have hl2' : i + 1 < s.length := by omega
              refine r_tev rfl rfl rfl ?_; refine r_tev rfl rfl rfl ?_; refine r_take rfl ?_
              refine r_index_str (j := i + 1) rfl rfl rfl rfl hl2' ?_
              refine r_tev rfl rfl rfl ?_; refine r_ev rfl rfl ?_; refine r_ev rfl rfl ?_; refine r_nn ?_
              refine r_cond rfl (fun h62 => ?_) (fun h62 => ?_)
              · have htk := tokLen_arrow hl2' hin (by omega) (by omega)
                refine r_region ?_; refine r_ev rfl rfl ?_
                refine r_add rfl rfl rfl (by omega) ?_
                refine r_ev rfl rfl ?_; refine r_nil ?_; refine r_in_normal ?_; refine r_then_normal ?_
                exact hK _ ⟨hw, hc'⟩ ⟨rfl, rfl, rfl, rfl, by rw [htk]; rfl, trivial⟩
              · have htk := tokLen_one hlt' hin (fun _ _ => by omega)
                refine r_skip ?_; refine r_in_normal ?_; refine r_then_normal ?_
                exact hK _ ⟨hw, hc'⟩ ⟨rfl, rfl, rfl, rfl, by rw [htk]; rfl, trivial⟩
            · have htk := tokLen_one hlt' hin (fun _ h2 => by omega)
              refine r_pass rfl rfl rfl ?_; refine r_pass rfl rfl rfl ?_; refine r_pass rfl rfl rfl ?_; refine r_pass rfl rfl rfl ?_; refine r_ev rfl rfl ?_; refine r_ev rfl rfl ?_; refine r_nn ?_; refine r_cond_false rfl ?_; refine r_skip ?_; refine r_in_normal ?_; refine r_then_normal ?_
              exact hK _ ⟨hw, hc'⟩ ⟨rfl, rfl, rfl, rfl, by rw [htk]; rfl, trivial⟩
          · have htk := tokLen_one hlt' hin (fun h1 => by omega)
            refine r_pass rfl rfl rfl ?_; refine r_pass rfl rfl rfl ?_; refine r_pass rfl rfl rfl ?_; refine r_pass rfl rfl rfl ?_; refine r_ev rfl rfl ?_; refine r_ev rfl rfl ?_; refine r_pass rfl rfl rfl ?_; refine r_pass rfl rfl rfl ?_; refine r_pass rfl rfl rfl ?_; refine r_pass rfl rfl rfl ?_; refine r_ev rfl rfl ?_; refine r_ev rfl rfl ?_; refine r_nn ?_; refine r_cond_false rfl ?_; refine r_skip ?_; refine r_in_normal ?_; refine r_then_normal ?_
            exact hK _ ⟨hw, hc'⟩ ⟨rfl, rfl, rfl, rfl, by rw [htk]; rfl, trivial⟩
    · have hil : i = s.length := by omega
      subst hil
      refine r_exit ?_; refine r_then_exit ?_; refine r_then_exit ?_; refine r_in_exit ?_; refine r_then_normal ?_; refine r_sr ?_; refine r_ev rfl rfl ?_; refine r_build rfl rfl (by rfl) ?_; refine r_ev rfl rfl ?_; refine r_storeA 1 rfl rfl rfl rfl (by rfl) rfl rfl ?_; refine r_nn ?_; refine r_retc ?_
      refine r_ret2 [_] rfl (.tmp rfl) (res_blk 1 rfl rfl (by rfl)) (List.sublist_append_left [_] [_]) ⟨rfl, ?_⟩
      rw [scan_of hle, hinv, List.drop_length, scanFrom_nil]
      simp only [pre, List.append_nil]
      exact ⟨v, rfl, rfl⟩
end Go.Proofs.YtcapgcohhgjngaaGreatDoor
-- sum 635a04ba1113148b
/- What a scan's tokens are like: bounds, kinds. No program in sight. -/
namespace Go.Th
def KWp (l : List Tok) : Prop := ∀ t ∈ l, t.kind = kindOf t.text
theorem scanGo_facts : ∀ (f i : Nat) (s : Bytes) (l : List Tok), scanGo f i s = .ok l → l.length ≤ s.length ∧ ∀ t ∈ l, t.kind = kindOf t.text ∧ kindOf t.text ≠ 0 ∧ (i : Int) ≤ t.pos ∧ t.pos + t.text.length ≤ (i + s.length : Nat)
  | 0, _, _, l, h => by
    simp only [scanGo, Except.ok.injEq] at h; subst h; simp
  | _ + 1, _, [], l, h => by
    simp only [scanGo, Except.ok.injEq] at h; subst h; simp
  | f + 1, i, c :: r, l, h => by
    simp only [scanGo] at h
    split at h
    · have ih := scanGo_facts f (i + 1) r l h
      refine ⟨by simp; omega, fun t ht => ?_⟩
      obtain ⟨h1, h2, h3, h4⟩ := ih.2 t ht
      exact ⟨h1, h2, by omega, by simp only [List.length_cons]; omega⟩
    · split at h
      · have ih := scanGo_facts f _ _ l h
        have hle := commentLen_le (c :: r)
        rw [List.length_drop] at ih
        refine ⟨by omega, fun t ht => ?_⟩
        obtain ⟨h1, h2, h3, h4⟩ := ih.2 t ht
        exact ⟨h1, h2, by omega, by omega⟩
      · split at h
        · cases h
        · rename_i hk
          split at h
          · cases h
          · rename_i l' hl
            simp only [Except.ok.injEq] at h
            subst h
            have ih := scanGo_facts f _ _ l' hl
            have hle := tokLen_le (c :: r)
            have hpos := tokLen_pos c r
            rw [List.length_drop] at ih
            refine ⟨by simp only [List.length_cons] at *; omega, fun t ht => ?_⟩
            rcases List.mem_cons.1 ht with rfl | ht
            · refine ⟨rfl, hk, by simp, ?_⟩
              simp only [List.length_take]
              omega
            · obtain ⟨h1, h2, h3, h4⟩ := ih.2 t ht
              exact ⟨h1, h2, by omega, by omega⟩
def toksOf (s : Bytes) : List Tok := match scan s with | .ok l => l | .bad _ _ => []
theorem toksOf_facts (s : Bytes) : (toksOf s).length ≤ 4000 ∧ ∀ t ∈ toksOf s, t.kind = kindOf t.text ∧ kindOf t.text ≠ 0 ∧ 0 ≤ t.pos ∧ t.pos + t.text.length ≤ 4000 := by
  unfold toksOf scan
  by_cases h : 4000 < s.length
  · rw [if_pos h]; simp
  · rw [if_neg h]
    cases hq : scanGo s.length 0 s with
    | error p => simp
    | ok l =>
      obtain ⟨h1, h2⟩ := scanGo_facts _ _ _ _ hq
      simp only
      refine ⟨by omega, fun t ht => ?_⟩
      obtain ⟨a1, a2, a3, a4⟩ := h2 t ht
      exact ⟨a1, a2, by omega, by omega⟩
end Go.Th
-- sum 166aa291451055b0
/- Expressions in plain words: terms, and what is read from tokens as an expression. No program in sight. -/
namespace Go.Th
mutual
inductive Ex where
  | mk (kind pos : Int) (name : Bytes) (num : Int) (kids : List Ex) (arms : List Ar) (ty : Ty)
inductive Ar where
  | mk (pos : Int) (con : Bytes) (vars : List Bytes) (body : Ex)
end
def Ex.kind : Ex → Int | .mk k _ _ _ _ _ _ => k
def Ex.pos : Ex → Int | .mk _ p _ _ _ _ _ => p
def Ex.name : Ex → Bytes | .mk _ _ n _ _ _ _ => n
def Ex.num : Ex → Int | .mk _ _ _ m _ _ _ => m
def Ex.kids : Ex → List Ex | .mk _ _ _ _ ks _ _ => ks
def Ex.arms : Ex → List Ar | .mk _ _ _ _ _ a _ => a
def Ex.ty : Ex → Ty | .mk _ _ _ _ _ _ t => t
def Ar.pos : Ar → Int | .mk p _ _ _ => p
def Ar.con : Ar → Bytes | .mk _ c _ _ => c
def Ar.vars : Ar → List Bytes | .mk _ _ v _ => v
def Ar.body : Ar → Ex | .mk _ _ _ b => b
def noE : Ex := .mk 0 0 [] 0 [] [] noT
def posOf (l : List Tok) (i : Nat) : Int := match l[i]? with
  | some t => t.pos
  | none => 0
def wordAt (l : List Tok) (i : Nat) (w : Bytes) : Bool := tokAt l i 4 w
/-- The text of a token of a kind. -/
def nameAt (l : List Tok) (i : Nat) (k : Int) : Option Bytes := match l[i]? with
  | some t => if t.kind = k then some t.text else none
  | none => none
def lowers : List Tok → List Bytes
  | [] => []
  | t :: r => if t.kind = 1 then t.text :: lowers r else []
def numOf (s : Bytes) : Int := s.foldl (fun n c => 10 * n + (c.toNat - 48 : Int)) 0
def startsE (t : Tok) : Bool := decide (t.kind = 1) || decide (t.kind = 2) || decide (t.kind = 3) || (decide (t.kind = 5) && (decide (t.text = [63]) || decide (t.text = [40]) || decide (t.text = [123])))
def startsEAt (l : List Tok) (i : Nat) : Bool := match l[i]? with
  | some t => startsE t
  | none => false
def letB : Bytes := [108, 101, 116]
def recB : Bytes := [114, 101, 99]
def inB : Bytes := [105, 110]
def caseB : Bytes := [99, 97, 115, 101]
def ofB : Bytes := [111, 102]
def endB : Bytes := [101, 110, 100]
def leafE (k p : Int) (n : Bytes) (m : Int) : Ex := .mk k p n m [] [] noT
def kidsE (k p : Int) (n : Bytes) (ks : List Ex) : Ex := .mk k p n 0 ks [] noT
def caseE (p : Int) (e : Ex) (az : List Ar) : Ex := .mk 8 p [] 0 [e] az noT
def annE (p : Int) (e : Ex) (t : Ty) : Ex := .mk 9 p [] 0 [e] [] t
/-- What is to be read: an expression, an atom, the arguments behind a function, the arms of an analysis. -/
inductive EQ where
  | expr
  | atom
  | apps (e : Ex)
  | arms (p : Int) (e : Ex) (acc : List Ar)
abbrev ER := Except Int (Ex × Nat)
def EQ.rank : EQ → Nat
  | .atom => 0
  | .apps _ => 1
  | .arms _ _ _ => 1
  | .expr => 2
def emu (l : List Tok) (q : EQ) (i : Nat) : Nat := 4 * (l.length - i) + q.rank
def letStep (l : List Tok) (f : EQ → Nat → ER) (kind p : Int) (j : Nat) : ER := match nameAt l j 1 with
  | none => .error (failPos l j)
  | some n => if markAt l (j + 1) [61] then match f .expr (j + 2) with
      | .error p => .error p
      | .ok (a, k) => if wordAt l k inB then match f .expr (k + 1) with
          | .error p => .error p
          | .ok (b, m) => .ok (kidsE kind p n [a, b], m)
        else .error (failPos l k)
    else .error (failPos l (j + 1))
def estep (l : List Tok) (f : EQ → Nat → ER) : EQ → Nat → ER
  | .expr, i =>
    if markAt l i [92] then match nameAt l (i + 1) 1 with
      | none => .error (failPos l (i + 1))
      | some n => if markAt l (i + 2) [46] then match f .expr (i + 3) with
          | .error p => .error p
          | .ok (b, k) => .ok (kidsE 4 (posOf l i) n [b], k)
        else .error (failPos l (i + 2))
    else if wordAt l i letB then (if wordAt l (i + 1) recB then letStep l f 7 (posOf l i) (i + 2) else letStep l f 6 (posOf l i) (i + 1))
    else if wordAt l i caseB then match f .expr (i + 1) with
      | .error p => .error p
      | .ok (e, j) => if wordAt l j ofB then f (.arms (posOf l i) e []) (j + 1) else .error (failPos l j)
    else match f .atom i with
      | .error p => .error p
      | .ok (e, j) => f (.apps e) j
  | .apps e, i => if startsEAt l i then match f .atom i with
      | .error p => .error p
      | .ok (a, j) => f (.apps (kidsE 5 e.pos [] [e, a])) j
    else .ok (e, i)
  | .arms p e acc, i => match nameAt l i 2 with
    | none => .error (failPos l i)
    | some c => if markAt l (i + 1 + (lowers (l.drop (i + 1))).length) [46] then match f .expr (i + 1 + (lowers (l.drop (i + 1))).length + 1) with
        | .error p => .error p
        | .ok (b, m) => if markAt l m [124] then f (.arms p e (acc ++ [.mk (posOf l i) c (lowers (l.drop (i + 1))) b])) (m + 1)
          else if wordAt l m endB then .ok (caseE p e (acc ++ [.mk (posOf l i) c (lowers (l.drop (i + 1))) b]), m + 1) else .error (failPos l m)
      else .error (failPos l (i + 1 + (lowers (l.drop (i + 1))).length))
  | .atom, i => match l[i]? with
    | none => .error (failPos l i)
    | some t => if t.kind = 1 then .ok (leafE 1 t.pos t.text 0, i + 1) else if t.kind = 2 then .ok (leafE 2 t.pos t.text 0, i + 1) else if t.kind = 3 then .ok (leafE 3 t.pos [] (numOf t.text), i + 1)
      else if t.kind = 5 ∧ t.text = [63] then .ok (leafE 10 t.pos [] 0, i + 1)
      else if t.kind = 5 ∧ t.text = [123] then match f .expr (i + 1) with
        | .error p => .error p
        | .ok (x, j) => if markAt l j [125] then .ok (kidsE 11 t.pos [] [x], j + 1) else .error (failPos l j)
      else if t.kind = 5 ∧ t.text = [40] then match f .expr (i + 1) with
        | .error p => .error p
        | .ok (x, j) => if markAt l j [58] then match tread l .whole (j + 1) with
            | .error p => .error p
            | .ok (y, k) => if markAt l k [41] then .ok (annE t.pos x y, k + 1) else .error (failPos l k)
          else if markAt l j [41] then .ok (x, j + 1) else .error (failPos l j)
      else .error (failPos l i)
/-- A call goes only to what is smaller. -/
def ecall (l : List Tok) (f : EQ → Nat → ER) (q : EQ) (i : Nat) (q' : EQ) (i' : Nat) : ER := if emu l q' i' < emu l q i then f q' i' else .error 0
def erun (l : List Tok) : Nat → EQ → Nat → ER
  | 0, _, _ => .error 0
  | n + 1, q, i => estep l (ecall l (erun l n) q i) q i
theorem erun_fuel {l : List Tok} : ∀ (n m : Nat) (q : EQ) (i : Nat), emu l q i < n → emu l q i < m → erun l n q i = erun l m q i
  | 0, _, _, _, h, _ => by omega
  | _ + 1, 0, _, _, _, h => by omega
  | n + 1, m + 1, q, i, h, h' => by
    have : ecall l (erun l n) q i = ecall l (erun l m) q i := by
      funext q' i'
      unfold ecall
      by_cases hlt : emu l q' i' < emu l q i
      · rw [if_pos hlt, if_pos hlt]; exact erun_fuel n m q' i' (by omega) (by omega)
      · rw [if_neg hlt, if_neg hlt]
    show estep l (ecall l (erun l n) q i) q i = estep l (ecall l (erun l m) q i) q i
    rw [this]
/-- What is read. -/
def eread (l : List Tok) (q : EQ) (i : Nat) : ER := erun l (emu l q i + 1) q i
theorem eread_eq (l : List Tok) (q : EQ) (i : Nat) : eread l q i = estep l (ecall l (eread l) q i) q i := by
  have : ecall l (erun l (emu l q i)) q i = ecall l (eread l) q i := by
    funext q' i'
    unfold ecall
    by_cases hlt : emu l q' i' < emu l q i
    · rw [if_pos hlt, if_pos hlt]; exact erun_fuel _ _ q' i' hlt (by omega)
    · rw [if_neg hlt, if_neg hlt]
  show estep l (ecall l (erun l (emu l q i)) q i) q i = _
  rw [this]
theorem ecall_lt {l : List Tok} {q q' : EQ} {i i' : Nat} (h : i < l.length) (h' : i < i') : ecall l (eread l) q i q' i' = eread l q' i' := if_pos (by
  have h1 : q'.rank ≤ 2 := by cases q' <;> simp [EQ.rank]
  unfold emu
  omega)
theorem ecall_rank {l : List Tok} {q q' : EQ} {i : Nat} (h : q'.rank < q.rank) : ecall l (eread l) q i q' i = eread l q' i := if_pos (by unfold emu; omega)
end Go.Th
-- sum 9df14911fb5f99a2

/- The walks of package readtype: applied, whole, joined. -/
import Derived.Test.YtblbbjhbigpgnaaDoorTypD
namespace Go.Proofs.YtblbbjhbigpgnaaDoor
open Go Go.Eng Go.Th Go.Proofs
set_option maxRecDepth 10000
set_option maxHeartbeats 4000000
attribute [local irreducible] wpList Code.wp Run bodyPost Go.Eng.Ends Exit.then Exit.inBlock Again Wq Kq
theorem TyV.cells5 {g : Ghost} {v : Value} {t : Ty} (h : TyV g v t) : ∃ a m c, v = .agg #[.int .i64 t.kind, str t.name, .int .i64 t.id, .int .i64 t.home, .slice a m c] ∧ TyAt g t (tyCells t (.slice a m c)) := by
  obtain ⟨sl, rfl, ht⟩ := h
  obtain ⟨_, hsl, _⟩ := ht.args
  obtain ⟨a, m, c, rfl⟩ := SlAt.form hsl
  exact ⟨a, m, c, rfl, ht⟩
theorem applied_step {l : List Tok} (hb : TB l) (m : Nat) (hA : ∀ g v i, ToksAt g v l → i ≤ l.length → l.length - i < m → SpecN Tryd.prog 43 [v, .int .i64 i] g (rdPost l.length i (tread l .atom i)))
    (g : Ghost) (v : Value) (i : Nat) (hs : ToksAt g v l) (hi : i ≤ l.length) (hm : l.length - i < m) : SpecN Tryd.prog 49 [v, .int .i64 i] g (rdPost l.length i (tread l .applied i)) := by
  have hb1 := hb.1
  have hr := tread_applied l i
  have hra := tread_atom l i
  refine spec_of_run Tryd.func49 rfl Tryd.ntmps49 rfl fun E hE => ?_
  refine r_sr ?_
  refine r_alloc rfl (fun b4 => ?_)
  refine r_ev rfl rfl ?_; refine r_ev rfl rfl ?_; refine r_nn ?_; refine r_sr ?_; refine r_ev rfl rfl ?_; refine r_ev rfl rfl ?_
  refine r_callN rfl rfl (hA g v i hs hi hm) ?_
  rintro w g1 hw hle
  cases hq : tread l .atom i with
  | error p =>
    rw [hq] at hw
    have hr' : tread l .applied i = .error p := by
      rw [hr]
      cases hl : l[i]? with
      | none => exact hq
      | some t =>
        simp only
        by_cases h2 : t.kind = 2
        · rw [hl] at hra
          simp only [h2] at hra
          rw [hq] at hra
          simp at hra
        · rw [if_neg h2]; exact hq
    obtain ⟨tv, j, t, rfl, hty, hj⟩ := hw
    obtain ⟨a, m', c, rfl, ht⟩ := hty.cells5
    unfold failV
    refine r_ev rfl rfl ?_; refine r_ev rfl rfl ?_; refine r_ev rfl rfl ?_; refine r_ev rfl rfl ?_
    refine r_alloc rfl (fun b7 => ?_)
    refine r_storeA 0 rfl rfl rfl rfl (by rfl) (by repeat' (first | exact rfl | assumption | refine all_cons ?_ ?_)) rfl ?_; refine r_ev rfl rfl ?_; refine r_ev rfl rfl ?_; refine r_nn ?_; refine r_seq ?_; refine r_sr ?_; refine r_ev rfl rfl ?_; refine r_neq_nil_held rfl rfl ?_; refine r_ev rfl rfl ?_; refine r_pass rfl rfl rfl ?_; refine r_pass rfl rfl rfl ?_; refine r_pass rfl rfl rfl ?_; refine r_pass rfl rfl rfl ?_; refine r_pass rfl rfl rfl ?_; refine r_pass rfl rfl rfl ?_; refine r_ev rfl rfl ?_; refine r_nn ?_; refine r_cond_true rfl ?_; refine r_sr ?_; refine r_loadB 0 rfl rfl rfl (by rfl) ?_; refine r_ev rfl rfl ?_; refine r_ev rfl rfl ?_; refine r_storeA 1 rfl rfl rfl rfl (by rfl) (by repeat' (first | exact rfl | assumption | refine all_cons ?_ ?_)) rfl ?_; refine r_ev rfl rfl ?_; refine r_ev rfl rfl ?_; refine r_nn ?_; refine r_retc ?_; refine r_then_ret ?_
    refine r_ret3 [] rfl (res_blk 1 rfl rfl (by rfl)) (.tmp rfl) (.tmp rfl) (by simp) ⟨?_, rfl⟩
    rw [hr']
    exact ⟨_, j, t, rfl, ⟨_, rfl, ht⟩, hj⟩
  | ok q =>
    obtain ⟨t, j⟩ := q
    rw [hq] at hw
    obtain ⟨tv, rfl, hty, hj1, hj2⟩ := hw
    have hlt : i < l.length := by omega
    rw [toks_some hlt] at hr hra
    simp only at hr hra
    obtain ⟨b, off, cap, rfl, hx⟩ := hs.held hlt
    obtain ⟨a, m', c, rfl, ht⟩ := hty.cells5
    refine r_ev rfl rfl ?_; refine r_ev rfl rfl ?_; refine r_ev rfl rfl ?_; refine r_ev rfl rfl ?_
    refine r_alloc rfl (fun b7 => ?_)
    refine r_storeA 0 rfl rfl rfl rfl (by rfl) (by repeat' (first | exact rfl | assumption | refine all_cons ?_ ?_)) rfl ?_; refine r_ev rfl rfl ?_; refine r_ev rfl rfl ?_; refine r_nn ?_; refine r_seq ?_; refine r_sr ?_; refine r_ev rfl rfl ?_; refine r_neq_nil_nil rfl rfl ?_; refine r_ev rfl rfl ?_; refine r_tev rfl rfl rfl ?_; refine r_tev rfl rfl rfl ?_; refine r_take rfl ?_; refine r_indexAddr rfl rfl rfl rfl (by omega) ?_; refine r_take rfl ?_; refine r_fieldAddr rfl rfl ?_; refine r_take rfl ?_
    refine r_load1 rfl rfl (SlAt.cell tokCells_len (fun k x h => hle _ _ _ (hx k x h)) hlt 0 rfl) ?_
    refine r_tev rfl rfl rfl ?_; refine r_ev rfl rfl ?_; refine r_nn ?_
    refine r_cond rfl (fun h2 => ?_) (fun h2 => ?_)
    · have hr' : tread l .applied i = .ok (t, j) := by rw [hr, if_neg h2]; exact hq
      refine r_sr ?_; refine r_loadB 0 rfl rfl rfl (by rfl) ?_; refine r_ev rfl rfl ?_; refine r_ev rfl rfl ?_; refine r_storeA 1 rfl rfl rfl rfl (by rfl) (by repeat' (first | exact rfl | assumption | refine all_cons ?_ ?_)) rfl ?_; refine r_ev rfl rfl ?_; refine r_ev rfl rfl ?_; refine r_nn ?_; refine r_retc ?_; refine r_then_ret ?_
      refine r_ret3 [] rfl (res_blk 1 rfl rfl (by rfl)) (.tmp rfl) (.tmp rfl) (by simp) ⟨?_, rfl⟩
      rw [hr']
      exact ⟨_, rfl, ⟨_, rfl, ht⟩, hj1, hj2⟩
    have h2' : l[i].kind = 2 := Decidable.not_not.1 h2
    have hra' : (Except.ok (t, j) : TR) = .ok (conT l[i].text [], i + 1) := by rw [← hq, hra, h2']; simp
    simp only [Except.ok.injEq, Prod.mk.injEq] at hra'
    obtain ⟨rfl, rfl⟩ := hra'
    rw [if_pos h2'] at hr
    have hsv := hs.mono hle
    clear hra hq
    refine r_skip ?_; refine r_then_normal ?_; refine r_sr ?_; refine r_ev rfl rfl ?_; refine r_nn ?_; refine r_seq ?_; refine r_block ?_
    refine r_nilRow 30 5 ?_
    refine r_loop (ι := Nat × List Ty × Value × List Value × Ghost) (fun p => [(0, .slice (some ⟨b, off, none⟩) l.length cap), (4, ptr b4 0), (7, ptr b7 0), (8, .int .i64 p.1), (10, p.2.2.1)]) (fun p => p.2.2.2.2)
      (fun p => [.row 30 5 p.2.2.1 p.2.1.length p.2.2.2.1, .blk b7 30 (tyCells (conT l[i].text []) (.slice a m' c)), .blk b4 30 [.int .i64 0, str [], .int .i64 0, .int .i64 0, .slice none 0 0]])
      (fun p => i + 1 ≤ p.1 ∧ p.1 ≤ l.length ∧ p.2.1.length ≤ p.1 ∧ TysAt p.2.2.2.2 p.2.1 p.2.2.2.1 ∧ Ghost.le g1 p.2.2.2.2 ∧ tread l .applied i = tread l (.args l[i].text p.2.1) p.1) (fun p => l.length - p.1) (i + 1, [], .slice none 0 0, [], g1)
      ⟨Nat.le_refl _, hj2, by simp, tysNil g1, Ghost.le_refl _, hr⟩ ⟨rfl, rfl, rfl, rfl, rfl, trivial⟩ rfl rfl ?_
    rintro ⟨j, ta, slv, xs, g2⟩ ⟨k1, k2, k3, k4, k5, k6⟩
    simp only at k1 k2 k3 k4 k5 k6
    show Run E _ [(0, .slice (some ⟨b, off, none⟩) l.length cap), (4, ptr b4 0), (7, ptr b7 0), (8, .int .i64 j), (10, slv)] g2 [.row 30 5 slv ta.length xs, .blk b7 30 (tyCells (conT l[i].text []) (.slice a m' c)), .blk b4 30 [.int .i64 0, str [], .int .i64 0, .int .i64 0, .slice none 0 0]] _
    have hs2 := hsv.mono k5
    have hra := tread_args l l[i].text ta j
    refine r_cut [(0, .slice (some ⟨b, off, none⟩) l.length cap), (4, ptr b4 0), (7, ptr b7 0), (8, .int .i64 j), (10, slv)] (startsAt l j = true) ?_ ?_
    · intro hst
      have hjl := startsAt_lt hst
      rw [hst] at hra
      simp only [if_true] at hra
      refine r_block ?_; refine r_sr ?_
      refine r_alloc rfl (fun b11 => ?_)
      refine r_nn ?_; refine r_seq ?_; refine r_sr ?_; refine r_ev rfl rfl ?_; refine r_ev rfl rfl ?_
      refine r_callN rfl rfl (hA g2 _ j hs2 k2 (by omega)) ?_
      rintro w g3 hw hle3
      cases hq : tread l .atom j with
      | error p =>
        rw [hq] at hw hra
        simp only at hra
        obtain ⟨tv, j', t', rfl, hty', hj'⟩ := hw
        obtain ⟨a2, m2, c2, rfl, ht2⟩ := hty'.cells5
        unfold failV
        refine r_ev rfl rfl ?_; refine r_ev rfl rfl ?_; refine r_ev rfl rfl ?_; refine r_ev rfl rfl ?_; refine r_storeA 0 rfl rfl rfl rfl (by rfl) (by repeat' (first | exact rfl | assumption | refine all_cons ?_ ?_)) rfl ?_; refine r_ev rfl rfl ?_; refine r_ev rfl rfl ?_; refine r_nn ?_; refine r_sr ?_; refine r_ev rfl rfl ?_; refine r_neq_nil_held rfl rfl ?_; refine r_nn ?_; refine r_cond_true rfl ?_; refine r_sr ?_; refine r_loadB 2 rfl rfl rfl (by rfl) ?_; refine r_ev rfl rfl ?_; refine r_ev rfl rfl ?_; refine r_storeA 3 rfl rfl rfl rfl (by rfl) (by repeat' (first | exact rfl | assumption | refine all_cons ?_ ?_)) rfl ?_; refine r_ev rfl rfl ?_; refine r_ev rfl rfl ?_; refine r_nn ?_; refine r_retc ?_; refine r_then_ret ?_; refine r_in_ret ?_; refine r_then_ret ?_; refine r_in_ret ?_; refine r_then_ret ?_
        refine r_ret3 [] rfl (res_blk 3 rfl rfl (by rfl)) (.tmp rfl) (.tmp rfl) (by simp) ⟨?_, rfl⟩
        rw [k6, hra]
        exact ⟨_, j', conT l[i].text [], rfl, ⟨_, rfl, (ht.mono k5).mono hle3⟩, by omega⟩
      | ok q =>
        obtain ⟨x, j'⟩ := q
        rw [hq] at hw hra
        simp only at hra
        obtain ⟨tv, rfl, hty', hj1', hj2'⟩ := hw
        rw [if_pos hj1'] at hra
        obtain ⟨a2, m2, c2, rfl, ht2⟩ := hty'.cells5
        refine r_ev rfl rfl ?_; refine r_ev rfl rfl ?_; refine r_ev rfl rfl ?_; refine r_ev rfl rfl ?_; refine r_storeA 0 rfl rfl rfl rfl (by rfl) (by repeat' (first | exact rfl | assumption | refine all_cons ?_ ?_)) rfl ?_; refine r_ev rfl rfl ?_; refine r_ev rfl rfl ?_; refine r_nn ?_; refine r_sr ?_; refine r_ev rfl rfl ?_; refine r_neq_nil_nil rfl rfl ?_; refine r_nn ?_; refine r_cond_false rfl ?_; refine r_skip ?_; refine r_then_normal ?_; refine r_region ?_; refine r_ev rfl rfl ?_; refine r_loadB 0 rfl rfl rfl (by rfl) ?_
        refine r_buildSlice rfl rfl (by rfl) (by rfl) (by rfl) (by rfl) (by rfl) (fun b2 => ?_)
        refine r_appendRow 2 0 rfl rfl rfl rfl rfl (by rfl) (by rfl) rfl (by unfold maxLen; omega) (by omega) (fun v' _ => ?_)
        refine r_ev rfl rfl ?_; refine r_nil ?_; refine r_in_normal ?_; refine r_then_normal ?_
        refine r_drop (own' := [_, _, _]) (.cons _ (.cons _ (List.Sublist.refl _))) ?_
        refine r_again (j', ta ++ [x], v', xs ++ tyCells x (.slice a2 m2 c2), g3) ⟨by simp only; omega, hj2', by simp; omega, TysAt.snoc ht2 (k4.mono hle3), Ghost.le_trans k5 hle3, by simp only; rw [k6, hra]⟩ (by simp only; omega) ⟨rfl, rfl, rfl, rfl, rfl, trivial⟩ rfl ?_
        simp [tyCells, repN]
    · intro K hK
      refine r_sr ?_; refine r_ev rfl rfl ?_; refine r_ev rfl rfl ?_; refine r_len_sl rfl rfl ?_; refine r_ev rfl rfl ?_; refine r_ev rfl rfl ?_
      refine r_gdec rfl rfl (fun hjl => ?_) (fun hjl => ?_)
      · have hjl' : j < l.length := by omega
        refine r_tev rfl rfl rfl ?_; refine r_tev rfl rfl rfl ?_; refine r_take rfl ?_; refine r_indexAddr rfl rfl rfl rfl (by omega) ?_; refine r_take rfl ?_
        refine r_load rfl rfl (vs := tokCells l[j]) (toks_rd (fun k x h => k5 _ _ _ (hle _ _ _ (hx k x h))) hjl') rfl ?_
        refine r_take rfl ?_
        refine r_callP rfl rfl (starts_spec g2 l[j]) ?_
        cases hst : startsT l[j] with
        | true =>
          refine r_ev rfl rfl ?_; refine r_nn ?_; refine r_cond_true rfl ?_; refine r_skip ?_; refine r_then_normal ?_
          exact hK _ (by unfold startsAt; rw [toks_some hjl']; exact hst) ⟨rfl, rfl, rfl, rfl, rfl, trivial⟩
        | false =>
          refine r_ev rfl rfl ?_; refine r_nn ?_; refine r_cond_false rfl ?_; refine r_exit ?_; refine r_then_exit ?_; refine r_then_exit ?_; refine r_in_exit ?_; refine r_then_normal ?_; refine r_sr ?_; refine r_fieldAddr rfl rfl ?_; refine r_loadB1 1 rfl rfl rfl rfl ?_; refine r_ev rfl rfl ?_
          have hst' : startsAt l j = false := by unfold startsAt; rw [toks_some hjl']; exact hst
          rw [hst'] at hra
          refine r_publishRow (fun g3 hg3 hs3 => ?_)
          skip
          refine r_callN rfl rfl (tCon_spec g3 l[i].text slv ta xs hs3 (k4.mono hg3) (by omega)) ?_
          rintro w g4 hw hle4
          obtain ⟨a2, m2, c2, rfl, ht2⟩ := hw.cells5
          refine r_ev rfl rfl ?_; refine r_storeA 1 rfl rfl rfl rfl (by rfl) (by repeat' (first | exact rfl | assumption | refine all_cons ?_ ?_)) rfl ?_; refine r_ev rfl rfl ?_; refine r_ev rfl rfl ?_; refine r_nn ?_; refine r_retc ?_
          refine r_ret3 [] rfl (res_blk 1 rfl rfl (by rfl)) (.tmp rfl) (.tmp rfl) (by simp) ⟨?_, rfl⟩
          rw [k6, hra]
          exact ⟨_, rfl, ⟨_, rfl, ht2⟩, by omega, k2⟩
      · refine r_pass rfl rfl rfl ?_; refine r_pass rfl rfl rfl ?_; refine r_pass rfl rfl rfl ?_; refine r_pass rfl rfl rfl ?_; refine r_pass rfl rfl rfl ?_; refine r_ev rfl rfl ?_; refine r_nn ?_; refine r_cond_false rfl ?_; refine r_exit ?_; refine r_then_exit ?_; refine r_then_exit ?_; refine r_in_exit ?_; refine r_then_normal ?_; refine r_sr ?_; refine r_fieldAddr rfl rfl ?_; refine r_loadB1 1 rfl rfl rfl rfl ?_; refine r_ev rfl rfl ?_
        have hst' : startsAt l j = false := by unfold startsAt; rw [List.getElem?_eq_none (by omega)]
        rw [hst'] at hra
        refine r_publishRow (fun g3 hg3 hs3 => ?_)
        skip
        refine r_callN rfl rfl (tCon_spec g3 l[i].text slv ta xs hs3 (k4.mono hg3) (by omega)) ?_
        rintro w g4 hw hle4
        obtain ⟨a2, m2, c2, rfl, ht2⟩ := hw.cells5
        refine r_ev rfl rfl ?_; refine r_storeA 1 rfl rfl rfl rfl (by rfl) (by repeat' (first | exact rfl | assumption | refine all_cons ?_ ?_)) rfl ?_; refine r_ev rfl rfl ?_; refine r_ev rfl rfl ?_; refine r_nn ?_; refine r_retc ?_
        refine r_ret3 [] rfl (res_blk 1 rfl rfl (by rfl)) (.tmp rfl) (.tmp rfl) (by simp) ⟨?_, rfl⟩
        rw [k6, hra]
        exact ⟨_, rfl, ⟨_, rfl, ht2⟩, by omega, k2⟩
theorem whole_step {l : List Tok} (hb : TB l) (m : Nat) (hW : ∀ g v i, ToksAt g v l → i ≤ l.length → l.length - i < m → SpecN Tryd.prog 36 [v, .int .i64 i] g (rdPost l.length i (tread l .whole i)))
    (hP : ∀ g v i, ToksAt g v l → i ≤ l.length → l.length - i < m + 1 → SpecN Tryd.prog 49 [v, .int .i64 i] g (rdPost l.length i (tread l .applied i)))
    (g : Ghost) (v : Value) (i : Nat) (hs : ToksAt g v l) (hi : i ≤ l.length) (hm : l.length - i < m + 1) : SpecN Tryd.prog 36 [v, .int .i64 i] g (rdPost l.length i (tread l .whole i)) := by
  have hb1 := hb.1
  have hr := tread_whole l i
  refine spec_of_run Tryd.func36 rfl Tryd.ntmps36 rfl fun E hE => ?_
  refine r_sr ?_
  refine r_alloc rfl (fun b4 => ?_)
  refine r_ev rfl rfl ?_; refine r_ev rfl rfl ?_; refine r_nn ?_; refine r_sr ?_; refine r_ev rfl rfl ?_; refine r_ev rfl rfl ?_
  refine r_callN rfl rfl (hP g v i hs hi hm) ?_
  rintro w g1 hw hle
  cases hq : tread l .applied i with
  | error p =>
    rw [hq] at hw hr
    simp only at hr
    obtain ⟨tv, j, t, rfl, hty, hj⟩ := hw
    obtain ⟨a, m', c, rfl, ht⟩ := hty.cells5
    unfold failV
    refine r_ev rfl rfl ?_; refine r_ev rfl rfl ?_; refine r_ev rfl rfl ?_; refine r_ev rfl rfl ?_
    refine r_alloc rfl (fun b7 => ?_)
    refine r_storeA 0 rfl rfl rfl rfl (by rfl) (by repeat' (first | exact rfl | assumption | refine all_cons ?_ ?_)) rfl ?_; refine r_ev rfl rfl ?_; refine r_ev rfl rfl ?_; refine r_nn ?_; refine r_seq ?_; refine r_sr ?_; refine r_ev rfl rfl ?_; refine r_neq_nil_held rfl rfl ?_; refine r_ev rfl rfl ?_; refine r_pass rfl rfl rfl ?_; refine r_pass rfl rfl rfl ?_; refine r_pass rfl rfl rfl ?_; refine r_pass rfl rfl rfl ?_; refine r_ev rfl rfl ?_; refine r_nn ?_; refine r_cond_true rfl ?_; refine r_sr ?_; refine r_loadB 0 rfl rfl rfl (by rfl) ?_; refine r_ev rfl rfl ?_; refine r_ev rfl rfl ?_; refine r_storeA 1 rfl rfl rfl rfl (by rfl) (by repeat' (first | exact rfl | assumption | refine all_cons ?_ ?_)) rfl ?_; refine r_ev rfl rfl ?_; refine r_ev rfl rfl ?_; refine r_nn ?_; refine r_retc ?_; refine r_then_ret ?_
    refine r_ret3 [] rfl (res_blk 1 rfl rfl (by rfl)) (.tmp rfl) (.tmp rfl) (by simp) ⟨?_, rfl⟩
    rw [hr]
    exact ⟨_, j, t, rfl, ⟨_, rfl, ht⟩, hj⟩
  | ok q =>
    obtain ⟨t, j⟩ := q
    rw [hq] at hw hr
    simp only at hr
    obtain ⟨tv, rfl, hty, hj1, hj2⟩ := hw
    obtain ⟨a, m', c, rfl, ht⟩ := hty.cells5
    refine r_ev rfl rfl ?_; refine r_ev rfl rfl ?_; refine r_ev rfl rfl ?_; refine r_ev rfl rfl ?_
    refine r_alloc rfl (fun b7 => ?_)
    refine r_storeA 0 rfl rfl rfl rfl (by rfl) (by repeat' (first | exact rfl | assumption | refine all_cons ?_ ?_)) rfl ?_; refine r_ev rfl rfl ?_; refine r_ev rfl rfl ?_; refine r_nn ?_; refine r_seq ?_; refine r_sr ?_; refine r_ev rfl rfl ?_; refine r_neq_nil_nil rfl rfl ?_; refine r_ev rfl rfl ?_; refine r_tev rfl rfl rfl ?_; refine r_tev rfl rfl rfl ?_; refine r_take rfl ?_
    refine r_callP rfl rfl (mark_spec5 g1 v l (hs.mono hle) j arrowB) ?_
    cases hk : markAt l j arrowB with
    | false =>
      rw [hk] at hr
      refine r_tev rfl rfl rfl ?_; refine r_ev rfl rfl ?_; refine r_nn ?_; refine r_cond_true rfl ?_; refine r_sr ?_; refine r_loadB 0 rfl rfl rfl (by rfl) ?_; refine r_ev rfl rfl ?_; refine r_ev rfl rfl ?_; refine r_storeA 1 rfl rfl rfl rfl (by rfl) (by repeat' (first | exact rfl | assumption | refine all_cons ?_ ?_)) rfl ?_; refine r_ev rfl rfl ?_; refine r_ev rfl rfl ?_; refine r_nn ?_; refine r_retc ?_; refine r_then_ret ?_
      refine r_ret3 [] rfl (res_blk 1 rfl rfl (by rfl)) (.tmp rfl) (.tmp rfl) (by simp) ⟨?_, rfl⟩
      rw [hr]
      exact ⟨_, rfl, ⟨_, rfl, ht⟩, hj1, hj2⟩
    | true =>
      rw [hk] at hr
      have hjl := tokAt_lt hk
      simp only [if_true] at hr
      rw [if_pos (by omega)] at hr
      refine r_tev rfl rfl rfl ?_; refine r_ev rfl rfl ?_; refine r_nn ?_; refine r_cond_false rfl ?_; refine r_skip ?_; refine r_then_normal ?_; refine r_sr ?_; refine r_ev rfl rfl ?_; refine r_ev rfl rfl ?_; refine r_add rfl rfl rfl (by omega) ?_
      refine r_callN rfl (xs := _) rfl (hW g1 _ (j + 1) (hs.mono hle) (by omega) (by omega)) ?_
      rintro w g2 hw hle2
      cases hq2 : tread l .whole (j + 1) with
      | error p =>
        rw [hq2] at hw hr
        simp only at hr
        obtain ⟨tv, j2, t2, rfl, hty2, hj2'⟩ := hw
        obtain ⟨a2, m2, c2, rfl, ht2⟩ := hty2.cells5
        unfold failV
        refine r_ev rfl rfl ?_; refine r_ev rfl rfl ?_; refine r_ev rfl rfl ?_; refine r_ev rfl rfl ?_
        refine r_alloc rfl (fun b9 => ?_)
        refine r_storeA 0 rfl rfl rfl rfl (by rfl) (by repeat' (first | exact rfl | assumption | refine all_cons ?_ ?_)) rfl ?_; refine r_ev rfl rfl ?_; refine r_ev rfl rfl ?_; refine r_nn ?_; refine r_sr ?_; refine r_loadB 1 rfl rfl rfl (by rfl) ?_; refine r_loadB 0 rfl rfl rfl (by rfl) ?_
        refine r_callN rfl rfl (tArrow_spec g2 t t2 _ _ ⟨_, rfl, ht.mono hle2⟩ ⟨_, rfl, ht2⟩) ?_
        rintro w g3 hw hle3
        obtain ⟨a3, m3, c3, rfl, ht3⟩ := hw.cells5
        refine r_ev rfl rfl ?_; refine r_ev rfl rfl ?_; refine r_storeA 2 rfl rfl rfl rfl (by rfl) (by repeat' (first | exact rfl | assumption | refine all_cons ?_ ?_)) rfl ?_; refine r_ev rfl rfl ?_; refine r_ev rfl rfl ?_; refine r_nn ?_; refine r_retc ?_
        refine r_ret3 [] rfl (res_blk 2 rfl rfl (by rfl)) (.tmp rfl) (.tmp rfl) (by simp) ⟨?_, rfl⟩
        rw [hr]
        exact ⟨_, j2, _, rfl, ⟨_, rfl, ht3⟩, by omega⟩
      | ok q2 =>
        obtain ⟨t2, j2⟩ := q2
        rw [hq2] at hw hr
        simp only at hr
        obtain ⟨tv, rfl, hty2, hk1, hk2⟩ := hw
        obtain ⟨a2, m2, c2, rfl, ht2⟩ := hty2.cells5
        refine r_ev rfl rfl ?_; refine r_ev rfl rfl ?_; refine r_ev rfl rfl ?_; refine r_ev rfl rfl ?_
        refine r_alloc rfl (fun b9 => ?_)
        refine r_storeA 0 rfl rfl rfl rfl (by rfl) (by repeat' (first | exact rfl | assumption | refine all_cons ?_ ?_)) rfl ?_; refine r_ev rfl rfl ?_; refine r_ev rfl rfl ?_; refine r_nn ?_; refine r_sr ?_; refine r_loadB 1 rfl rfl rfl (by rfl) ?_; refine r_loadB 0 rfl rfl rfl (by rfl) ?_
        refine r_callN rfl rfl (tArrow_spec g2 t t2 _ _ ⟨_, rfl, ht.mono hle2⟩ ⟨_, rfl, ht2⟩) ?_
        rintro w g3 hw hle3
        obtain ⟨a3, m3, c3, rfl, ht3⟩ := hw.cells5
        refine r_ev rfl rfl ?_; refine r_ev rfl rfl ?_; refine r_storeA 2 rfl rfl rfl rfl (by rfl) (by repeat' (first | exact rfl | assumption | refine all_cons ?_ ?_)) rfl ?_; refine r_ev rfl rfl ?_; refine r_ev rfl rfl ?_; refine r_nn ?_; refine r_retc ?_
        refine r_ret3 [] rfl (res_blk 2 rfl rfl (by rfl)) (.tmp rfl) (.tmp rfl) (by simp) ⟨?_, rfl⟩
        rw [hr]
        exact ⟨_, rfl, ⟨_, rfl, ht3⟩, by omega, hk2⟩
theorem read_all {l : List Tok} (hb : TB l) : ∀ m : Nat,
    (∀ g v i, ToksAt g v l → i ≤ l.length → l.length - i < m → SpecN Tryd.prog 36 [v, .int .i64 i] g (rdPost l.length i (tread l .whole i))) ∧
    (∀ g v i, ToksAt g v l → i ≤ l.length → l.length - i < m → SpecN Tryd.prog 43 [v, .int .i64 i] g (rdPost l.length i (tread l .atom i)))
  | 0 => ⟨fun _ _ _ _ _ h => by omega, fun _ _ _ _ _ h => by omega⟩
  | m + 1 => by
    have ih := read_all hb m
    have hA := fun g v i => atom_step hb m ih.1 g v i
    exact ⟨fun g v i => whole_step hb m ih.1 (fun g v i => applied_step hb (m + 1) hA g v i) g v i, hA⟩
theorem whole_spec {l : List Tok} (hb : TB l) (g : Ghost) (v : Value) (i : Nat) (hs : ToksAt g v l) (hi : i ≤ l.length) : SpecN Tryd.prog 36 [v, .int .i64 i] g (rdPost l.length i (tread l .whole i)) := (read_all hb _).1 g v i hs hi (Nat.lt_succ_self _)
theorem atom_spec {l : List Tok} (hb : TB l) (g : Ghost) (v : Value) (i : Nat) (hs : ToksAt g v l) (hi : i ≤ l.length) : SpecN Tryd.prog 43 [v, .int .i64 i] g (rdPost l.length i (tread l .atom i)) := (read_all hb _).2 g v i hs hi (Nat.lt_succ_self _)
end Go.Proofs.YtblbbjhbigpgnaaDoor
-- sum 5361ba0d0210ec3b

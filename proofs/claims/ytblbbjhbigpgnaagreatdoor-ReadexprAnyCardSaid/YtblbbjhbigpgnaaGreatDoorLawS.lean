/- The walk of ReadexprAny. -/
import Derived.Test.YtblbbjhbigpgnaaGreatDoorLawJ
import Derived.Test.YtblbbjhbigpgnaaGreatDoorK4
namespace Go.Th
theorem let_bnd {l : List Tok} {f : EQ → Nat → ER} {k p : Int} {i : Nat} {e : Ex} {j : Nat} (hf : ∀ q i e j, i ≤ l.length → f q i = .ok (e, j) → j ≤ l.length) (h : letStep l f k p i = .ok (e, j)) : j ≤ l.length := by
  unfold letStep at h
  split at h
  · cases h
  · split at h
    · rename_i hm
      have hi := tokAt_lt hm
      split at h
      · cases h
      · rename_i a k1 h1
        have i1 := hf _ _ _ _ hi h1
        split at h
        · rename_i hw
          have hi2 := tokAt_lt hw
          split at h
          · cases h
          · rename_i b m h2
            have i2 := hf _ _ _ _ hi2 h2
            cases h
            exact i2
        · cases h
    · cases h
theorem eread_bnd (l : List Tok) : ∀ (N : Nat) (q : EQ) (i : Nat) (e : Ex) (j : Nat), emu l q i < N → i ≤ l.length → eread l q i = .ok (e, j) → j ≤ l.length
  | 0, _, _, _, _, h, _, _ => by omega
  | N + 1, q, i, e, j, hN, hi, h => by
    have ih := eread_bnd l N
    rw [eread_eq] at h
    have hf : ∀ q' i' e' j', i' ≤ l.length → ecall l (eread l) q i q' i' = .ok (e', j') → j' ≤ l.length := fun q' i' e' j' hi' hc => by
      obtain ⟨h1, h2⟩ := ecall_ok hc
      exact ih q' i' e' j' (by omega) hi' h2
    cases q with
    | expr =>
      simp only [estep] at h
      split at h
      · split at h
        · cases h
        · split at h
          · rename_i hm
            have := tokAt_lt hm
            split at h
            · cases h
            · rename_i b k h1
              have i1 := hf _ _ _ _ this h1
              cases h; exact i1
          · cases h
      · split at h
        · rename_i hm
          have h0 := tokAt_lt hm
          split at h
          · exact let_bnd hf h
          · exact let_bnd hf h
        · split at h
          · rename_i hm
            have h0 := tokAt_lt hm
            split at h
            · cases h
            · rename_i e1 j1 h1
              split at h
              · rename_i hw
                exact hf _ _ _ _ (tokAt_lt hw) h
              · cases h
          · split at h
            · cases h
            · rename_i e1 j1 h1
              exact hf _ _ _ _ (hf _ _ _ _ hi h1) h
    | apps x =>
      simp only [estep] at h
      split at h
      · split at h
        · cases h
        · rename_i a j1 h1
          exact hf _ _ _ _ (hf _ _ _ _ hi h1) h
      · cases h; exact hi
    | arms p x acc =>
      simp only [estep] at h
      split at h
      · cases h
      · split at h
        · rename_i hm
          have h0 := tokAt_lt hm
          split at h
          · cases h
          · rename_i b m h1
            split at h
            · rename_i hw
              exact hf _ _ _ _ (tokAt_lt hw) h
            · split at h
              · rename_i hw
                cases h
                exact tokAt_lt hw
              · cases h
        · cases h
    | atom =>
      simp only [estep] at h
      split at h
      · cases h
      · rename_i t ht
        have h0 := (List.getElem?_eq_some_iff.1 ht).1
        split at h
        · cases h; exact h0
        · split at h
          · cases h; exact h0
          · split at h
            · cases h; exact h0
            · split at h
              · cases h; exact h0
              · split at h
                · split at h
                  · cases h
                  · rename_i x1 j1 h1
                    split at h
                    · rename_i hw
                      cases h; exact tokAt_lt hw
                    · cases h
                · split at h
                  · split at h
                    · cases h
                    · rename_i x1 j1 h1
                      split at h
                      · split at h
                        · cases h
                        · rename_i y k h2
                          split at h
                          · rename_i hw
                            cases h; exact tokAt_lt hw
                          · cases h
                      · split at h
                        · rename_i hw
                          cases h; exact tokAt_lt hw
                        · cases h
                  · cases h
end Go.Th
namespace Go.Proofs.YtblbbjhbigpgnaaGreatDoor
open Go Go.Eng Go.Th Go.Proofs
set_option maxRecDepth 10000
set_option maxHeartbeats 4000000
attribute [local irreducible] wpList Code.wp Run bodyPost Go.Eng.Ends Exit.then Exit.inBlock Again Wq Kq
theorem idxOf_le (n : Nat) (i : Int) : idxOf n i ≤ n := by unfold idxOf; split <;> omega
theorem eans_size {l : List Tok} {k : Nat} (hk : k ≤ l.length) (hl : l.length ≤ 400000) : sizeE (eansT (eread l .expr k)) ≤ 1000000 ∧ sizeE (eansT (eread l .atom k)) ≤ 1000000 := by
  have hno : sizeE noE = 1 := by simp [noE, sizeE, sizeEs, sizeAs]
  constructor
  · cases h : eread l .expr k with
    | error p => simp only [eansT, hno]; omega
    | ok q =>
      obtain ⟨e, j⟩ := q
      have h1 := eread_size l _ .expr k e j (Nat.lt_succ_self _) h
      have h2 := eread_bnd l _ .expr k e j (Nat.lt_succ_self _) hk h
      simp only [eansT] at h1 ⊢
      omega
  · cases h : eread l .atom k with
    | error p => simp only [eansT, hno]; omega
    | ok q =>
      obtain ⟨e, j⟩ := q
      have h1 := eread_size l _ .atom k e j (Nat.lt_succ_self _) h
      have h2 := eread_bnd l _ .atom k e j (Nat.lt_succ_self _) hk h
      simp only [eansT] at h1 ⊢
      omega
theorem ReadexprAny_spec (g : Ghost) (hg : ErrT g) (vp : Value) (lp : List Int) (hsp : SlAt g 1 vp lp.length (ints lp)) (_hw : ∀ n ∈ lp, -9223372036854775808 ≤ n ∧ n ≤ 9223372036854775807) (i : Int) (_hi : -9223372036854775808 ≤ i ∧ i ≤ 9223372036854775807)
    (vr : Value) (lr : List Tok) (hsr : ToksAt g vr lr) (hbr : ∀ t ∈ lr, t.text.length ≤ 9223372036854775807) : Pure Tryz.prog 5 [vp, .int .i64 i, vr] g (.bool true) := by
  refine spec_of_run Tryz.func5 rfl Tryz.ntmps5 rfl fun E hE => ?_
  refine r_sr ?_
  refine r_ev rfl rfl ?_; refine r_nn ?_; refine r_seq ?_; refine r_sr ?_
  refine r_callN rfl rfl (first6_spec g hg) ?_
  rintro _ g1 rfl hle1
  have hg1 := hg.mono hle1
  obtain ⟨pa, pc, rfl⟩ := slForm2 hsp
  obtain ⟨ra, rc, rfl⟩ := slForm2 hsr
  have hsp1 := hsp.mono hle1
  have hsr1 := hsr.mono hle1
  refine r_ev rfl rfl ?_; refine r_nn ?_; refine r_cond_false rfl ?_; refine r_skip ?_; refine r_then_normal ?_; refine r_seq ?_; refine r_sr ?_; refine r_ev rfl rfl ?_; refine r_len_sl rfl rfl ?_; refine r_ev rfl rfl ?_; refine r_ev rfl rfl ?_
  refine r_gdec rfl rfl (fun h50 => ?_) (fun h50 => ?_)
  · refine r_shrink hE hle1 ?_
    refine r_pass rfl rfl rfl ?_; refine r_pass rfl rfl rfl ?_; refine r_pass rfl rfl rfl ?_; refine r_ev rfl rfl ?_; refine r_nn ?_; refine r_cond_true rfl ?_; refine r_sr ?_; refine r_ev rfl rfl ?_; refine r_nn ?_; refine r_retc ?_; refine r_then_ret ?_
    exact r_ret1 [] rfl rfl (by simp) ⟨rfl, rfl, rfl⟩
  refine r_tev rfl rfl rfl ?_; refine r_take rfl ?_; refine r_len_sl rfl rfl ?_; refine r_tev rfl rfl rfl ?_; refine r_ev rfl rfl ?_; refine r_nn ?_
  refine r_cond rfl (fun h20 => ?_) (fun h20 => ?_)
  · refine r_shrink hE hle1 ?_
    refine r_sr ?_; refine r_ev rfl rfl ?_; refine r_nn ?_; refine r_retc ?_; refine r_then_ret ?_
    exact r_ret1 [] rfl rfl (by simp) ⟨rfl, rfl, rfl⟩
  refine r_skip ?_; refine r_then_normal ?_; refine r_sr ?_; refine r_ev rfl rfl ?_
  refine r_callN rfl rfl (Tokens_spec g1 _ lr (by omega) hbr hsr1) ?_
  rintro wr g2 hwr hle2
  have hg2 := hg1.mono hle2
  have hTr := goodToks_TB (l := lr) (by omega)
  have hKr := goodToks_KW lr
  have hszr : ∀ k, k ≤ (goodToks lr).length → sizeE (eansT (eread (goodToks lr) .expr k)) ≤ 1000000 ∧ sizeE (eansT (eread (goodToks lr) .atom k)) ≤ 1000000 := fun k hk => eans_size hk (by have := goodToks_len lr; omega)
  generalize goodToks lr = qr at hwr hTr hKr hszr
  obtain ⟨wra, wrc, rfl⟩ := slForm2 hwr
  refine r_ev rfl rfl ?_; refine r_nn ?_; refine r_sr ?_; refine r_ev rfl rfl ?_
  refine r_callN rfl rfl (words6_spec g2 _ lp (by omega) (hsp1.mono hle2)) ?_
  rintro wl g3 hwl hle3
  have hg3 := hg2.mono hle3
  have hTl := toksOf_TB (words6 lp)
  have hKl := toksOf_KW (words6 lp)
  have hsz : ∀ k, k ≤ (toksOf (words6 lp)).length → sizeE (eansT (eread (toksOf (words6 lp)) .expr k)) ≤ 1000000 ∧ sizeE (eansT (eread (toksOf (words6 lp)) .atom k)) ≤ 1000000 := fun k hk => eans_size hk (by have := (toksOf_facts (words6 lp)).1; omega)
  generalize toksOf (words6 lp) = ql at hwl hTl hKl hsz
  obtain ⟨wla, wlc, rfl⟩ := slForm2 hwl
  have hql := hTl.1
  refine r_ev rfl rfl ?_; refine r_nn ?_; refine r_seq ?_; refine r_sr ?_; refine r_ev rfl rfl ?_; refine r_ev rfl rfl ?_; refine r_ev rfl rfl ?_; refine r_len_sl rfl rfl ?_; refine r_add rfl rfl rfl (by omega) ?_
  -- STOP1
  refine r_callP rfl rfl (Mod_spec g3 i (ql.length + 1) (by omega)) ?_
  generalize modI i (ql.length + 1) = im
  skip
  refine r_buildSlice rfl rfl (by rfl) (by rfl) (by rfl) (by rfl) (by rfl) (fun b48 => ?_)
  refine r_publishRow (fun g4 hle4 hs4 => ?_)
  refine r_len_sl rfl rfl ?_; refine r_ev rfl rfl ?_; refine r_nn ?_; refine r_block ?_
  have hg4 := hg3.mono hle4
  have hle14 := Ghost.le_trans hle1 (Ghost.le_trans hle2 (Ghost.le_trans hle3 hle4))
  refine r_loop (ι := Nat × Ghost) (fun p => [(1, .int .i64 i), (2, .slice wra qr.length wrc), (7, .slice wla ql.length wlc), (48, .slice (some ⟨b48, 0, none⟩) 3 3), (49, .int .i64 3), (50, .int .i64 p.1)]) (fun p => p.2) (fun _ => []) (fun p => p.1 ≤ 3 ∧ Ghost.le g4 p.2) (fun p => 3 - p.1) (0, g4) ⟨by simp, Ghost.le_refl _⟩ ⟨rfl, rfl, rfl, rfl, rfl, rfl, trivial⟩ rfl rfl ?_
  rintro ⟨k, gk⟩ ⟨hk, hlk⟩
  simp only at hk hlk
  show Run E _ [(1, .int .i64 i), (2, .slice wra qr.length wrc), (7, .slice wla ql.length wlc), (48, .slice (some ⟨b48, 0, none⟩) 3 3), (49, .int .i64 3), (50, .int .i64 k)] gk [] _
  have hggk := hg4.mono hlk
  have hwlk := (hwl.mono hle4).mono hlk
  have hs4k := hs4.mono hlk
  refine r_sr ?_; refine r_ev rfl rfl ?_; refine r_nn ?_; refine r_seq ?_
  refine r_cond rfl (fun hlt => ?_) (fun hlt => ?_)
  · have hlt' : k < 3 := by omega
    obtain ⟨x, hx⟩ : ∃ x : Int, Rd gk [] b48 (0 + k * 1) [.int .i64 x] := by
      obtain ⟨b', o', c', hsl, hx⟩ := hs4k.held (show k < 3 by omega)
      cases hsl
      match k, hlt' with
      | 0, _ => exact ⟨_, rd_g1 (hx 0 _ rfl)⟩
      | 1, _ => exact ⟨_, rd_g1 (hx 1 _ rfl)⟩
      | 2, _ => exact ⟨_, rd_g1 (hx 2 _ rfl)⟩
    refine r_skip ?_; refine r_then_normal ?_; refine r_seq ?_; refine r_block ?_; refine r_sr ?_; refine r_indexAddr rfl rfl rfl rfl (by omega) ?_
    refine r_load1 rfl rfl hx ?_
    refine r_ev rfl rfl ?_; refine r_nn ?_; refine r_sr ?_; refine r_ev rfl rfl ?_; refine r_ev rfl rfl ?_
    refine r_callN rfl rfl (eExpr_spec hTl hKl gk hggk _ x hwlk) ?_
    rintro _ h1 ⟨va, rfl, hva⟩ hlh1
    have hgh1 := hggk.mono hlh1
    obtain ⟨va1, va2, va3, va4, va5, va6, va7, va8, va9, rfl, vat⟩ := hva.form
    refine r_ev rfl rfl ?_; refine r_ev rfl rfl ?_; refine r_ev rfl rfl ?_; refine r_ev rfl rfl ?_
    refine r_alloc rfl (fun b10 => ?_)
    skip
    refine r_alloc rfl (fun b12 => ?_)
    refine r_storeA 1 rfl rfl rfl rfl (by rfl) (by repeat' (first | exact rfl | assumption | refine all_cons ?_ ?_)) rfl ?_; refine r_ev rfl rfl ?_; refine r_storeA 0 rfl rfl rfl rfl (by rfl) (by repeat' (first | exact rfl | assumption | refine all_cons ?_ ?_)) rfl ?_; refine r_nn ?_; refine r_sr ?_; refine r_ev rfl rfl ?_; refine r_ev rfl rfl ?_
    refine r_callN rfl rfl (r6Expr_spec hTl hKl h1 _ x (hwlk.mono hlh1)) ?_
    rintro _ h2 ⟨vb, rfl, hvb⟩ hlh2
    have hgh2 := hgh1.mono hlh2
    obtain ⟨vb1, vb2, vb3, vb4, vb5, vb6, vb7, vb8, vb9, rfl, vbt⟩ := hvb.form
    refine r_ev rfl rfl ?_; refine r_ev rfl rfl ?_; refine r_ev rfl rfl ?_; refine r_ev rfl rfl ?_
    refine r_alloc rfl (fun b13 => ?_)
    skip
    refine r_alloc rfl (fun b15 => ?_)
    refine r_storeA 1 rfl rfl rfl rfl (by rfl) (by repeat' (first | exact rfl | assumption | refine all_cons ?_ ?_)) rfl ?_; refine r_ev rfl rfl ?_; refine r_storeA 0 rfl rfl rfl rfl (by rfl) (by repeat' (first | exact rfl | assumption | refine all_cons ?_ ?_)) rfl ?_; refine r_nn ?_; refine r_sr ?_; refine r_ev rfl rfl ?_; refine r_ev rfl rfl ?_
    refine r_callN rfl rfl (eAtom_spec hTl hKl h2 hgh2 _ x ((hwlk.mono hlh1).mono hlh2)) ?_
    rintro _ h3 ⟨vc, rfl, hvc⟩ hlh3
    have hgh3 := hgh2.mono hlh3
    obtain ⟨vc1, vc2, vc3, vc4, vc5, vc6, vc7, vc8, vc9, rfl, vct⟩ := hvc.form
    refine r_ev rfl rfl ?_; refine r_ev rfl rfl ?_; refine r_ev rfl rfl ?_; refine r_ev rfl rfl ?_
    refine r_alloc rfl (fun b16 => ?_)
    skip
    refine r_alloc rfl (fun b18 => ?_)
    refine r_storeA 1 rfl rfl rfl rfl (by rfl) (by repeat' (first | exact rfl | assumption | refine all_cons ?_ ?_)) rfl ?_; refine r_ev rfl rfl ?_; refine r_storeA 0 rfl rfl rfl rfl (by rfl) (by repeat' (first | exact rfl | assumption | refine all_cons ?_ ?_)) rfl ?_; refine r_nn ?_; refine r_sr ?_; refine r_ev rfl rfl ?_; refine r_ev rfl rfl ?_
    refine r_callN rfl rfl (r6Atom_spec hTl hKl h3 _ x (((hwlk.mono hlh1).mono hlh2).mono hlh3)) ?_
    rintro _ h4 ⟨vd, rfl, hvd⟩ hlh4
    have hgh4 := hgh3.mono hlh4
    obtain ⟨vd1, vd2, vd3, vd4, vd5, vd6, vd7, vd8, vd9, rfl, vdt⟩ := hvd.form
    refine r_ev rfl rfl ?_; refine r_ev rfl rfl ?_; refine r_ev rfl rfl ?_; refine r_ev rfl rfl ?_
    refine r_alloc rfl (fun b19 => ?_)
    skip
    refine r_alloc rfl (fun b21 => ?_)
    refine r_storeA 1 rfl rfl rfl rfl (by rfl) (by repeat' (first | exact rfl | assumption | refine all_cons ?_ ?_)) rfl ?_; refine r_ev rfl rfl ?_; refine r_storeA 0 rfl rfl rfl rfl (by rfl) (by repeat' (first | exact rfl | assumption | refine all_cons ?_ ?_)) rfl ?_; refine r_nn ?_; refine r_sr ?_
    refine r_loadB 7 rfl rfl rfl (by rfl) ?_
    refine r_loadB 5 rfl rfl rfl (by rfl) ?_
    have hva' := ((hva.mono hlh2).mono hlh3).mono hlh4
    have hvb' := (hvb.mono hlh3).mono hlh4
    have hvc' := hvc.mono hlh4
    refine r_callP rfl rfl (sameAll_spec h4 _ _ _ (hsz _ (idxOf_le _ _)).1 hva' hvb') ?_
    refine r_ev rfl rfl ?_; refine r_ev rfl rfl ?_; refine r_tev rfl rfl rfl ?_; refine r_tev rfl rfl rfl ?_; refine r_tev rfl rfl rfl ?_; refine r_ev rfl rfl ?_; refine r_ev rfl rfl ?_
    refine r_gdec rfl rfl (fun e1 => ?_) (fun e1 => ?_)
    · exact absurd rfl e1
    refine r_take rfl ?_; refine r_loadB 6 rfl rfl rfl (by rfl) ?_; refine r_take rfl ?_; refine r_loadB 4 rfl rfl rfl (by rfl) ?_; refine r_take rfl ?_
    refine r_v rfl (val_neq_pair rfl rfl) ?_
    refine r_ev rfl rfl ?_; refine r_ev rfl rfl ?_
    refine r_gdec rfl rfl (fun e2 => ?_) (fun e2 => ?_)
    · exact absurd ⟨rfl, rfl⟩ e2
    refine r_take rfl ?_; refine r_loadB 3 rfl rfl rfl (by rfl) ?_; refine r_take rfl ?_; refine r_loadB 1 rfl rfl rfl (by rfl) ?_; refine r_take rfl ?_
    refine r_callP rfl rfl (sameAll_spec h4 _ _ _ (hsz _ (idxOf_le _ _)).2 hvc' hvd) ?_
    refine r_tev rfl rfl rfl ?_; refine r_ev rfl rfl ?_; refine r_ev rfl rfl ?_; refine r_tev rfl rfl rfl ?_; refine r_tev rfl rfl rfl ?_; refine r_tev rfl rfl rfl ?_; refine r_ev rfl rfl ?_; refine r_ev rfl rfl ?_
    refine r_gdec rfl rfl (fun e3 => ?_) (fun e3 => ?_)
    · exact absurd rfl e3
    refine r_take rfl ?_; refine r_loadB 2 rfl rfl rfl (by rfl) ?_; refine r_take rfl ?_; refine r_loadB 0 rfl rfl rfl (by rfl) ?_; refine r_take rfl ?_
    refine r_v rfl (val_neq_pair rfl rfl) ?_
    refine r_ev rfl rfl ?_; refine r_nn ?_
    refine r_cond rfl (fun e4 => ?_) (fun e4 => ?_)
    · exact absurd ⟨rfl, rfl⟩ e4
    refine r_skip ?_; refine r_in_normal ?_; refine r_then_normal ?_; refine r_region ?_; refine r_add rfl rfl rfl (by omega) ?_; refine r_ev rfl rfl ?_; refine r_nn ?_
    -- STOP4
    refine r_drop (own' := []) (List.nil_sublist _) ?_
    exact r_again (k + 1, h4) ⟨by simp only; omega, Ghost.le_trans hlk (Ghost.le_trans hlh1 (Ghost.le_trans hlh2 (Ghost.le_trans hlh3 hlh4)))⟩ (by simp only; omega) ⟨rfl, rfl, rfl, rfl, rfl, rfl, trivial⟩ rfl rfl
  · have hwrk := ((hwr.mono hle3).mono hle4).mono hlk
    refine r_exit ?_; refine r_then_exit ?_; refine r_then_exit ?_; refine r_in_exit ?_; refine r_then_normal ?_; refine r_sr ?_; refine r_ev rfl rfl ?_; refine r_ev rfl rfl ?_
    refine r_callN rfl rfl (eExpr_spec hTr hKr gk hggk _ i hwrk) ?_
    rintro _ h1 ⟨va, rfl, hva⟩ hlh1
    obtain ⟨va1, va2, va3, va4, va5, va6, va7, va8, va9, rfl, vat⟩ := hva.form
    refine r_ev rfl rfl ?_; refine r_ev rfl rfl ?_; refine r_ev rfl rfl ?_; refine r_ev rfl rfl ?_
    refine r_alloc rfl (fun b22 => ?_)
    skip
    refine r_alloc rfl (fun b24 => ?_)
    refine r_storeA 1 rfl rfl rfl rfl (by rfl) (by repeat' (first | exact rfl | assumption | refine all_cons ?_ ?_)) rfl ?_; refine r_ev rfl rfl ?_; refine r_storeA 0 rfl rfl rfl rfl (by rfl) (by repeat' (first | exact rfl | assumption | refine all_cons ?_ ?_)) rfl ?_; refine r_nn ?_; refine r_sr ?_; refine r_ev rfl rfl ?_; refine r_ev rfl rfl ?_
    refine r_callN rfl rfl (r6Expr_spec hTr hKr h1 _ i (hwrk.mono hlh1)) ?_
    rintro _ h2 ⟨vb, rfl, hvb⟩ hlh2
    obtain ⟨vb1, vb2, vb3, vb4, vb5, vb6, vb7, vb8, vb9, rfl, vbt⟩ := hvb.form
    refine r_ev rfl rfl ?_; refine r_ev rfl rfl ?_; refine r_ev rfl rfl ?_; refine r_ev rfl rfl ?_
    refine r_alloc rfl (fun b25 => ?_)
    skip
    refine r_alloc rfl (fun b27 => ?_)
    refine r_storeA 1 rfl rfl rfl rfl (by rfl) (by repeat' (first | exact rfl | assumption | refine all_cons ?_ ?_)) rfl ?_; refine r_ev rfl rfl ?_; refine r_storeA 0 rfl rfl rfl rfl (by rfl) (by repeat' (first | exact rfl | assumption | refine all_cons ?_ ?_)) rfl ?_; refine r_nn ?_; refine r_sr ?_; refine r_loadB 3 rfl rfl rfl (by rfl) ?_; refine r_loadB 1 rfl rfl rfl (by rfl) ?_
    refine r_callP rfl rfl (Equal4_spec h2 _ _ _ _ (hszr _ (idxOf_le _ _)).1 (hszr _ (idxOf_le _ _)).1 rfl (hva.mono hlh2) hvb) ?_
    refine r_ev rfl rfl ?_; refine r_tev rfl rfl rfl ?_; refine r_tev rfl rfl rfl ?_; refine r_tev rfl rfl rfl ?_; refine r_ev rfl rfl ?_; refine r_ev rfl rfl ?_
    refine r_gdec rfl rfl (fun e1 => ?_) (fun e1 => ?_)
    · refine r_take rfl ?_; refine r_loadB 2 rfl rfl rfl (by rfl) ?_; refine r_take rfl ?_; refine r_loadB 0 rfl rfl rfl (by rfl) ?_; refine r_take rfl ?_
      refine r_v rfl (val_eql_pair rfl rfl) ?_
      refine r_ev rfl rfl ?_; refine r_ev rfl rfl ?_; refine r_nn ?_; refine r_retc ?_
      refine r_shrink hE (Ghost.le_trans hle14 (Ghost.le_trans hlk (Ghost.le_trans hlh1 hlh2))) ?_
      exact r_ret1 [] rfl rfl (List.nil_sublist _) ⟨by simp, rfl, rfl⟩
    · exact absurd rfl e1
end Go.Proofs.YtblbbjhbigpgnaaGreatDoor
-- sum 26ef9dda96160e63

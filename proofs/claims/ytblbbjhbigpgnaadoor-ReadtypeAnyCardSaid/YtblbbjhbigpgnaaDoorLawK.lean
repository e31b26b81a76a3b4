/- The walk of ReadtypeAny. -/
import Derived.Test.YtblbbjhbigpgnaaDoorLawJ
namespace Go.Th
theorem kindOf_len {s : Bytes} (h : kindOf s ≠ 0) : s.length ≤ 12 := by
  unfold kindOf at h
  by_cases h1 : isKeyword s = true
  · have h2 : s ∈ keywords := by simpa [isKeyword] using h1
    have : ∀ x ∈ keywords, x.length ≤ 12 := by decide
    exact this s h2
  rw [if_neg h1] at h
  by_cases h2 : isLower s = true
  · simp only [isLower, Bool.and_eq_true, decide_eq_true_eq] at h2; exact h2.1.2
  rw [if_neg h2] at h
  by_cases h3 : isUpper s = true
  · simp only [isUpper, Bool.and_eq_true, decide_eq_true_eq] at h3; exact h3.2
  rw [if_neg h3] at h
  by_cases h4 : isInteger s = true
  · simp only [isInteger, Bool.and_eq_true, decide_eq_true_eq] at h4; have := h4.1.1.2; omega
  rw [if_neg h4] at h
  by_cases h5 : isMark s = true
  · rcases mark_cases h5 with rfl | ⟨c, _, rfl⟩ <;> simp
  rw [if_neg h5] at h
  exact absurd rfl h
end Go.Th
namespace Go.Proofs.YtblbbjhbigpgnaaDoor
open Go Go.Eng Go.Th Go.Proofs
set_option maxRecDepth 10000
attribute [local irreducible] wpList Code.wp Run bodyPost Go.Eng.Ends Exit.then Exit.inBlock Again Wq Kq
theorem goodToks_ok (l : List Tok) : ∀ t ∈ goodToks l, t.kind = kindOf t.text ∧ 0 ≤ t.pos ∧ t.pos < 4000 ∧ t.text.length ≤ 12 := by
  intro t ht
  have h := (List.mem_filter.1 ht).2
  simp only [validTok, Bool.and_eq_true, decide_eq_true_eq] at h
  obtain ⟨⟨⟨⟨h1, h2⟩, h3⟩, h4⟩, h5⟩ := h
  exact ⟨h3.symm, h4, h5, kindOf_len (by omega)⟩
theorem goodToks_TB {l : List Tok} (h : l.length ≤ 1000) : TB (goodToks l) := by
  have := goodToks_len l
  refine ⟨by omega, fun t ht => ?_⟩
  obtain ⟨_, h1, h2, h3⟩ := goodToks_ok l t ht
  exact ⟨by omega, by omega, by omega⟩
theorem goodToks_KW (l : List Tok) : KW (goodToks l) := fun t ht => (goodToks_ok l t ht).1
theorem ReadtypeAny_spec (g : Ghost) (hg : ErrT g) (vp : Value) (lp : List Int) (hsp : SlAt g 1 vp lp.length (ints lp)) (_hw : ∀ n ∈ lp, -9223372036854775808 ≤ n ∧ n ≤ 9223372036854775807) (i : Int) (_hi : -9223372036854775808 ≤ i ∧ i ≤ 9223372036854775807)
    (vr : Value) (lr : List Tok) (hsr : ToksAt g vr lr) (hbr : ∀ t ∈ lr, t.text.length ≤ 9223372036854775807) : Pure Tryd.prog 5 [vp, .int .i64 i, vr] g (.bool true) := by
  refine spec_of_run Tryd.func5 rfl Tryd.ntmps5 rfl fun E hE => ?_
  refine r_sr ?_
  refine r_ev rfl rfl ?_; refine r_nn ?_; refine r_seq ?_; refine r_sr ?_
  refine r_callN rfl rfl (first5_spec g hg) ?_
  rintro _ g1 rfl hle1
  have hg1 := hg.mono hle1
  obtain ⟨pa, pc, rfl⟩ := slForm2 hsp
  obtain ⟨ra, rc, rfl⟩ := slForm2 hsr
  have hsp1 := hsp.mono hle1
  have hsr1 := hsr.mono hle1
  refine r_ev rfl rfl ?_; refine r_nn ?_; refine r_cond_false rfl ?_; refine r_skip ?_; refine r_then_normal ?_; refine r_seq ?_; refine r_sr ?_; refine r_ev rfl rfl ?_; refine r_len_sl rfl rfl ?_; refine r_ev rfl rfl ?_; refine r_ev rfl rfl ?_
  refine r_gdec rfl rfl (fun h40 => ?_) (fun h40 => ?_)
  · refine r_shrink hE hle1 ?_
    refine r_pass rfl rfl rfl ?_; refine r_pass rfl rfl rfl ?_; refine r_pass rfl rfl rfl ?_; refine r_ev rfl rfl ?_; refine r_nn ?_; refine r_cond_true rfl ?_; refine r_sr ?_; refine r_ev rfl rfl ?_; refine r_nn ?_; refine r_retc ?_; refine r_then_ret ?_
    exact r_ret1 [] rfl rfl (by simp) ⟨rfl, rfl, rfl⟩
  refine r_tev rfl rfl rfl ?_; refine r_take rfl ?_; refine r_len_sl rfl rfl ?_; refine r_tev rfl rfl rfl ?_; refine r_ev rfl rfl ?_; refine r_nn ?_
  refine r_cond rfl (fun h20 => ?_) (fun h20 => ?_)
  · refine r_shrink hE hle1 ?_
    refine r_sr ?_; refine r_ev rfl rfl ?_; refine r_nn ?_; refine r_retc ?_; refine r_then_ret ?_
    exact r_ret1 [] rfl rfl (by simp) ⟨rfl, rfl, rfl⟩
  refine r_skip ?_; refine r_then_normal ?_; refine r_sr ?_; refine r_ev rfl rfl ?_
  refine r_callN rfl rfl (Tokens_spec g1 _ lr (by omega) hbr hsr1) ?_
  rintro wr g2 hwr hle2
  have hg2 := hg1.mono hle2
  have hTr := goodToks_TB (l := lr) (by omega)
  have hKr := goodToks_KW lr
  generalize goodToks lr = qr at hwr hTr hKr
  obtain ⟨wra, wrc, rfl⟩ := slForm2 hwr
  refine r_ev rfl rfl ?_; refine r_nn ?_; refine r_sr ?_; refine r_ev rfl rfl ?_
  refine r_callN rfl rfl (words5_spec g2 _ lp (by omega) (hsp1.mono hle2)) ?_
  rintro wl g3 hwl hle3
  have hg3 := hg2.mono hle3
  have hTl := toksOf_TB (words5 lp)
  have hKl := toksOf_KW (words5 lp)
  generalize toksOf (words5 lp) = ql at hwl hTl hKl
  obtain ⟨wla, wlc, rfl⟩ := slForm2 hwl
  have hql := hTl.1
  refine r_ev rfl rfl ?_; refine r_nn ?_; refine r_seq ?_; refine r_sr ?_; refine r_ev rfl rfl ?_; refine r_ev rfl rfl ?_; refine r_ev rfl rfl ?_; refine r_len_sl rfl rfl ?_; refine r_add rfl rfl rfl (by omega) ?_
  -- STOP1
  refine r_callP rfl rfl (Mod_spec g3 i (ql.length + 1) (by omega)) ?_
  generalize modI i (ql.length + 1) = im
  skip
  refine r_buildSlice rfl rfl (by rfl) (by rfl) (by rfl) (by rfl) (by rfl) (fun b48 => ?_)
  refine r_publishRow (fun g4 hle4 hs4 => ?_)
  refine r_len_sl rfl rfl ?_; refine r_ev rfl rfl ?_; refine r_nn ?_; refine r_block ?_
  have hg4 := hg3.mono hle4
  have hle14 := Ghost.le_trans hle1 (Ghost.le_trans hle2 (Ghost.le_trans hle3 hle4))
  refine r_loop (ι := Nat × Ghost) (fun p => [(1, .int .i64 i), (2, .slice wra qr.length wrc), (7, .slice wla ql.length wlc), (48, .slice (some ⟨b48, 0, none⟩) 3 3), (49, .int .i64 3), (50, .int .i64 p.1)]) (fun p => p.2) (fun _ => []) (fun p => p.1 ≤ 3 ∧ Ghost.le g4 p.2) (fun p => 3 - p.1) (0, g4) ⟨by simp, Ghost.le_refl _⟩ ⟨rfl, rfl, rfl, rfl, rfl, rfl, trivial⟩ rfl rfl ?_
  rintro ⟨k, gk⟩ ⟨hk, hlk⟩
  simp only at hk hlk
  show Run E _ [(1, .int .i64 i), (2, .slice wra qr.length wrc), (7, .slice wla ql.length wlc), (48, .slice (some ⟨b48, 0, none⟩) 3 3), (49, .int .i64 3), (50, .int .i64 k)] gk [] _
  have hggk := hg4.mono hlk
  have hwlk := (hwl.mono hle4).mono hlk
  have hs4k := hs4.mono hlk
  refine r_sr ?_; refine r_ev rfl rfl ?_; refine r_nn ?_; refine r_seq ?_
  refine r_cond rfl (fun hlt => ?_) (fun hlt => ?_)
  · have hlt' : k < 3 := by omega
    obtain ⟨x, hx⟩ : ∃ x : Int, Rd gk [] b48 (0 + k * 1) [.int .i64 x] := by
      obtain ⟨b', o', c', hsl, hx⟩ := hs4k.held (show k < 3 by omega)
      cases hsl
      match k, hlt' with
      | 0, _ => exact ⟨_, rd_g1 (hx 0 _ rfl)⟩
      | 1, _ => exact ⟨_, rd_g1 (hx 1 _ rfl)⟩
      | 2, _ => exact ⟨_, rd_g1 (hx 2 _ rfl)⟩
    refine r_skip ?_; refine r_then_normal ?_; refine r_seq ?_; refine r_block ?_; refine r_sr ?_; refine r_indexAddr rfl rfl rfl rfl (by omega) ?_
    refine r_load1 rfl rfl hx ?_
    refine r_ev rfl rfl ?_; refine r_nn ?_; refine r_sr ?_; refine r_ev rfl rfl ?_; refine r_ev rfl rfl ?_
    refine r_callN rfl rfl (rType_spec hTl gk hggk _ x hwlk) ?_
    rintro _ h1 ⟨va, rfl, hva⟩ hlh1
    have hgh1 := hggk.mono hlh1
    obtain ⟨vaa, vam, vac, rfl, vat⟩ := hva.cells5
    refine r_ev rfl rfl ?_; refine r_ev rfl rfl ?_; refine r_ev rfl rfl ?_; refine r_ev rfl rfl ?_
    refine r_alloc rfl (fun b10 => ?_)
    skip
    refine r_alloc rfl (fun b12 => ?_)
    refine r_storeA 1 rfl rfl rfl rfl (by rfl) (by repeat' (first | exact rfl | assumption | refine all_cons ?_ ?_)) rfl ?_; refine r_ev rfl rfl ?_; refine r_storeA 0 rfl rfl rfl rfl (by rfl) (by repeat' (first | exact rfl | assumption | refine all_cons ?_ ?_)) rfl ?_; refine r_nn ?_; refine r_sr ?_; refine r_ev rfl rfl ?_; refine r_ev rfl rfl ?_
    refine r_callN rfl rfl (r5Type_spec hTl hKl h1 _ x (hwlk.mono hlh1)) ?_
    rintro _ h2 ⟨vb, rfl, hvb⟩ hlh2
    have hgh2 := hgh1.mono hlh2
    obtain ⟨vba, vbm, vbc, rfl, vbt⟩ := hvb.cells5
    refine r_ev rfl rfl ?_; refine r_ev rfl rfl ?_; refine r_ev rfl rfl ?_; refine r_ev rfl rfl ?_
    refine r_alloc rfl (fun b13 => ?_)
    skip
    refine r_alloc rfl (fun b15 => ?_)
    refine r_storeA 1 rfl rfl rfl rfl (by rfl) (by repeat' (first | exact rfl | assumption | refine all_cons ?_ ?_)) rfl ?_; refine r_ev rfl rfl ?_; refine r_storeA 0 rfl rfl rfl rfl (by rfl) (by repeat' (first | exact rfl | assumption | refine all_cons ?_ ?_)) rfl ?_; refine r_nn ?_; refine r_sr ?_; refine r_ev rfl rfl ?_; refine r_ev rfl rfl ?_
    refine r_callN rfl rfl (rAtom_spec hTl h2 hgh2 _ x ((hwlk.mono hlh1).mono hlh2)) ?_
    rintro _ h3 ⟨vc, rfl, hvc⟩ hlh3
    have hgh3 := hgh2.mono hlh3
    obtain ⟨vca, vcm, vcc, rfl, vct⟩ := hvc.cells5
    refine r_ev rfl rfl ?_; refine r_ev rfl rfl ?_; refine r_ev rfl rfl ?_; refine r_ev rfl rfl ?_
    refine r_alloc rfl (fun b16 => ?_)
    skip
    refine r_alloc rfl (fun b18 => ?_)
    refine r_storeA 1 rfl rfl rfl rfl (by rfl) (by repeat' (first | exact rfl | assumption | refine all_cons ?_ ?_)) rfl ?_; refine r_ev rfl rfl ?_; refine r_storeA 0 rfl rfl rfl rfl (by rfl) (by repeat' (first | exact rfl | assumption | refine all_cons ?_ ?_)) rfl ?_; refine r_nn ?_; refine r_sr ?_; refine r_ev rfl rfl ?_; refine r_ev rfl rfl ?_
    refine r_callN rfl rfl (r5Atom_spec hTl hKl h3 _ x (((hwlk.mono hlh1).mono hlh2).mono hlh3)) ?_
    rintro _ h4 ⟨vd, rfl, hvd⟩ hlh4
    have hgh4 := hgh3.mono hlh4
    obtain ⟨vda, vdm, vdc, rfl, vdt⟩ := hvd.cells5
    refine r_ev rfl rfl ?_; refine r_ev rfl rfl ?_; refine r_ev rfl rfl ?_; refine r_ev rfl rfl ?_
    refine r_alloc rfl (fun b19 => ?_)
    skip
    refine r_alloc rfl (fun b21 => ?_)
    refine r_storeA 1 rfl rfl rfl rfl (by rfl) (by repeat' (first | exact rfl | assumption | refine all_cons ?_ ?_)) rfl ?_; refine r_ev rfl rfl ?_; refine r_storeA 0 rfl rfl rfl rfl (by rfl) (by repeat' (first | exact rfl | assumption | refine all_cons ?_ ?_)) rfl ?_; refine r_nn ?_; refine r_sr ?_
    refine r_loadB 7 rfl rfl rfl (by rfl) ?_
    refine r_loadB 5 rfl rfl rfl (by rfl) ?_
    have hva' := ((hva.mono hlh2).mono hlh3).mono hlh4
    have hvb' := (hvb.mono hlh3).mono hlh4
    have hvc' := hvc.mono hlh4
    refine r_callP rfl rfl (Equal_spec h4 _ _ _ hva' hvb') ?_
    refine r_ev rfl rfl ?_; refine r_ev rfl rfl ?_; refine r_tev rfl rfl rfl ?_; refine r_tev rfl rfl rfl ?_; refine r_tev rfl rfl rfl ?_; refine r_ev rfl rfl ?_; refine r_ev rfl rfl ?_
    refine r_gdec rfl rfl (fun e1 => ?_) (fun e1 => ?_)
    · exact absurd rfl e1
    refine r_take rfl ?_; refine r_loadB 6 rfl rfl rfl (by rfl) ?_; refine r_take rfl ?_; refine r_loadB 4 rfl rfl rfl (by rfl) ?_; refine r_take rfl ?_
    refine r_v rfl (val_neq_pair rfl rfl) ?_
    refine r_ev rfl rfl ?_; refine r_ev rfl rfl ?_
    refine r_gdec rfl rfl (fun e2 => ?_) (fun e2 => ?_)
    · exact absurd ⟨rfl, rfl⟩ e2
    refine r_take rfl ?_; refine r_loadB 3 rfl rfl rfl (by rfl) ?_; refine r_take rfl ?_; refine r_loadB 1 rfl rfl rfl (by rfl) ?_; refine r_take rfl ?_
    refine r_callP rfl rfl (Equal_spec h4 _ _ _ hvc' hvd) ?_
    refine r_tev rfl rfl rfl ?_; refine r_ev rfl rfl ?_; refine r_ev rfl rfl ?_; refine r_tev rfl rfl rfl ?_; refine r_tev rfl rfl rfl ?_; refine r_tev rfl rfl rfl ?_; refine r_ev rfl rfl ?_; refine r_ev rfl rfl ?_
    refine r_gdec rfl rfl (fun e3 => ?_) (fun e3 => ?_)
    · exact absurd rfl e3
    refine r_take rfl ?_; refine r_loadB 2 rfl rfl rfl (by rfl) ?_; refine r_take rfl ?_; refine r_loadB 0 rfl rfl rfl (by rfl) ?_; refine r_take rfl ?_
    refine r_v rfl (val_neq_pair rfl rfl) ?_
    refine r_ev rfl rfl ?_; refine r_nn ?_
    refine r_cond rfl (fun e4 => ?_) (fun e4 => ?_)
    · exact absurd ⟨rfl, rfl⟩ e4
    refine r_skip ?_; refine r_in_normal ?_; refine r_then_normal ?_; refine r_region ?_; refine r_add rfl rfl rfl (by omega) ?_; refine r_ev rfl rfl ?_; refine r_nn ?_
    -- STOP4
    refine r_drop (own' := []) (List.nil_sublist _) ?_
    exact r_again (k + 1, h4) ⟨by simp only; omega, Ghost.le_trans hlk (Ghost.le_trans hlh1 (Ghost.le_trans hlh2 (Ghost.le_trans hlh3 hlh4)))⟩ (by simp only; omega) ⟨rfl, rfl, rfl, rfl, rfl, rfl, trivial⟩ rfl rfl
  · have hwrk := ((hwr.mono hle3).mono hle4).mono hlk
    refine r_exit ?_; refine r_then_exit ?_; refine r_then_exit ?_; refine r_in_exit ?_; refine r_then_normal ?_; refine r_sr ?_; refine r_ev rfl rfl ?_; refine r_ev rfl rfl ?_
    refine r_callN rfl rfl (rType_spec hTr gk hggk _ i hwrk) ?_
    rintro _ h1 ⟨va, rfl, hva⟩ hlh1
    obtain ⟨vaa, vam, vac, rfl, vat⟩ := hva.cells5
    refine r_ev rfl rfl ?_; refine r_ev rfl rfl ?_; refine r_ev rfl rfl ?_; refine r_ev rfl rfl ?_
    refine r_alloc rfl (fun b22 => ?_)
    skip
    refine r_alloc rfl (fun b24 => ?_)
    refine r_storeA 1 rfl rfl rfl rfl (by rfl) (by repeat' (first | exact rfl | assumption | refine all_cons ?_ ?_)) rfl ?_; refine r_ev rfl rfl ?_; refine r_storeA 0 rfl rfl rfl rfl (by rfl) (by repeat' (first | exact rfl | assumption | refine all_cons ?_ ?_)) rfl ?_; refine r_nn ?_; refine r_sr ?_; refine r_ev rfl rfl ?_; refine r_ev rfl rfl ?_
    refine r_callN rfl rfl (r5Type_spec hTr hKr h1 _ i (hwrk.mono hlh1)) ?_
    rintro _ h2 ⟨vb, rfl, hvb⟩ hlh2
    obtain ⟨vba, vbm, vbc, rfl, vbt⟩ := hvb.cells5
    refine r_ev rfl rfl ?_; refine r_ev rfl rfl ?_; refine r_ev rfl rfl ?_; refine r_ev rfl rfl ?_
    refine r_alloc rfl (fun b25 => ?_)
    skip
    refine r_alloc rfl (fun b27 => ?_)
    refine r_storeA 1 rfl rfl rfl rfl (by rfl) (by repeat' (first | exact rfl | assumption | refine all_cons ?_ ?_)) rfl ?_; refine r_ev rfl rfl ?_; refine r_storeA 0 rfl rfl rfl rfl (by rfl) (by repeat' (first | exact rfl | assumption | refine all_cons ?_ ?_)) rfl ?_; refine r_nn ?_; refine r_sr ?_; refine r_loadB 3 rfl rfl rfl (by rfl) ?_; refine r_loadB 1 rfl rfl rfl (by rfl) ?_
    refine r_callP rfl rfl (Equal_spec h2 _ _ _ (hva.mono hlh2) hvb) ?_
    refine r_ev rfl rfl ?_; refine r_tev rfl rfl rfl ?_; refine r_tev rfl rfl rfl ?_; refine r_tev rfl rfl rfl ?_; refine r_ev rfl rfl ?_; refine r_ev rfl rfl ?_
    refine r_gdec rfl rfl (fun e1 => ?_) (fun e1 => ?_)
    · refine r_take rfl ?_; refine r_loadB 2 rfl rfl rfl (by rfl) ?_; refine r_take rfl ?_; refine r_loadB 0 rfl rfl rfl (by rfl) ?_; refine r_take rfl ?_
      refine r_v rfl (val_eql_pair rfl rfl) ?_
      refine r_ev rfl rfl ?_; refine r_ev rfl rfl ?_; refine r_nn ?_; refine r_retc ?_
      refine r_shrink hE (Ghost.le_trans hle14 (Ghost.le_trans hlk (Ghost.le_trans hlh1 hlh2))) ?_
      exact r_ret1 [] rfl rfl (List.nil_sublist _) ⟨by simp, rfl, rfl⟩
    · exact absurd rfl e1
end Go.Proofs.YtblbbjhbigpgnaaDoor

/- The walk of typedholesref7.Parse at any text. -/
import Derived.Test.YtpjehhnaojjanaaGreatDoorK19
import Derived.Test.YtpjehhnaojjanaaGreatDoorK17
import Derived.Test.YtpjehhnaojjanaaGreatDoorK11
import Derived.Test.YtpjehhnaojjanaaGreatDoorK13
namespace Go.Proofs.YtpjehhnaojjanaaGreatDoor
open Go Go.Eng Go.Th Go.Proofs
set_option maxRecDepth 10000
set_option maxHeartbeats 4000000
attribute [local irreducible] wpList Code.wp Run bodyPost Go.Eng.Ends Exit.then Exit.inBlock Again Wq Kq
theorem Parse7_spec (g : Ghost) (s : Bytes) (hs : s.length ≤ 9223372036854775807) : SpecN Tryz.prog 11 [str s] g (postPar (parseR s)) := by
  refine spec_of_run Tryz.func11 rfl Tryz.ntmps11 rfl fun E hE => ?_
  refine r_sr ?_
  refine r_alloc rfl (fun b2 => ?_)
  refine r_alloc rfl (fun b3 => ?_)
  refine r_nn ?_; refine r_sr ?_; refine r_ev rfl rfl ?_
  refine r_call rfl rfl (refScan_spec g s hs) ?_
  rintro v g0 own' ⟨rfl, hp⟩ _
  cases hsc : scan s with
  | bad e p =>
    rw [hsc] at hp
    obtain ⟨rfl, rfl⟩ := hp
    have hr : parseR s = .error (e, p) := by unfold parseR; rw [hsc]
    have he : e ≠ 0 := by
      unfold scan at hsc
      split at hsc
      · cases hsc; decide
      · split at hsc
        · cases hsc
        · cases hsc; decide
    rw [hr]
    refine r_ev rfl rfl ?_; refine r_ev rfl rfl ?_; refine r_ev rfl rfl ?_
    refine r_alloc rfl (fun b5 => ?_)
    refine r_ev rfl rfl ?_; refine r_storeA 0 rfl rfl rfl rfl (by rfl) (by repeat' (first | exact rfl | assumption | refine all_cons ?_ ?_)) rfl ?_; refine r_nn ?_; refine r_seq ?_; refine r_sr ?_; refine r_fieldAddr rfl rfl ?_; refine r_loadB1 0 rfl rfl rfl rfl ?_; refine r_ev rfl rfl ?_; refine r_nn ?_
    refine r_cond rfl (fun _ => ?_) (fun h => absurd he h)
    refine r_seq ?_
    refine h_beginE [2, 1] mixed (fun hG => ?_)
    refine h_takeXA 0 rfl (by kernel_rfl) rfl hG ?_; refine ⟨_, (val_build rfl (by rfl)), ?_⟩; refine h_takeXA 1 rfl (by kernel_rfl) rfl hG ?_; refine ⟨_, (val_loadB 0 rfl rfl (by rfl)), ?_⟩
    refine h_one 2 (by kernel_rfl) rfl ?_
    refine r_storeA 2 rfl rfl rfl rfl (by rfl) (by repeat' (first | exact rfl | assumption | refine all_cons ?_ ?_)) rfl ?_; refine r_nn ?_
    refine h_keptA hG ?_
    refine h_one 3 (by kernel_rfl) rfl ?_
    refine r_storeA 1 rfl rfl rfl rfl (by rfl) (by repeat' (first | exact rfl | assumption | refine all_cons ?_ ?_)) rfl ?_; refine r_nn ?_
    refine h_keptA hG ?_
    refine h_done (by kernel_rfl) ?_
    refine r_then_normal ?_; refine r_retc ?_; refine r_then_ret ?_
    exact r_ret2 [] rfl (res_blk 2 rfl rfl (by rfl)) (res_blk 1 rfl rfl (by rfl)) (by simp) ⟨⟨_, rfl, ⟨_, rfl, _, [], _, [], rfl, slNil _ 4, rfl, slNil _ 20, rfl⟩⟩, rfl⟩
  | ok l =>
    rw [hsc] at hp
    obtain ⟨sv, rfl, rfl⟩ := hp
    have hl : toksOf s = l := by unfold toksOf; rw [hsc]
    have hb : TB l := hl ▸ toksOf_TB7 s
    have hkw : KW l := hl ▸ toksOf_KW7 s
    have hb4 : l.length ≤ 4000 := hl ▸ (toksOf_facts s).1
    have hb1 := hb.1
    have hpar : parseR s = match progR l ⟨[], []⟩ 0 with
      | .error p => .error (3, p)
      | .ok P => if (deepR P).1 = 0 then .ok P else .error (deepR P) := by unfold parseR; rw [hsc]; rfl
    rw [hpar]
    clear hpar
    have hwf : ∀ P, progR l ⟨[], []⟩ 0 = .ok P → WfP P := fun P h => progR_wf hb4 h
    obtain ⟨R, hR⟩ : ∃ R, R = progR l ⟨[], []⟩ 0 := ⟨_, rfl⟩
    rw [← hR] at hwf ⊢
    have h0 : ProgS l R ⟨[], []⟩ (.good 0) := ⟨Nat.zero_le _, Nat.zero_le _, Nat.zero_le _, hR⟩
    clear hR
    refine r_publishRow (fun g1 hg1 h1 => ?_)
    have hts : ToksAt g1 sv l := h1
    obtain ⟨sa, sc, rfl⟩ := slForm2 h1
    refine r_ev rfl rfl ?_; refine r_ev rfl rfl ?_; refine r_ev rfl rfl ?_
    refine r_alloc rfl (fun b5 => ?_)
    refine r_ev rfl rfl ?_; refine r_storeA 0 rfl rfl rfl rfl (by rfl) (by repeat' (first | exact rfl | assumption | refine all_cons ?_ ?_)) rfl ?_; refine r_nn ?_; refine r_seq ?_; refine r_sr ?_; refine r_fieldAddr rfl rfl ?_; refine r_loadB1 0 rfl rfl rfl rfl ?_; refine r_ev rfl rfl ?_; refine r_nn ?_; refine r_cond_false rfl ?_; refine r_skip ?_; refine r_then_normal ?_; refine r_sr ?_
    refine r_alloc rfl (fun b6 => ?_)
    refine r_nn ?_; refine r_sr ?_; refine r_ev rfl rfl ?_
    refine r_call' (lent := []) (kept := _) rfl rfl (List.Perm.refl _) (New5_spec g1 l _ hts 0) ?_
    rintro w g1' own' ⟨rfl, b, rfl, rfl⟩ _
    have hi0 : idxOf l.length 0 = 0 := by unfold idxOf; rw [if_neg (by omega)]; simp
    rw [hi0]
    refine r_ev rfl rfl ?_; refine r_nn ?_; refine r_seq ?_; refine r_block ?_
    refine r_nilRow 73 20 ?_
    refine r_perm (List.Perm.swap _ _ _) ?_
    refine r_nilRow 86 4 ?_
    refine r_loop (ι := RS × Pg × Value × List Value × Value × List Value × Ghost) (fun p => [(4, .slice sa l.length sc), (7, ptr b 0), (2, ptr b2 0), (3, ptr b3 0), (5, ptr b5 0), (6, ptr b6 0)]) (fun p => p.2.2.2.2.2.2)
      (fun p => [.row 86 4 p.2.2.1 p.2.1.datas.length p.2.2.2.1, rdB b (.slice sa l.length sc) p.1, .row 73 20 p.2.2.2.2.1 p.2.1.binds.length p.2.2.2.2.2.1, .blk b6 29 [p.2.2.1, p.2.2.2.2.1], .blk b5 32 [.int .i64 0, .int .i64 0], .blk b3 32 [.int .i64 0, .int .i64 0], .blk b2 29 [.slice none 0 0, .slice none 0 0]])
      (fun p => Ghost.le g1' p.2.2.2.2.2.2 ∧ (∃ a m c, p.2.2.1 = .slice a m c) ∧ (∃ a m c, p.2.2.2.2.1 = .slice a m c) ∧ AllAt (DaAt p.2.2.2.2.2.2) p.2.1.datas p.2.2.2.1 ∧ AllAt (BiAt p.2.2.2.2.2.2) p.2.1.binds p.2.2.2.2.2.1 ∧ ProgS l R p.2.1 p.1) (fun p => p.1.left l) (.good 0, ⟨[], []⟩, .slice none 0 0, [], .slice none 0 0, [], g1')
      ⟨Ghost.le_refl _, ⟨_, _, _, rfl⟩, ⟨_, _, _, rfl⟩, rfl, rfl, h0⟩ ⟨rfl, rfl, rfl, rfl, rfl, rfl, trivial⟩ rfl rfl ?_
    rintro ⟨st, p, sd, xd, sb, xb, g2⟩ ⟨k1, ⟨da, dm, dc, k2⟩, ⟨ba, bm, bc, k3⟩, k4, k5, k6⟩
    simp only at k1 k2 k3 k4 k5 k6
    subst k2
    subst k3
    have hts2 := hts.mono k1
    show Run E _ [(4, .slice sa l.length sc), (7, ptr b 0), (2, ptr b2 0), (3, ptr b3 0), (5, ptr b5 0), (6, ptr b6 0)] g2 [.row 86 4 (.slice da dm dc) p.datas.length xd, rdB b (.slice sa l.length sc) st, .row 73 20 (.slice ba bm bc) p.binds.length xb, .blk b6 29 [.slice da dm dc, .slice ba bm bc], .blk b5 32 [.int .i64 0, .int .i64 0], .blk b3 32 [.int .i64 0, .int .i64 0], .blk b2 29 [.slice none 0 0, .slice none 0 0]] _
    cases st with
    | bad j q =>
      obtain ⟨h1, h2⟩ := k6
      subst h2
      refine r_seq ?_; refine r_sr ?_; refine r_ev rfl rfl ?_; refine r_ev rfl rfl ?_; refine r_fieldAddr rfl rfl ?_; refine r_loadB1 1 rfl rfl rfl rfl ?_; refine r_ev rfl rfl ?_; refine r_ev rfl rfl ?_; refine r_pass rfl rfl rfl ?_; refine r_pass rfl rfl rfl ?_; refine r_pass rfl rfl rfl ?_; refine r_pass rfl rfl rfl ?_; refine r_pass rfl rfl rfl ?_; refine r_pass rfl rfl rfl ?_; refine r_pass rfl rfl rfl ?_; refine r_ev rfl rfl ?_; refine r_nn ?_; refine r_cond_false rfl ?_; refine r_exit ?_; refine r_then_exit ?_; refine r_then_exit ?_; refine r_in_exit ?_; refine r_then_normal ?_; refine r_seq ?_; refine r_sr ?_; refine r_ev rfl rfl ?_; refine r_ev rfl rfl ?_; refine r_fieldAddr rfl rfl ?_; refine r_loadB1 1 rfl rfl rfl rfl ?_; refine r_nn ?_; refine r_cond_true rfl ?_; refine r_seq ?_
      refine r_drop (own' := [_, _, _, _, _]) (.cons _ (.cons_cons _ (.cons _ (List.Sublist.refl _)))) ?_
      refine h_beginE [4, 3] mixed (fun hG => ?_)
      refine h_takeXA 0 rfl (by kernel_rfl) rfl hG ?_; refine ⟨_, (val_build rfl (by rfl)), ?_⟩; refine h_takeXA 1 rfl (by kernel_rfl) rfl hG ?_; refine ⟨_, (val_ev rfl), ?_⟩; refine h_takeXA 2 rfl (by kernel_rfl) rfl hG ?_; refine ⟨_, (val_ev rfl), ?_⟩; refine h_takeXA 3 rfl (by kernel_rfl) rfl hG ?_; refine ⟨_, (val_fieldAddr rfl), ?_⟩; refine h_takeXA 4 rfl (by kernel_rfl) rfl hG ?_; refine ⟨_, (val_loadB1 0 rfl rfl rfl), ?_⟩; refine h_takeXA 5 rfl (by kernel_rfl) rfl hG ?_; refine ⟨_, (val_build rfl (by rfl)), ?_⟩
      refine h_one 6 (by kernel_rfl) rfl ?_
      refine r_storeA 4 rfl rfl rfl rfl (by rfl) (by repeat' (first | exact rfl | assumption | refine all_cons ?_ ?_)) rfl ?_; refine r_nn ?_
      refine h_keptA hG ?_
      refine h_one 7 (by kernel_rfl) rfl ?_
      refine r_storeA 3 rfl rfl rfl rfl (by rfl) (by repeat' (first | exact rfl | assumption | refine all_cons ?_ ?_)) rfl ?_; refine r_nn ?_
      refine h_keptA hG ?_
      refine h_done (by kernel_rfl) ?_
      refine r_then_normal ?_; refine r_retc ?_; refine r_then_ret ?_
      exact r_ret2 [] rfl (res_blk 4 rfl rfl (by rfl)) (res_blk 3 rfl rfl (by rfl)) (by simp) ⟨⟨_, rfl, ⟨_, rfl, _, [], _, [], rfl, slNil _ 4, rfl, slNil _ 20, rfl⟩⟩, rfl⟩
    | good i =>
      refine r_seq ?_; refine r_sr ?_; refine r_ev rfl rfl ?_; refine r_ev rfl rfl ?_; refine r_fieldAddr rfl rfl ?_; refine r_loadB1 1 rfl rfl rfl rfl ?_; refine r_ev rfl rfl ?_; refine r_ev rfl rfl ?_; refine r_tev rfl rfl rfl ?_; refine r_tev rfl rfl rfl ?_; refine r_take rfl ?_; refine r_fieldAddr rfl rfl ?_; refine r_take rfl ?_; refine r_loadB1 1 rfl rfl rfl rfl ?_; refine r_tev rfl rfl rfl ?_; refine r_take rfl ?_; refine r_len_sl rfl rfl ?_; refine r_tev rfl rfl rfl ?_; refine r_ev rfl rfl ?_; refine r_nn ?_
      refine r_cond rfl (fun hlt => ?_) (fun hlt => ?_)
      · have hlt' : i < l.length := by omega
        have hpd : isAt l i dataB = wordAt l i dataB := isAt_word hkw (by decide) i
        obtain ⟨_, hn1, hn2, _⟩ := id k6
        refine r_skip ?_; refine r_then_normal ?_; refine r_block ?_; refine r_sr ?_; refine r_ev rfl rfl ?_
        refine r_callO 1 rfl rfl rfl (Is5_spec g2 l _ hts2 b (.good i) dataB) ?_
        rw [show RS.isIs l dataB (.good i) = wordAt l i dataB from hpd]
        cases hw : wordAt l i dataB with
        | true =>
          obtain ⟨pe, po⟩ := k6.data hw
          refine r_nn ?_; refine r_cond_true rfl ?_
          refine m_begin 6 [1, 0] mixed (by kernel_rfl) (fun hG => ?_)
          refine m_takeXA 0 rfl (by kernel_rfl) rfl hG ?_; refine ⟨_, (val_fieldAddr rfl), ?_⟩; refine m_takeXA 1 rfl (by kernel_rfl) rfl hG ?_; refine ⟨_, (val_loadB1 1 rfl rfl rfl), ?_⟩; refine m_takeXA 2 rfl (by kernel_rfl) rfl hG ?_; refine ⟨_, (val_ev rfl), ?_⟩
          refine m_one 3 (by kernel_rfl) rfl rfl ?_
          refine r_callL 1 rfl rfl rfl (decl7_spec hb hkw g2 _ b i hts2 (by omega)) ?_
          rintro w g3 r' hw3 hle3
          have hst : ∃ (d : Da) (st' : RS), DaV g3 w d ∧ r' = rdB b (.slice sa l.length sc) st' ∧ ProgS l R ⟨p.datas ++ [d], p.binds⟩ st' ∧ (st'.left l < (RS.good i).left l) := by
            cases hq : declR l i with
            | error q =>
              rw [hq] at hw3
              obtain ⟨⟨d, hd⟩, j', hj', rfl⟩ := hw3
              exact ⟨d, .bad j' q, hd, rfl, pe q hq j' hj' _, by simp [RS.left]⟩
            | ok x =>
              obtain ⟨d, j⟩ := x
              rw [hq] at hw3
              obtain ⟨hd, rfl, hij, hjl⟩ := hw3
              exact ⟨d, .good j, hd, rfl, po d j hq, by simp only [RS.left]; omega⟩
          obtain ⟨d, st', ⟨cs, rfl, hda⟩, rfl, hps, hleft⟩ := hst
          obtain ⟨a1, c1, a2, c2, xc, rfl, _⟩ := hda.form
          refine r_nn ?_
          refine h_keptA hG ?_
          refine m_one 4 (by kernel_rfl) rfl rfl ?_
          refine r_buildSlice rfl rfl (by rfl) (by rfl) (by rfl) (by rfl) (by rfl) (fun b40 => ?_)
          refine r_nn ?_
          refine h_keptA hG ?_
          refine m_one 5 (by kernel_rfl) rfl rfl ?_
          refine r_appendRow 1 0 rfl rfl rfl rfl rfl (by rfl) (by rfl) rfl (by unfold maxLen; omega) (by omega) (fun v' hv' => ?_)
          refine r_rowForm 1 rfl ?_
          rintro ⟨ya, ym, yc, rfl⟩
          refine r_nn ?_
          refine h_keptA hG ?_
          refine m_done (by kernel_rfl) ?_
          refine r_drop (own' := [_, _, _, _, _, _, _]) (.cons _ (List.Sublist.refl _)) ?_
          refine r_fieldAddr rfl rfl ?_; refine r_store1 3 rfl rfl rfl rfl rfl rfl ?_; refine r_nil ?_; refine r_in_normal ?_; refine r_then_normal ?_
          refine r_again (st', ⟨p.datas ++ [d], p.binds⟩, .slice ya ym yc, _, .slice ba bm bc, xb, g3) ⟨Ghost.le_trans k1 hle3, ⟨_, _, _, rfl⟩, ⟨_, _, _, rfl⟩, das_snoc (das_mono hle3 k4) hda, bis_mono hle3 k5, hps⟩ hleft ⟨rfl, rfl, rfl, rfl, rfl, rfl, trivial⟩ rfl ?_
          simp [repN]
        | false =>
          obtain ⟨pe, po⟩ := k6.bind hlt' hw
          refine r_nn ?_; refine r_cond_false rfl ?_
          refine m_begin 6 [2, 1] mixed (by kernel_rfl) (fun hG => ?_)
          refine m_takeXA 0 rfl (by kernel_rfl) rfl hG ?_; refine ⟨_, (val_fieldAddr rfl), ?_⟩; refine m_takeXA 1 rfl (by kernel_rfl) rfl hG ?_; refine ⟨_, (val_loadB1 1 rfl rfl rfl), ?_⟩; refine m_takeXA 2 rfl (by kernel_rfl) rfl hG ?_; refine ⟨_, (val_ev rfl), ?_⟩
          refine m_one 3 (by kernel_rfl) rfl rfl ?_
          refine r_callL 1 rfl rfl rfl (binding7_spec hb hkw g2 _ b i hts2 (by omega)) ?_
          rintro w g3 r' hw3 hle3
          have hst : ∃ (d : Bi) (st' : RS), BiV g3 w d ∧ r' = rdB b (.slice sa l.length sc) st' ∧ ProgS l R ⟨p.datas, p.binds ++ [d]⟩ st' ∧ (st'.left l < (RS.good i).left l) := by
            cases hq : bindR l i with
            | error q =>
              rw [hq] at hw3
              obtain ⟨⟨d, hd⟩, j', hj', rfl⟩ := hw3
              exact ⟨d, .bad j' q, hd, rfl, pe q hq j' hj' _, by simp [RS.left]⟩
            | ok x =>
              obtain ⟨d, j⟩ := x
              rw [hq] at hw3
              obtain ⟨hd, rfl, hij, hjl⟩ := hw3
              exact ⟨d, .good j, hd, rfl, po d j hq, by simp only [RS.left]; omega⟩
          obtain ⟨d, st', ⟨cs, rfl, hda⟩, rfl, hps, hleft⟩ := hst
          obtain ⟨y1, y2, y3, y4, y5, y6, y7, y8, y9, y10, y11, y12, rfl, _⟩ := hda.form
          refine r_nn ?_
          refine h_keptA hG ?_
          refine m_one 4 (by kernel_rfl) rfl rfl ?_
          refine r_buildSlice rfl rfl (by rfl) (by rfl) (by rfl) (by rfl) (by rfl) (fun b40 => ?_)
          refine r_nn ?_
          refine h_keptA hG ?_
          refine m_one 5 (by kernel_rfl) rfl rfl ?_
          refine r_appendRow 3 0 rfl rfl rfl rfl rfl (by rfl) (by rfl) rfl (by unfold maxLen; omega) (by omega) (fun v' hv' => ?_)
          refine r_rowForm 3 rfl ?_
          rintro ⟨ya, ym, yc, rfl⟩
          refine r_nn ?_
          refine h_keptA hG ?_
          refine m_done (by kernel_rfl) ?_
          refine r_drop (own' := [_, _, _, _, _, _, _]) (.cons _ (List.Sublist.refl _)) ?_
          refine r_fieldAddr rfl rfl ?_; refine r_store1 3 rfl rfl rfl rfl rfl rfl ?_; refine r_nil ?_; refine r_in_normal ?_; refine r_then_normal ?_
          refine r_again (st', ⟨p.datas, p.binds ++ [d]⟩, .slice da dm dc, xd, .slice ya ym yc, _, g3) ⟨Ghost.le_trans k1 hle3, ⟨_, _, _, rfl⟩, ⟨_, _, _, rfl⟩, das_mono hle3 k4, bis_snoc (bis_mono hle3 k5) hda, hps⟩ hleft ⟨rfl, rfl, rfl, rfl, rfl, rfl, trivial⟩ rfl ?_
          simp [repN]
      · obtain ⟨h1, h2, h3, h4⟩ := k6
        rw [progR_eq, if_neg (by omega)] at h4
        subst h4
        have hwp := hwf p rfl
        refine r_publishRow (fun g3 hg3 hs3 => ?_)
        refine r_perm (List.Perm.swap _ _ _) ?_
        refine r_publishRow (fun g4 hg4 hs4 => ?_)
        have hV : PgV g4 (.agg #[.slice da dm dc, .slice ba bm bc]) p := ⟨_, rfl, _, xd, _, xb, rfl, hs3.mono hg4, das_mono (Ghost.le_trans hg3 hg4) k4, hs4, bis_mono (Ghost.le_trans hg3 hg4) k5⟩
        refine r_exit ?_; refine r_then_exit ?_; refine r_then_exit ?_; refine r_in_exit ?_; refine r_then_normal ?_; refine r_seq ?_; refine r_sr ?_; refine r_ev rfl rfl ?_; refine r_ev rfl rfl ?_; refine r_fieldAddr rfl rfl ?_; refine r_loadB1 0 rfl rfl rfl rfl ?_; refine r_nn ?_; refine r_cond_false rfl ?_; refine r_skip ?_; refine r_then_normal ?_; refine r_seq ?_; refine r_sr ?_; refine r_loadB 1 rfl rfl rfl (by rfl) ?_
        refine r_callP rfl rfl (Deep7_spec g4 p _ hwp hV) ?_
        refine r_storeA 2 rfl rfl rfl rfl (by rfl) (by repeat' (first | exact rfl | assumption | refine all_cons ?_ ?_)) rfl ?_; refine r_nn ?_; refine r_sr ?_; refine r_fieldAddr rfl rfl ?_; refine r_loadB1 2 rfl rfl rfl rfl ?_; refine r_ev rfl rfl ?_; refine r_nn ?_
        refine r_cond rfl (fun hd => ?_) (fun hd => ?_)
        · rw [show (match (Except.ok p : Except Int Pg) with
            | .error p => .error (3, p)
            | .ok P => if (deepR P).1 = 0 then .ok P else .error (deepR P)) = (.error (deepR p) : Except (Int × Int) Pg) from if_neg hd]
          refine r_seq ?_
          refine h_beginE [4, 3] mixed (fun hG => ?_)
          refine h_takeXA 0 rfl (by kernel_rfl) rfl hG ?_; refine ⟨_, (val_build rfl (by rfl)), ?_⟩; refine h_takeXA 1 rfl (by kernel_rfl) rfl hG ?_; refine ⟨_, (val_loadB 2 rfl rfl (by rfl)), ?_⟩
          refine h_one 2 (by kernel_rfl) rfl ?_
          refine r_storeA 4 rfl rfl rfl rfl (by rfl) (by repeat' (first | exact rfl | assumption | refine all_cons ?_ ?_)) rfl ?_; refine r_nn ?_
          refine h_keptA hG ?_
          refine h_one 3 (by kernel_rfl) rfl ?_
          refine r_storeA 3 rfl rfl rfl rfl (by rfl) (by repeat' (first | exact rfl | assumption | refine all_cons ?_ ?_)) rfl ?_; refine r_nn ?_
          refine h_keptA hG ?_
          refine h_done (by kernel_rfl) ?_
          refine r_then_normal ?_; refine r_retc ?_; refine r_then_ret ?_
          exact r_ret2 [] rfl (res_blk 4 rfl rfl (by rfl)) (res_blk 3 rfl rfl (by rfl)) (by simp) ⟨⟨_, rfl, ⟨_, rfl, _, [], _, [], rfl, slNil _ 4, rfl, slNil _ 20, rfl⟩⟩, rfl⟩
        · have hd0 : (deepR p).1 = 0 := Decidable.not_not.1 hd
          have hd1 : deepR p = (0, 0) := deepR_ok hd0
          rw [show (match (Except.ok p : Except Int Pg) with
            | .error p => .error (3, p)
            | .ok P => if (deepR P).1 = 0 then .ok P else .error (deepR P)) = (.ok p : Except (Int × Int) Pg) from if_pos hd0, hd1]
          refine r_skip ?_; refine r_then_normal ?_; refine r_seq ?_
          refine h_beginE [4, 3] mixed (fun hG => ?_)
          refine h_takeXA 0 rfl (by kernel_rfl) rfl hG ?_; refine ⟨_, (val_loadB 1 rfl rfl (by rfl)), ?_⟩; refine h_takeXA 1 rfl (by kernel_rfl) rfl hG ?_; refine ⟨_, (val_loadB 2 rfl rfl (by rfl)), ?_⟩
          refine h_one 2 (by kernel_rfl) rfl ?_
          refine r_storeA 4 rfl rfl rfl rfl (by rfl) (by repeat' (first | exact rfl | assumption | refine all_cons ?_ ?_)) rfl ?_; refine r_nn ?_
          refine h_keptA hG ?_
          refine h_one 3 (by kernel_rfl) rfl ?_
          refine r_storeA 3 rfl rfl rfl rfl (by rfl) (by repeat' (first | exact rfl | assumption | refine all_cons ?_ ?_)) rfl ?_; refine r_nn ?_
          refine h_keptA hG ?_
          refine h_done (by kernel_rfl) ?_
          refine r_then_normal ?_; refine r_retc ?_
          exact r_ret2 [] rfl (res_blk 4 rfl rfl (by rfl)) (res_blk 3 rfl rfl (by rfl)) (by simp) ⟨⟨_, rfl, hV⟩, rfl⟩
end Go.Proofs.YtpjehhnaojjanaaGreatDoor
-- sum 7e450fc47f6442f9

/- What a text is parsed as, as an expression and as a type: plain words, and the walks of typedholesref7.ParseExpr and ParseType. -/
namespace Go.Proofs.YtpjehhnaojjanaaGreatDoor
open Go Go.Eng Go.Th Go.Proofs
set_option maxRecDepth 10000
set_option maxHeartbeats 4000000
attribute [local irreducible] wpList Code.wp Run bodyPost Go.Eng.Ends Exit.then Exit.inBlock Again Wq Kq
def typeO (t : Ty) : Except (Int × Int) Ty := if 40 < depthT t then .error (4, 0) else .ok t
def parseT (s : Bytes) : Except (Int × Int) Ty := match scan s with
  | .bad e p => .error (e, p)
  | .ok l => match tread l .whole 0 with
    | .error p => .error (3, p)
    | .ok (t, j) => if j < l.length then .error (3, failPos l j) else typeO t
def resT : Except (Int × Int) Ty → Ty
  | .ok e => e
  | .error _ => noT
def postTy (r : Except (Int × Int) Ty) (v : Value) (g' : Ghost) : Prop := ∃ pv, v = .tuple #[pv, fltV (resF r)] ∧ TyV g' pv (resT r)
theorem scan_code {s : Bytes} {e p : Int} (h : scan s = .bad e p) : e ≠ 0 := by
  unfold scan at h
  split at h
  · cases h; decide
  · split at h
    · cases h
    · cases h; decide
end Go.Proofs.YtpjehhnaojjanaaGreatDoor
-- sum 9131a4f362a42231


/- readtype.Atom and what the reference's Type and Atom end with. -/
namespace Go.Proofs.YtpjehhnaojjanaaGreatDoor
open Go Go.Eng Go.Th Go.Proofs
set_option maxRecDepth 10000
set_option maxHeartbeats 4000000
attribute [local irreducible] wpList Code.wp Run bodyPost Go.Eng.Ends Exit.then Exit.inBlock Again Wq Kq
theorem rAtom_spec {l : List Tok} (hb : TB l) (g : Ghost) (hg : ErrT g) (v : Value) (i : Int) (hs : ToksAt g v l) : SpecN Tryz.prog 88 [v, .int .i64 i] g (ansPost (tread l .atom (idxOf l.length i))) := by
  have hi : idxOf l.length i ≤ l.length := by unfold idxOf; split <;> omega
  refine spec_of_run Tryz.func88 rfl Tryz.ntmps88 rfl fun E hE => ?_
  refine r_sr ?_
  refine r_alloc rfl (fun b4 => ?_)
  refine r_ev rfl rfl ?_
  refine r_alloc rfl (fun b6 => ?_)
  refine r_nn ?_; refine r_sr ?_; refine r_ev rfl rfl ?_; refine r_ev rfl rfl ?_; refine r_ev rfl rfl ?_
  refine r_callP rfl rfl (index_spec g v l hs i) ?_
  skip
  refine r_callN rfl rfl (atom_spec hb g v _ hs hi) ?_
  rintro w g1 hw hle
  have hg1 := hg.mono hle
  cases hq : tread l .atom (idxOf l.length i) with
  | error p =>
    rw [hq] at hw
    obtain ⟨tv, j, t, rfl, hty, hj⟩ := hw
    unfold failV
    refine r_ev rfl rfl ?_; refine r_ev rfl rfl ?_; refine r_ev rfl rfl ?_
    refine r_callN rfl rfl (result_err g1 hg1 tv t j p hty) ?_
    rintro w g2 ⟨rfl, rfl⟩ _
    refine r_ev rfl rfl ?_; refine r_ev rfl rfl ?_; refine r_ev rfl rfl ?_; refine r_storeA 1 rfl rfl rfl rfl (by rfl) (by repeat' (first | exact rfl | assumption | refine all_cons ?_ ?_)) rfl ?_; refine r_ev rfl rfl ?_; refine r_storeA 0 rfl rfl rfl rfl (by rfl) (by repeat' (first | exact rfl | assumption | refine all_cons ?_ ?_)) rfl ?_; refine r_nn ?_; refine r_retc ?_
    exact r_ret3 [] rfl (res_blk 1 rfl rfl (by rfl)) (.tmp rfl) (res_blk 0 rfl rfl (by rfl)) (by simp) ⟨⟨_, rfl, noT_V _⟩, rfl⟩
  | ok q =>
    obtain ⟨t, j⟩ := q
    rw [hq] at hw
    obtain ⟨tv, rfl, hty, hj1, hj2⟩ := hw
    refine r_ev rfl rfl ?_; refine r_ev rfl rfl ?_; refine r_ev rfl rfl ?_
    refine r_callN rfl rfl (result_ok g1 tv t j hty) ?_
    rintro w g2 ⟨rfl, rfl⟩ _
    obtain ⟨a, m', c, rfl, ht⟩ := hty.cells5
    refine r_ev rfl rfl ?_; refine r_ev rfl rfl ?_; refine r_ev rfl rfl ?_; refine r_storeA 1 rfl rfl rfl rfl (by rfl) (by repeat' (first | exact rfl | assumption | refine all_cons ?_ ?_)) rfl ?_; refine r_ev rfl rfl ?_; refine r_storeA 0 rfl rfl rfl rfl (by rfl) (by repeat' (first | exact rfl | assumption | refine all_cons ?_ ?_)) rfl ?_; refine r_nn ?_; refine r_retc ?_
    exact r_ret3 [] rfl (res_blk 1 rfl rfl (by rfl)) (.tmp rfl) (res_blk 0 rfl rfl (by rfl)) (by simp) ⟨⟨_, rfl, ⟨_, rfl, ht⟩⟩, rfl⟩
end Go.Proofs.YtpjehhnaojjanaaGreatDoor
-- sum 6e56d7bfcf26bccd


/- The walk of readprogram's data. Printed by mkprj.py. -/
import Derived.Test.YtpjehhnaojjanaaGreatDoorK17
namespace Go.Proofs.YtpjehhnaojjanaaGreatDoor
open Go Go.Eng Go.Th Go.Proofs
set_option maxRecDepth 10000
set_option maxHeartbeats 4000000
attribute [local irreducible] wpList Code.wp Run bodyPost Go.Eng.Ends Exit.then Exit.inBlock Again Wq Kq
def postP (mk : RS → Res) (l : List Tok) (i : Nat) (r : Except Int (Da × Nat)) (v : Value) (g' : Ghost) (r' : Res) : Prop := match r with
 | .ok (d, j) => DaV g' v d ∧ r' = mk (.good j) ∧ i < j ∧ j ≤ l.length
 | .error p => (∃ d, DaV g' v d) ∧ ∃ j, j ≤ l.length ∧ r' = mk (.bad j p)
theorem startsAt_get {l : List Tok} {i : Nat} (h : i < l.length) : startsAt l i = startsT l[i] := by unfold startsAt; rw [toks_some h]
theorem startsAt_end {l : List Tok} {i : Nat} (h : ¬ i < l.length) : startsAt l i = false := by unfold startsAt; rw [List.getElem?_eq_none (by omega)]
theorem tread_moves {l : List Tok} {k : Nat} {t : Ty} {k' : Nat} (h : tread l .atom k = .ok (t, k')) : k < k' := by
 rw [tread_atom] at h
 split at h
 ·cases h
 ·split at h
  ·cases h; omega
  ·split at h
   ·cases h; omega
   ·split at h
    ·split at h
     ·cases h
     ·rename_i y j h1
      have := tread_prog l _ _ _ _ (Nat.lt_succ_self _) h1
      simp only at this
      split at h
      ·cases h; omega
      ·cases h
    ·cases h
theorem data_spec {l : List Tok} (hb : TB l) (hkw : KW l) (g : Ghost) (hg : ErrT g) (lv : Value) (b i : Nat) (hs : ToksAt g lv l) (hdat : wordAt l i dataB = true) :
  SpecL Tryz.prog 42 [ptr b 0, .agg #[.int .i64 (posOf l i), str [], .slice none 0 0, .slice none 0 0]] g (rdP b lv (.good (i + 1))) (postP (rdP b lv) l i (declR l i)) := by
 have hb1 := hb.1
 have hi := tokAt_lt hdat
 have hp0 : isAt l i dataB = wordAt l i dataB := isAt_word hkw (by decide) i
 obtain ⟨la, lc, rfl⟩ := slForm2 hs
 refine spec_of_run Tryz.func42 rfl Tryz.ntmps42 rfl fun E hE => ?_
 refine r_sr ?_
 refine r_box rfl rfl rfl (fun b3 => ?_)
 refine r_alloc rfl (fun b2 => ?_)
 refine r_nn <| r_sr <| r_ev rfl rfl ?_
 obtain ⟨s1, hs1⟩ : ∃ s, s = RS.good (i + 1) := ⟨_, rfl⟩
 rw [← hs1]
 replace hs1 : s1 = RS.need l dataB (.good i) := by rw [hs1, (skip_yes (hp0.trans hdat)).2.1]
 refine r_callL 2 rfl rfl rfl (pname_spec g l hb _ hs b s1 2) ?_
 rintro v g0 r' ⟨rfl, rfl, rfl⟩ _
 have hok0 : s1.ok l := by rw [hs1]; exact RS.need_ok (s := .good i) (Nat.le_of_lt hi)
 have hok1 : (s1.word l 2).ok l := RS.word_ok hok0
 refine r_perm (List.Perm.swap _ _ _) ?_
 refine r_fieldAddr rfl rfl <| r_store1 0 rfl rfl rfl rfl rfl rfl <| r_nn ?_
 -- STOPA
 refine r_cutG (ι := RS × List Bytes × Value) (fun p => [(0, ptr b 0), (3, ptr b3 0), (4, ptr b2 0)]) (fun _ => g0)
  (fun p => [.row 9 1 p.2.2 p.2.1.length (p.2.1.map str), .blk b3 86 [.int .i64 (posOf l i), str (s1.text l 2), p.2.2, .slice none 0 0], .blk b2 86 [.int .i64 0, str [], .slice none 0 0, .slice none 0 0], rdP b (.slice la l.length lc) p.1])
  (fun p => (∃ a m c, p.2.2 = .slice a m c) ∧ VarsR l (s1.word l 2) p.1 p.2.1 ∧ p.1.kindIs l 1 = false) ?_ ?_
 ·rintro ⟨s3, vs, vv⟩ ⟨⟨va, vm, vc, q1⟩, q2, q3⟩
  simp only at q1 q2 q3
  subst q1
  have hh := decl_head hkw (Nat.le_of_lt hi) hs1 q2 q3
  have hok3 : s3.ok l := q2.ok hok1
  have hvl := q2.len hok1
  show Run E _ [(0, ptr b 0), (3, ptr b3 0), (4, ptr b2 0)] g0 [.row 9 1 (.slice va vm vc) vs.length (vs.map str), .blk b3 86 [.int .i64 (posOf l i), str (s1.text l 2), .slice va vm vc, .slice none 0 0], .blk b2 86 [.int .i64 0, str [], .slice none 0 0, .slice none 0 0], rdP b (.slice la l.length lc) s3] _
  refine r_publishRow (fun g1 hle1 hv1 => ?_)
  have hg1 := hg.mono hle1
  have hs1' := hs.mono hle1
  refine r_sr <| r_ev rfl rfl ?_
  refine r_callL 2 rfl rfl rfl (pwant_spec g1 l hb hkw _ hs1' b s3 (w := [61]) (by decide)) ?_
  rintro v g1 r' ⟨rfl, rfl⟩ _
  generalize s3.need l [61] = s4 at hh
  have hR : ∃ R : Except Int (List Cn × Nat), ConsS l R [] s4 ∧ (declR l i = match R with | .error p => .error p | .ok (cs, m) => .ok (⟨posOf l i, s1.text l 2, vs, cs⟩, m)) := by
   cases s4 with
   | bad j p => exact ⟨.error p, ⟨hh.1, rfl⟩, hh.2⟩
   | good k => exact ⟨consR l [] k, ⟨hh.1, by simp, rfl⟩, hh.2.2⟩
  obtain ⟨R, hc0, hdecl⟩ := hR
  refine r_nn ?_
  -- STOPB
  refine r_cutG (ι := RS × List Cn × Value × Ghost) (fun p => [(0, ptr b 0), (3, ptr b3 0), (4, ptr b2 0)]) (fun p => p.2.2.2)
   (fun p => [.blk b3 86 [.int .i64 (posOf l i), str (s1.text l 2), .slice va vm vc, p.2.2.1], .blk b2 86 [.int .i64 0, str [], .slice none 0 0, .slice none 0 0], rdP b (.slice la l.length lc) p.1])
   (fun p => Ghost.le g1 p.2.2.2 ∧ (∃ xc, SlAt p.2.2.2 3 p.2.2.1 p.2.1.length xc ∧ AllAt (CnAt p.2.2.2) p.2.1 xc) ∧ ConsE l R p.2.1 p.1) ?_ ?_
  ·rintro ⟨s, acc, sc, g2⟩ ⟨k1, ⟨xc, k2, k3⟩, k4⟩
   simp only at k1 k2 k3 k4
   obtain ⟨ca, cm, cc, rfl⟩ := SlAt.form k2
   have hs2 := hs1'.mono k1
   show Run E _ [(0, ptr b 0), (3, ptr b3 0), (4, ptr b2 0)] g2 [.blk b3 86 [.int .i64 (posOf l i), str (s1.text l 2), .slice va vm vc, .slice ca cm cc], .blk b2 86 [.int .i64 0, str [], .slice none 0 0, .slice none 0 0], rdP b (.slice la l.length lc) s] _
   have hV : DaV g2 (.agg #[.int .i64 (posOf l i), str (s1.text l 2), .slice va vm vc, .slice ca cm cc]) ⟨posOf l i, s1.text l 2, vs, acc⟩ := ⟨_, rfl, _, _, xc, rfl, hv1.mono k1, k2, k3⟩
   refine r_sr <| r_ev rfl rfl ?_
   refine r_callL 2 rfl rfl rfl (pwant_spec g2 l hb hkw _ hs2 b s (w := [59]) (by decide)) ?_
   rintro v g3 r' ⟨rfl, rfl⟩ _
   refine r_nn <| r_sr <| r_loadB 0 rfl rfl rfl (by rfl) ?_; refine r_storeA 1 rfl rfl rfl rfl (by rfl) (by repeat' (first | exact rfl | assumption | refine all_cons ?_ ?_)) rfl ?_; refine r_nn <| r_retc ?_
   refine r_retA [_] rfl (res_blk 1 rfl rfl (by rfl)) (.cons _ (.cons _ (List.Sublist.refl _))) ⟨_, rfl, ?_⟩
   cases s with
   | bad j p =>
    obtain ⟨h1, h2⟩ := k4
    rw [h2] at hdecl
    rw [hdecl]
    exact ⟨⟨_, hV⟩, j, h1, rfl⟩
   | good j =>
    obtain ⟨h1, h2⟩ := k4
    have hp : isAt l j [59] = markAt l j [59] := isAt_mark hkw (by decide) j
    cases hk : markAt l j [59] with
    | true =>
     rw [hk] at h2
     simp only [if_true] at h2
     rw [h2] at hdecl
     simp only at hdecl
     have := declR_bnd hdecl
     rw [(skip_yes (hp.trans hk)).2.1, hdecl]
     exact ⟨hV, rfl, this.1, this.2⟩
    | false =>
     rw [hk] at h2
     simp only [Bool.false_eq_true, if_false] at h2
     rw [h2] at hdecl
     simp only at hdecl
     rw [(skip_no (hp.trans hk)).2, hdecl]
     exact ⟨⟨_, hV⟩, j, h1, rfl⟩
  ·intro K hK
   refine r_sr <| r_ev rfl rfl ?_
   refine r_callO 2 rfl rfl rfl (pok_spec g1 _ b s4) ?_
   refine r_ev rfl rfl <| r_nn <| r_block ?_
   refine r_nilRow 98 3 ?_
   refine r_loop (ι := Bool × RS × List Cn × Value × List Value × Ghost) (fun p => [(0, ptr b 0), (3, ptr b3 0), (4, ptr b2 0), (5, .bool p.1)]) (fun p => p.2.2.2.2.2)
    (fun p => [.row 98 3 p.2.2.2.1 p.2.2.1.length p.2.2.2.2.1, .blk b3 86 [.int .i64 (posOf l i), str (s1.text l 2), .slice va vm vc, p.2.2.2.1], .blk b2 86 [.int .i64 0, str [], .slice none 0 0, .slice none 0 0], rdP b (.slice la l.length lc) p.2.1])
    (fun p => Ghost.le g1 p.2.2.2.2.2 ∧ (∃ a m c, p.2.2.2.1 = .slice a m c) ∧ AllAt (CnAt p.2.2.2.2.2) p.2.2.1 p.2.2.2.2.1 ∧ (p.1 = true → ConsS l R p.2.2.1 p.2.1 ∧ p.2.1.isBad = false) ∧ (p.1 = false → ConsE l R p.2.2.1 p.2.1))
    (fun p => if p.1 then 1 + p.2.1.left l else 0) (!s4.isBad, s4, [], .slice none 0 0, [], g1) ⟨Ghost.le_refl _, ⟨_, _, _, rfl⟩, rfl, ?_, ?_⟩ ⟨rfl, rfl, rfl, rfl, trivial⟩ rfl rfl ?_
   ·intro h
    exact ⟨hc0, by simpa using h⟩
   ·intro h
    cases s4 with
    | good j => cases h
    | bad j p => exact hc0
   rintro ⟨more, s, acc, sc, xc, g2⟩ ⟨k1, ⟨ca, cm, cc, k2⟩, k3, k4, k6⟩
   simp only at k1 k2 k3 k4 k6
   subst k2
   have hs2 := hs1'.mono k1
   have hg2 := hg1.mono k1
   show Run E _ [(0, ptr b 0), (3, ptr b3 0), (4, ptr b2 0), (5, .bool more)] g2 [.row 98 3 (.slice ca cm cc) acc.length xc, .blk b3 86 [.int .i64 (posOf l i), str (s1.text l 2), .slice va vm vc, .slice ca cm cc], .blk b2 86 [.int .i64 0, str [], .slice none 0 0, .slice none 0 0], rdP b (.slice la l.length lc) s] _
   cases more with
   | false =>
    refine r_seq <| r_sr <| r_ev rfl rfl <| r_nn <| r_cond_false rfl <| r_exit <| r_then_exit <| r_then_exit <| r_in_exit <| r_then_normal ?_
    refine r_publishRow (fun g3 hg3 ha3 => ?_)
    exact hK (s, acc, .slice ca cm cc, g3) _ ⟨Ghost.le_trans k1 hg3, ⟨xc, ha3, cns_mono hg3 k3⟩, k6 rfl⟩ ⟨rfl, rfl, rfl, trivial⟩
   | true =>
    obtain ⟨k4, k7⟩ := k4 rfl
    cases s with
    | bad j p => cases k7
    | good j =>
     have hfs := fld_start k4
     obtain ⟨hjl, hacl, _⟩ := k4
     refine r_seq <| r_sr <| r_ev rfl rfl <| r_nn <| r_cond_true rfl <| r_skip <| r_then_normal <| r_seq <| r_block <| r_sr <| r_ev rfl rfl ?_
     refine r_callO 3 rfl rfl rfl (pplace_spec g2 l _ hs2 b (.good j)) ?_
     rw [show posAt l (RS.good j).idx = posOf l j from rfl]
     refine r_ev rfl rfl ?_
     refine r_callL 3 rfl rfl rfl (pname_spec g2 l hb _ hs2 b (.good j) 2) ?_
     rintro v g2' r' ⟨rfl, rfl, rfl⟩ _
     obtain ⟨cn, hcn⟩ : ∃ c, c = RS.text l 2 (.good j) := ⟨_, rfl⟩
     rw [← hcn] at hfs ⊢
     refine r_build rfl rfl (by rfl) ?_
     refine r_alloc rfl (fun b6 => ?_)
     refine r_storeA 0 rfl rfl rfl rfl (by rfl) rfl rfl ?_; refine r_nn ?_
     have hok5 : (RS.word l 2 (.good j)).ok l := RS.word_ok (s := .good j) hjl
     have hleft5 : ∀ k, RS.word l 2 (.good j) = .good k → k = j + 1 := by
      intro k hk
      cases h : kindAt l j 2 with
      | true => rw [(nameAt_yes h).2.1] at hk; cases hk; rfl
      | false => rw [(nameAt_no h).2.1] at hk; cases hk
     generalize RS.word l 2 (.good j) = s5 at hfs hok5 hleft5
     -- STOPC
     refine r_cutG (ι := RS × List Ty × Value × Ghost) (fun p => [(0, ptr b 0), (3, ptr b3 0), (4, ptr b2 0), (6, ptr b6 0)]) (fun p => p.2.2.2)
      (fun p => [.blk b6 98 [.int .i64 (posOf l j), str cn, p.2.2.1], .row 98 3 (.slice ca cm cc) acc.length xc, .blk b3 86 [.int .i64 (posOf l i), str (s1.text l 2), .slice va vm vc, .slice ca cm cc], .blk b2 86 [.int .i64 0, str [], .slice none 0 0, .slice none 0 0], rdP b (.slice la l.length lc) p.1])
      (fun p => Ghost.le g2' p.2.2.2 ∧ (∃ xf, SlAt p.2.2.2 5 p.2.2.1 p.2.1.length xf ∧ TysAt p.2.2.2 p.2.1 xf) ∧ (match p.1 with
       | .good k => k ≤ l.length ∧ j < k ∧ R = consStep l acc (posOf l j) cn (conT cn p.2.1) k
       | .bad j' p' => j' ≤ l.length ∧ R = .error p')) ?_ ?_
     ·rintro ⟨s6, fs, sf, g3⟩ ⟨m1, ⟨xf, m2, m3⟩, m4⟩
      simp only at m1 m2 m3 m4
      obtain ⟨fa, fm, fc, rfl⟩ := SlAt.form m2
      have hs3 := hs2.mono m1
      show Run E _ [(0, ptr b 0), (3, ptr b3 0), (4, ptr b2 0), (6, ptr b6 0)] g3 [.blk b6 98 [.int .i64 (posOf l j), str cn, .slice fa fm fc], .row 98 3 (.slice ca cm cc) acc.length xc, .blk b3 86 [.int .i64 (posOf l i), str (s1.text l 2), .slice va vm vc, .slice ca cm cc], .blk b2 86 [.int .i64 0, str [], .slice none 0 0, .slice none 0 0], rdP b (.slice la l.length lc) s6] _
      have hsn := cns_snoc (p := posOf l j) (c := cn) (cns_mono m1 k3) m2 m3
      refine r_region <| r_fieldAddr rfl rfl <| r_loadB1 2 rfl rfl rfl rfl <| r_loadB 0 rfl rfl rfl (by rfl) ?_
      refine r_buildSlice rfl rfl (by rfl) (by rfl) (by rfl) (by rfl) (by rfl) (fun b41 => ?_)
      refine r_appendRow 2 0 rfl rfl rfl rfl rfl (by rfl) (by rfl) rfl (by unfold maxLen; omega) (by omega) (fun v' hv' => ?_)
      refine r_rowForm 2 rfl ?_
      rintro ⟨ya, ym, yc, rfl⟩
      refine r_drop (own' := [_, _, _, _]) (.cons _ (.cons _ (List.Sublist.refl _))) ?_
      refine r_fieldAddr rfl rfl <| r_store1 1 rfl rfl rfl rfl rfl rfl <| r_nil <| r_in_normal <| r_then_normal <| r_region <| r_ev rfl rfl ?_
      refine r_callL 3 rfl rfl rfl (pmark_spec g3 l hb hkw _ hs3 b s6 (w := [124]) (by decide)) ?_
      rintro v g4 r' ⟨rfl, rfl, rfl⟩ _
      cases s6 with
      | bad j' p' =>
       obtain ⟨h1, h2⟩ := m4
       refine r_ev rfl rfl <| r_nn ?_
       refine r_again (false, .bad j' p', acc ++ [⟨posOf l j, cn, fs⟩], .slice ya ym yc, _, g4) ⟨Ghost.le_trans k1 m1, ⟨_, _, _, rfl⟩, hsn, (fun h => by cases h), fun _ => ⟨h1, h2⟩⟩ (by show 0 < 1 + RS.left l (RS.good j); omega) ⟨rfl, rfl, rfl, rfl, trivial⟩ rfl ?_
       simp [repN, RS.skip]
      | good k =>
       obtain ⟨h1, h1', h2⟩ := m4
       have hp : isAt l k [124] = markAt l k [124] := isAt_mark hkw (by decide) k
       rw [show RS.isIs l [124] (.good k) = markAt l k [124] from hp]
       unfold consStep at h2
       cases hk : markAt l k [124] with
       | true =>
        have hlt := tokAt_lt hk
        rw [hk] at h2
        simp only [if_true] at h2
        rw [(skip_yes (hp.trans hk)).1]
        refine r_ev rfl rfl <| r_nn ?_
        refine r_again (true, .good (k + 1), acc ++ [⟨posOf l j, cn, fs⟩], .slice ya ym yc, _, g4) ⟨Ghost.le_trans k1 m1, ⟨_, _, _, rfl⟩, hsn, fun _ => ⟨⟨hlt, by simp only [List.length_append, List.length_cons, List.length_nil]; omega, h2⟩, rfl⟩, (fun h => by cases h)⟩ (by simp only [RS.left, if_true]; omega) ⟨rfl, rfl, rfl, rfl, trivial⟩ rfl ?_
        simp [repN]
       | false =>
        rw [hk] at h2
        simp only [Bool.false_eq_true, if_false] at h2
        rw [(skip_no (hp.trans hk)).1]
        refine r_ev rfl rfl <| r_nn ?_
        refine r_again (false, .good k, acc ++ [⟨posOf l j, cn, fs⟩], .slice ya ym yc, _, g4) ⟨Ghost.le_trans k1 m1, ⟨_, _, _, rfl⟩, hsn, (fun h => by cases h), fun _ => ⟨h1, h2⟩⟩ (by show 0 < 1 + RS.left l (RS.good j); omega) ⟨rfl, rfl, rfl, rfl, trivial⟩ rfl ?_
        simp [repN]
     ·intro K2 hK2
      refine r_block ?_
      refine r_nilRow 49 5 ?_
      refine r_loop (ι := RS × List Ty × Value × List Value × Ghost) (fun p => [(0, ptr b 0), (3, ptr b3 0), (4, ptr b2 0), (6, ptr b6 0)]) (fun p => p.2.2.2.2)
       (fun p => [.row 49 5 p.2.2.1 p.2.1.length p.2.2.2.1, .blk b6 98 [.int .i64 (posOf l j), str cn, p.2.2.1], .row 98 3 (.slice ca cm cc) acc.length xc, .blk b3 86 [.int .i64 (posOf l i), str (s1.text l 2), .slice va vm vc, .slice ca cm cc], .blk b2 86 [.int .i64 0, str [], .slice none 0 0, .slice none 0 0], rdP b (.slice la l.length lc) p.1])
       (fun p => Ghost.le g2' p.2.2.2.2 ∧ (∃ a m c, p.2.2.1 = .slice a m c) ∧ TysAt p.2.2.2.2 p.2.1 p.2.2.2.1 ∧ FldS l R acc (posOf l j) cn acc.length p.2.1 p.1 ∧ p.2.1.length ≤ l.length ∧ (∀ k, p.1 = .good k → j < k))
       (fun p => p.1.left l) (s5, [], .slice none 0 0, [], g2') ⟨Ghost.le_refl _, ⟨_, _, _, rfl⟩, tysNil _, hfs, by simp, fun k hk => by have := hleft5 k hk; omega⟩ ⟨rfl, rfl, rfl, rfl, trivial⟩ rfl rfl ?_
      rintro ⟨s6, fs, sf, xf, g3⟩ ⟨m1, ⟨fa, fm, fc, m2⟩, m3, m4, m5, m6⟩
      simp only at m1 m2 m3 m4 m5 m6
      subst m2
      have hs3 := hs2.mono m1
      have hg3 := hg2.mono m1
      show Run E _ [(0, ptr b 0), (3, ptr b3 0), (4, ptr b2 0), (6, ptr b6 0)] g3 [.row 49 5 (.slice fa fm fc) fs.length xf, .blk b6 98 [.int .i64 (posOf l j), str cn, .slice fa fm fc], .row 98 3 (.slice ca cm cc) acc.length xc, .blk b3 86 [.int .i64 (posOf l i), str (s1.text l 2), .slice va vm vc, .slice ca cm cc], .blk b2 86 [.int .i64 0, str [], .slice none 0 0, .slice none 0 0], rdP b (.slice la l.length lc) s6] _
      cases s6 with
      | bad j' p' =>
       obtain ⟨h1, h2⟩ := m4
       refine r_seq <| r_seq ?_
       refine r_qregion mixed (by kernel_rfl) ?_
       refine q_ev rfl rfl ?_
       refine q_callO 5 rfl rfl rfl (pok_spec g3 _ b (.bad j' p')) ?_
       refine q_ev rfl rfl <| q_pass rfl rfl rfl <| q_pass rfl rfl rfl <| q_pass rfl rfl rfl <| q_pass rfl rfl rfl <| q_pass rfl rfl rfl <| q_pass rfl rfl rfl <| q_pass rfl rfl rfl <| q_pass rfl rfl rfl <| q_pass rfl rfl rfl <| q_pass rfl rfl rfl <| q_ev rfl rfl <| q_ev rfl rfl <| q_pass rfl rfl rfl ?_; refine q_pass rfl rfl rfl <| q_pass rfl rfl rfl <| q_pass rfl rfl rfl <| q_pass rfl rfl rfl <| q_pass rfl rfl rfl <| q_pass rfl rfl rfl <| q_pass rfl rfl rfl <| q_pass rfl rfl rfl <| q_pass rfl rfl rfl <| q_pass rfl rfl rfl <| q_ev rfl rfl <| q_end ?_
       refine r_then_normal <| r_cond_false rfl <| r_exit <| r_then_exit <| r_then_exit <| r_in_exit <| r_then_normal ?_
       refine r_publishRow (fun g4 hg4 ha4 => ?_)
       exact hK2 (.bad j' p', fs, .slice fa fm fc, g4) _ ⟨Ghost.le_trans m1 hg4, ⟨xf, ha4, m3.mono hg4⟩, h1, h2⟩ ⟨rfl, rfl, rfl, rfl, trivial⟩
      | good k =>
       obtain ⟨h1, h1', h2⟩ := m4
       have hjk := m6 k rfl
       rw [tread_args] at h2
       refine r_seq <| r_seq ?_
       refine r_qregion mixed (by kernel_rfl) ?_
       refine q_ev rfl rfl ?_
       refine q_callO 5 rfl rfl rfl (pok_spec g3 _ b (.good k)) ?_
       refine q_ev rfl rfl <| q_tev rfl rfl rfl <| q_tev rfl rfl rfl <| q_take rfl <| q_v rfl (val_fieldAddr rfl) ?_; refine q_take rfl <| q_v rfl (val_loadB1 5 rfl rfl rfl) ?_; refine q_tev rfl rfl rfl <| q_tev rfl rfl rfl <| q_take rfl <| q_v rfl (val_fieldAddr rfl) ?_; refine q_take rfl <| q_v rfl (val_loadB1 5 rfl rfl rfl) ?_; refine q_take rfl <| q_v rfl (val_len_sl rfl) ?_; refine q_tev rfl rfl rfl <| q_ev rfl rfl <| q_ev rfl rfl ?_
       by_cases hltk : k < l.length
       ·rw [startsAt_get hltk] at h2
        refine q_gdec rfl rfl (fun _ => ?_) (fun h => absurd (by omega) h)
        obtain ⟨b0, off, cap, hsl, hx⟩ := hs3.held hltk
        cases hsl
        refine q_tev rfl rfl rfl <| q_tev rfl rfl rfl <| q_take rfl <| q_v rfl (val_fieldAddr rfl) ?_; refine q_take rfl <| q_v rfl (val_loadB1 5 rfl rfl rfl) ?_; refine q_tev rfl rfl rfl <| q_tev rfl rfl rfl <| q_take rfl <| q_v rfl (val_fieldAddr rfl) ?_; refine q_take rfl <| q_v rfl (val_loadB1 5 rfl rfl rfl) ?_; refine q_take rfl <| q_v rfl (val_indexAddr rfl rfl rfl (by omega)) ?_; refine q_take rfl ?_
        refine q_v rfl (val_load (vs := tokCells l[k]) rfl (toks_rd hx hltk) rfl) ?_
        refine q_take rfl ?_
        refine q_callP rfl rfl (starts_spec g3 l[k]) ?_
        cases hst : startsT l[k] with
        | false =>
         rw [hst] at h2
         simp only [Bool.false_eq_true, if_false] at h2
         refine q_ev rfl rfl <| q_end ?_
         refine r_then_normal <| r_cond_false rfl <| r_exit <| r_then_exit <| r_then_exit <| r_in_exit <| r_then_normal ?_
         refine r_publishRow (fun g4 hg4 ha4 => ?_)
         exact hK2 (.good k, fs, .slice fa fm fc, g4) _ ⟨Ghost.le_trans m1 hg4, ⟨xf, ha4, m3.mono hg4⟩, h1, hjk, h2⟩ ⟨rfl, rfl, rfl, rfl, trivial⟩
        | true =>
         rw [hst] at h2
         simp only [if_true] at h2
         have hmv : ∀ t k', tread l .atom k = .ok (t, k') → k < k' := fun t k' h => tread_moves h
         have hprog : ∀ t k', tread l .atom k = .ok (t, k') → k' ≤ l.length := fun t k' h => tread_end l .atom k t k' h1 h
         refine q_ev rfl rfl <| q_end ?_
         refine r_then_normal <| r_cond_true rfl <| r_skip <| r_then_normal <| r_block ?_
         -- STOPD
         refine r_cutG (ι := Ghost × Value × Nat × Nat) (fun p => [(0, ptr b 0), (3, ptr b3 0), (4, ptr b2 0), (6, ptr b6 0), (7, ptr p.2.2.1 0), (8, .int .i64 (ansI (tread l .atom k))), (9, ptr p.2.2.2 0)]) (fun p => p.1)
          (fun p => [.blk p.2.2.2 32 [.int .i64 (ansE (tread l .atom k)), .int .i64 (ansP (tread l .atom k))], .blk p.2.2.1 49 (tyCells (ansT (tread l .atom k)) p.2.1), .row 49 5 (.slice fa fm fc) fs.length xf, .blk b6 98 [.int .i64 (posOf l j), str cn, .slice fa fm fc], .row 98 3 (.slice ca cm cc) acc.length xc, .blk b3 86 [.int .i64 (posOf l i), str (s1.text l 2), .slice va vm vc, .slice ca cm cc], .blk b2 86 [.int .i64 0, str [], .slice none 0 0, .slice none 0 0], rdP b (.slice (some ⟨b0, off, none⟩) l.length lc) (.good k)])
          (fun p => Ghost.le g3 p.1 ∧ (∃ a m c, p.2.1 = .slice a m c) ∧ TyAt p.1 (ansT (tread l .atom k)) (tyCells (ansT (tread l .atom k)) p.2.1)) ?_ ?_
         ·rintro ⟨g4, sv, b7, b9⟩ ⟨n1, ⟨ta, tm, tc, n2⟩, n3⟩
          simp only at n1 n2 n3
          subst n2
          have hs4 := hs3.mono n1
          generalize tread l .atom k = q at h2 hprog hmv n3
          show Run E _ [(0, ptr b 0), (3, ptr b3 0), (4, ptr b2 0), (6, ptr b6 0), (7, ptr b7 0), (8, .int .i64 (ansI q)), (9, ptr b9 0)] g4 [.blk b9 32 [.int .i64 (ansE q), .int .i64 (ansP q)], .blk b7 49 (tyCells (ansT q) (.slice ta tm tc)), .row 49 5 (.slice fa fm fc) fs.length xf, .blk b6 98 [.int .i64 (posOf l j), str cn, .slice fa fm fc], .row 98 3 (.slice ca cm cc) acc.length xc, .blk b3 86 [.int .i64 (posOf l i), str (s1.text l 2), .slice va vm vc, .slice ca cm cc], .blk b2 86 [.int .i64 0, str [], .slice none 0 0, .slice none 0 0], rdP b (.slice (some ⟨b0, off, none⟩) l.length lc) (.good k)] _
          have hst7 : ∃ s7, ansI q = s7.idx ∧ ansE q = s7.errP ∧ ansP q = s7.posP ∧ FldS l R acc (posOf l j) cn acc.length (fs ++ [ansT q]) s7 ∧ (∀ k', s7 = .good k' → k < k') := by
           cases q with
           | error p => exact ⟨.bad 0 p, rfl, rfl, rfl, ⟨Nat.zero_le _, h2⟩, fun k' h => by cases h⟩
           | ok q =>
            obtain ⟨t, k'⟩ := q
            have h4 := hprog t k' rfl
            simp only at h2
            by_cases h3 : k < k'
            ·rw [if_pos h3] at h2
             exact ⟨.good k', rfl, rfl, rfl, ⟨h4, by simp only [List.length_append, List.length_cons, List.length_nil]; omega, h2⟩, fun k'' h => by cases h; exact h3⟩
            ·exact absurd (hmv t k' rfl) h3
          obtain ⟨s7, e1, e2, e3, hf7, hk7⟩ := hst7
          rw [e1, e2, e3]
          refine r_sr <| r_ev rfl rfl <| r_ev rfl rfl <| r_loadB 0 rfl rfl rfl (by rfl) ?_
          refine r_callL 7 rfl rfl rfl (ptake_spec g4 l _ hs4 b (.good k) s7) ?_
          rintro v g4' r' ⟨rfl, rfl⟩ _
          refine r_nn <| r_region <| r_fieldAddr rfl rfl <| r_loadB1 3 rfl rfl rfl rfl <| r_loadB 1 rfl rfl rfl (by rfl) ?_
          refine r_buildSlice rfl rfl (by rfl) (by rfl) (by rfl) (by rfl) (by rfl) (fun b41 => ?_)
          refine r_appendRow 3 0 rfl rfl rfl rfl rfl (by rfl) (by rfl) rfl (by unfold maxLen; omega) (by omega) (fun v' hv' => ?_)
          refine r_rowForm 3 rfl ?_
          rintro ⟨ya, ym, yc, rfl⟩
          refine r_drop (own' := [_, _, _, _, _, _]) (.cons _ (.cons _ (.cons _ (List.Sublist.refl _)))) ?_
          refine r_fieldAddr rfl rfl <| r_store1 1 rfl rfl rfl rfl rfl rfl <| r_nil <| r_in_normal <| r_then_normal ?_
          refine r_again (s7, fs ++ [ansT q], .slice ya ym yc, xf ++ tyCells (ansT q) (.slice ta tm tc), g4') ⟨Ghost.le_trans m1 n1, ⟨_, _, _, rfl⟩, TysAt.snoc n3 (m3.mono n1), hf7, ?_, fun k' h => Nat.lt_trans hjk (hk7 k' h)⟩ ?_ ⟨rfl, rfl, rfl, rfl, trivial⟩ rfl ?_
          ·simp only [List.length_append, List.length_cons, List.length_nil]; omega
          ·cases s7 with
           | bad j' p => simp only [RS.left]; omega
           | good k' =>
            have := hk7 k' rfl
            have h9 : k' ≤ l.length := hf7.1
            simp only [RS.left]; omega
          ·simp [tyCells, repN]
         ·intro K3 hK3
          skip
          refine h_beginE [] mixed (fun hG => ?_)
          refine h_takeXA 0 rfl (by kernel_rfl) rfl hG ?_; refine ⟨_, (val_ev rfl), ?_⟩; refine h_takeXA 1 rfl (by kernel_rfl) rfl hG ?_; refine ⟨_, (val_ev rfl), ?_⟩; refine h_takeXA 2 rfl (by kernel_rfl) rfl hG ?_; refine ⟨_, (val_fieldAddr rfl), ?_⟩; refine h_takeXA 3 rfl (by kernel_rfl) rfl hG ?_; refine ⟨_, (val_loadB1 5 rfl rfl rfl), ?_⟩; refine h_takeXA 4 rfl (by kernel_rfl) rfl hG ?_; refine ⟨_, (val_ev rfl), ?_⟩; refine h_takeXA 5 rfl (by kernel_rfl) rfl hG ?_; refine ⟨_, (val_ev rfl), ?_⟩; refine h_takeXA 6 rfl (by kernel_rfl) rfl hG ?_; refine ⟨_, (val_fieldAddr rfl), ?_⟩; refine h_takeXA 7 rfl (by kernel_rfl) rfl hG ?_; refine ⟨_, (val_loadB1 5 rfl rfl rfl), ?_⟩
          refine h_three 8 13 14 (by kernel_rfl) rfl rfl rfl ?_ ?_ ?_
          ·refine r_callN rfl rfl (rAtom_spec hb g3 hg3 _ (k : Int) hs3) ?_
           rintro w g4 hans hle4
           rw [idx_nat h1] at hans
           obtain ⟨tv, rfl, hty⟩ := hans
           obtain ⟨ta, tm, tc, rfl, ht⟩ := hty.cells5
           refine r_nn ?_
           refine h_keptA hG ?_
           refine h_takeXA 9 rfl (by kernel_rfl) rfl hG ?_; refine ⟨_, (val_ev rfl), ?_⟩; refine h_takeXA 10 rfl (by kernel_rfl) rfl hG ?_; refine ⟨_, (val_ev rfl), ?_⟩; refine h_takeXA 11 rfl (by kernel_rfl) rfl hG ?_; refine ⟨_, (val_ev rfl), ?_⟩; refine h_takeXA 12 rfl (by kernel_rfl) rfl hG ?_; refine ⟨_, (val_ev rfl), ?_⟩
           refine h_two 13 14 (by kernel_rfl) rfl rfl ?_ ?_
           ·refine r_alloc rfl (fun b7 => ?_)
            refine r_nn ?_
            refine h_keptA hG ?_
            refine h_one 14 (by kernel_rfl) rfl ?_
            refine r_alloc rfl (fun b9 => ?_)
            refine r_nn ?_
            refine h_keptA hG ?_
            refine h_one 15 (by kernel_rfl) rfl ?_
            refine r_storeA 1 rfl rfl rfl rfl (by rfl) (by repeat' (first | exact rfl | assumption | refine all_cons ?_ ?_)) rfl ?_; refine r_nn ?_
            refine h_keptA hG ?_
            refine h_takeXA 16 rfl (by kernel_rfl) rfl hG ?_; refine ⟨_, (val_ev rfl), ?_⟩
            refine h_one 17 (by kernel_rfl) rfl ?_
            refine r_storeA 0 rfl rfl rfl rfl (by rfl) (by repeat' (first | exact rfl | assumption | refine all_cons ?_ ?_)) rfl ?_; refine r_nn ?_
            refine h_keptA hG ?_
            refine h_done (by kernel_rfl) ?_
            refine r_then_normal ?_
            exact hK3 (g4, .slice ta tm tc, b7, b9) _ ⟨hle4, ⟨_, _, _, rfl⟩, ht⟩ ⟨rfl, rfl, rfl, rfl, rfl, rfl, rfl, trivial⟩
           ·refine r_alloc rfl (fun b9 => ?_)
            refine r_nn ?_
            refine h_keptA hG ?_
            refine h_one 13 (by kernel_rfl) rfl ?_
            refine r_alloc rfl (fun b7 => ?_)
            refine r_nn ?_
            refine h_keptA hG ?_
            refine h_one 15 (by kernel_rfl) rfl ?_
            refine r_storeA 0 rfl rfl rfl rfl (by rfl) (by repeat' (first | exact rfl | assumption | refine all_cons ?_ ?_)) rfl ?_; refine r_nn ?_
            refine h_keptA hG ?_
            refine h_takeXA 16 rfl (by kernel_rfl) rfl hG ?_; refine ⟨_, (val_ev rfl), ?_⟩
            refine h_one 17 (by kernel_rfl) rfl ?_
            refine r_storeA 1 rfl rfl rfl rfl (by rfl) (by repeat' (first | exact rfl | assumption | refine all_cons ?_ ?_)) rfl ?_; refine r_nn ?_
            refine h_keptA hG ?_
            refine h_done (by kernel_rfl) ?_
            refine r_perm (List.Perm.swap _ _ _) ?_
            refine r_then_normal ?_
            exact hK3 (g4, .slice ta tm tc, b7, b9) _ ⟨hle4, ⟨_, _, _, rfl⟩, ht⟩ ⟨rfl, rfl, rfl, rfl, rfl, rfl, rfl, trivial⟩
          ·refine r_alloc rfl (fun b7 => ?_)
           refine r_nn ?_
           refine h_keptA hG ?_
           refine h_two 8 14 (by kernel_rfl) rfl rfl ?_ ?_
           ·refine r_callN rfl rfl (rAtom_spec hb g3 hg3 _ (k : Int) hs3) ?_
            rintro w g4 hans hle4
            rw [idx_nat h1] at hans
            obtain ⟨tv, rfl, hty⟩ := hans
            obtain ⟨ta, tm, tc, rfl, ht⟩ := hty.cells5
            refine r_nn ?_
            refine h_keptA hG ?_
            refine h_takeXA 9 rfl (by kernel_rfl) rfl hG ?_; refine ⟨_, (val_ev rfl), ?_⟩; refine h_takeXA 10 rfl (by kernel_rfl) rfl hG ?_; refine ⟨_, (val_ev rfl), ?_⟩; refine h_takeXA 11 rfl (by kernel_rfl) rfl hG ?_; refine ⟨_, (val_ev rfl), ?_⟩; refine h_takeXA 12 rfl (by kernel_rfl) rfl hG ?_; refine ⟨_, (val_ev rfl), ?_⟩
            refine h_one 14 (by kernel_rfl) rfl ?_
            refine r_alloc rfl (fun b9 => ?_)
            refine r_nn ?_
            refine h_keptA hG ?_
            refine h_one 15 (by kernel_rfl) rfl ?_
            refine r_storeA 1 rfl rfl rfl rfl (by rfl) (by repeat' (first | exact rfl | assumption | refine all_cons ?_ ?_)) rfl ?_; refine r_nn ?_
            refine h_keptA hG ?_
            refine h_takeXA 16 rfl (by kernel_rfl) rfl hG ?_; refine ⟨_, (val_ev rfl), ?_⟩
            refine h_one 17 (by kernel_rfl) rfl ?_
            refine r_storeA 0 rfl rfl rfl rfl (by rfl) (by repeat' (first | exact rfl | assumption | refine all_cons ?_ ?_)) rfl ?_; refine r_nn ?_
            refine h_keptA hG ?_
            refine h_done (by kernel_rfl) ?_
            refine r_then_normal ?_
            exact hK3 (g4, .slice ta tm tc, b7, b9) _ ⟨hle4, ⟨_, _, _, rfl⟩, ht⟩ ⟨rfl, rfl, rfl, rfl, rfl, rfl, rfl, trivial⟩
           ·refine r_alloc rfl (fun b9 => ?_)
            refine r_nn ?_
            refine h_keptA hG ?_
            refine h_one 8 (by kernel_rfl) rfl ?_
            refine r_callN rfl rfl (rAtom_spec hb g3 hg3 _ (k : Int) hs3) ?_
            rintro w g4 hans hle4
            rw [idx_nat h1] at hans
            obtain ⟨tv, rfl, hty⟩ := hans
            obtain ⟨ta, tm, tc, rfl, ht⟩ := hty.cells5
            refine r_nn ?_
            refine h_keptA hG ?_
            refine h_takeXA 9 rfl (by kernel_rfl) rfl hG ?_; refine ⟨_, (val_ev rfl), ?_⟩; refine h_takeXA 10 rfl (by kernel_rfl) rfl hG ?_; refine ⟨_, (val_ev rfl), ?_⟩; refine h_takeXA 11 rfl (by kernel_rfl) rfl hG ?_; refine ⟨_, (val_ev rfl), ?_⟩; refine h_takeXA 12 rfl (by kernel_rfl) rfl hG ?_; refine ⟨_, (val_ev rfl), ?_⟩
            refine h_one 15 (by kernel_rfl) rfl ?_
            refine r_storeA 1 rfl rfl rfl rfl (by rfl) (by repeat' (first | exact rfl | assumption | refine all_cons ?_ ?_)) rfl ?_; refine r_nn ?_
            refine h_keptA hG ?_
            refine h_takeXA 16 rfl (by kernel_rfl) rfl hG ?_; refine ⟨_, (val_ev rfl), ?_⟩
            refine h_one 17 (by kernel_rfl) rfl ?_
            refine r_storeA 0 rfl rfl rfl rfl (by rfl) (by repeat' (first | exact rfl | assumption | refine all_cons ?_ ?_)) rfl ?_; refine r_nn ?_
            refine h_keptA hG ?_
            refine h_done (by kernel_rfl) ?_
            refine r_then_normal ?_
            exact hK3 (g4, .slice ta tm tc, b7, b9) _ ⟨hle4, ⟨_, _, _, rfl⟩, ht⟩ ⟨rfl, rfl, rfl, rfl, rfl, rfl, rfl, trivial⟩
          ·refine r_alloc rfl (fun b9 => ?_)
           refine r_nn ?_
           refine h_keptA hG ?_
           refine h_two 8 13 (by kernel_rfl) rfl rfl ?_ ?_
           ·refine r_callN rfl rfl (rAtom_spec hb g3 hg3 _ (k : Int) hs3) ?_
            rintro w g4 hans hle4
            rw [idx_nat h1] at hans
            obtain ⟨tv, rfl, hty⟩ := hans
            obtain ⟨ta, tm, tc, rfl, ht⟩ := hty.cells5
            refine r_nn ?_
            refine h_keptA hG ?_
            refine h_takeXA 9 rfl (by kernel_rfl) rfl hG ?_; refine ⟨_, (val_ev rfl), ?_⟩; refine h_takeXA 10 rfl (by kernel_rfl) rfl hG ?_; refine ⟨_, (val_ev rfl), ?_⟩; refine h_takeXA 11 rfl (by kernel_rfl) rfl hG ?_; refine ⟨_, (val_ev rfl), ?_⟩; refine h_takeXA 12 rfl (by kernel_rfl) rfl hG ?_; refine ⟨_, (val_ev rfl), ?_⟩
            refine h_one 13 (by kernel_rfl) rfl ?_
            refine r_alloc rfl (fun b7 => ?_)
            refine r_nn ?_
            refine h_keptA hG ?_
            refine h_one 15 (by kernel_rfl) rfl ?_
            refine r_storeA 0 rfl rfl rfl rfl (by rfl) (by repeat' (first | exact rfl | assumption | refine all_cons ?_ ?_)) rfl ?_; refine r_nn ?_
            refine h_keptA hG ?_
            refine h_takeXA 16 rfl (by kernel_rfl) rfl hG ?_; refine ⟨_, (val_ev rfl), ?_⟩
            refine h_one 17 (by kernel_rfl) rfl ?_
            refine r_storeA 1 rfl rfl rfl rfl (by rfl) (by repeat' (first | exact rfl | assumption | refine all_cons ?_ ?_)) rfl ?_; refine r_nn ?_
            refine h_keptA hG ?_
            refine h_done (by kernel_rfl) ?_
            refine r_perm (List.Perm.swap _ _ _) ?_
            refine r_then_normal ?_
            exact hK3 (g4, .slice ta tm tc, b7, b9) _ ⟨hle4, ⟨_, _, _, rfl⟩, ht⟩ ⟨rfl, rfl, rfl, rfl, rfl, rfl, rfl, trivial⟩
           ·refine r_alloc rfl (fun b7 => ?_)
            refine r_nn ?_
            refine h_keptA hG ?_
            refine h_one 8 (by kernel_rfl) rfl ?_
            refine r_callN rfl rfl (rAtom_spec hb g3 hg3 _ (k : Int) hs3) ?_
            rintro w g4 hans hle4
            rw [idx_nat h1] at hans
            obtain ⟨tv, rfl, hty⟩ := hans
            obtain ⟨ta, tm, tc, rfl, ht⟩ := hty.cells5
            refine r_nn ?_
            refine h_keptA hG ?_
            refine h_takeXA 9 rfl (by kernel_rfl) rfl hG ?_; refine ⟨_, (val_ev rfl), ?_⟩; refine h_takeXA 10 rfl (by kernel_rfl) rfl hG ?_; refine ⟨_, (val_ev rfl), ?_⟩; refine h_takeXA 11 rfl (by kernel_rfl) rfl hG ?_; refine ⟨_, (val_ev rfl), ?_⟩; refine h_takeXA 12 rfl (by kernel_rfl) rfl hG ?_; refine ⟨_, (val_ev rfl), ?_⟩
            refine h_one 15 (by kernel_rfl) rfl ?_
            refine r_storeA 0 rfl rfl rfl rfl (by rfl) (by repeat' (first | exact rfl | assumption | refine all_cons ?_ ?_)) rfl ?_; refine r_nn ?_
            refine h_keptA hG ?_
            refine h_takeXA 16 rfl (by kernel_rfl) rfl hG ?_; refine ⟨_, (val_ev rfl), ?_⟩
            refine h_one 17 (by kernel_rfl) rfl ?_
            refine r_storeA 1 rfl rfl rfl rfl (by rfl) (by repeat' (first | exact rfl | assumption | refine all_cons ?_ ?_)) rfl ?_; refine r_nn ?_
            refine h_keptA hG ?_
            refine h_done (by kernel_rfl) ?_
            refine r_perm (List.Perm.swap _ _ _) ?_
            refine r_then_normal ?_
            exact hK3 (g4, .slice ta tm tc, b7, b9) _ ⟨hle4, ⟨_, _, _, rfl⟩, ht⟩ ⟨rfl, rfl, rfl, rfl, rfl, rfl, rfl, trivial⟩
       ·have hse := startsAt_end hltk
        rw [hse] at h2
        simp only [Bool.false_eq_true, if_false] at h2
        refine q_gdec rfl rfl (fun h => absurd h (by omega)) (fun _ => ?_)
        refine q_pass rfl rfl rfl <| q_pass rfl rfl rfl <| q_pass rfl rfl rfl <| q_pass rfl rfl rfl <| q_pass rfl rfl rfl <| q_pass rfl rfl rfl <| q_pass rfl rfl rfl <| q_pass rfl rfl rfl <| q_pass rfl rfl rfl <| q_pass rfl rfl rfl <| q_pass rfl rfl rfl <| q_ev rfl rfl <| q_end ?_
        refine r_then_normal <| r_cond_false rfl <| r_exit <| r_then_exit <| r_then_exit <| r_in_exit <| r_then_normal ?_
        refine r_publishRow (fun g4 hg4 ha4 => ?_)
        exact hK2 (.good k, fs, .slice fa fm fc, g4) _ ⟨Ghost.le_trans m1 hg4, ⟨xf, ha4, m3.mono hg4⟩, h1, hjk, h2⟩ ⟨rfl, rfl, rfl, rfl, trivial⟩
 ·intro K hK
  refine r_block ?_
  refine r_nilRow 9 1 ?_
  refine r_loop (ι := RS × List Bytes × Value) (fun p => [(0, ptr b 0), (3, ptr b3 0), (4, ptr b2 0)]) (fun _ => g0)
   (fun p => [.row 9 1 p.2.2 p.2.1.length (p.2.1.map str), .blk b3 86 [.int .i64 (posOf l i), str (s1.text l 2), p.2.2, .slice none 0 0], .blk b2 86 [.int .i64 0, str [], .slice none 0 0, .slice none 0 0], rdP b (.slice la l.length lc) p.1])
   (fun p => (∃ a m c, p.2.2 = .slice a m c) ∧ VarsR l (s1.word l 2) p.1 p.2.1) (fun p => p.1.left l) (s1.word l 2, [], .slice none 0 0) ⟨⟨_, _, _, rfl⟩, VarsR.start hok1⟩ ⟨rfl, rfl, rfl, trivial⟩ rfl rfl ?_
  rintro ⟨s3, vs, vv⟩ ⟨⟨va, vm, vc, q1⟩, q2⟩
  simp only at q1 q2
  subst q1
  have hok3 : s3.ok l := q2.ok hok1
  have hvl := q2.len hok1
  show Run E _ [(0, ptr b 0), (3, ptr b3 0), (4, ptr b2 0)] g0 [.row 9 1 (.slice va vm vc) vs.length (vs.map str), .blk b3 86 [.int .i64 (posOf l i), str (s1.text l 2), .slice va vm vc, .slice none 0 0], .blk b2 86 [.int .i64 0, str [], .slice none 0 0, .slice none 0 0], rdP b (.slice la l.length lc) s3] _
  cases s3 with
  | bad j p =>
   refine r_seq <| r_seq ?_
   refine r_qregion mixed (by kernel_rfl) ?_
   refine q_ev rfl rfl ?_
   refine q_callO 3 rfl rfl rfl (pok_spec g0 _ b (.bad j p)) ?_
   refine q_ev rfl rfl <| q_pass rfl rfl rfl <| q_pass rfl rfl rfl <| q_pass rfl rfl rfl <| q_pass rfl rfl rfl <| q_pass rfl rfl rfl <| q_pass rfl rfl rfl <| q_pass rfl rfl rfl <| q_pass rfl rfl rfl <| q_pass rfl rfl rfl <| q_pass rfl rfl rfl <| q_ev rfl rfl <| q_ev rfl rfl <| q_pass rfl rfl rfl ?_; refine q_pass rfl rfl rfl <| q_pass rfl rfl rfl <| q_pass rfl rfl rfl <| q_pass rfl rfl rfl <| q_pass rfl rfl rfl <| q_pass rfl rfl rfl <| q_pass rfl rfl rfl <| q_pass rfl rfl rfl <| q_pass rfl rfl rfl <| q_pass rfl rfl rfl <| q_pass rfl rfl rfl <| q_ev rfl rfl <| q_end ?_
   refine r_then_normal <| r_cond_false rfl <| r_exit <| r_then_exit <| r_then_exit <| r_in_exit <| r_then_normal ?_
   exact hK (.bad j p, vs, .slice va vm vc) _ ⟨⟨_, _, _, rfl⟩, q2, rfl⟩ ⟨rfl, rfl, rfl, trivial⟩
  | good k =>
   have hstp : kindAt l k 1 = false → RS.kindIs l 1 (.good k) = false := fun h => h
   refine r_seq <| r_seq ?_
   refine r_qregion mixed (by kernel_rfl) ?_
   refine q_ev rfl rfl ?_
   refine q_callO 3 rfl rfl rfl (pok_spec g0 _ b (.good k)) ?_
   refine q_ev rfl rfl <| q_tev rfl rfl rfl <| q_tev rfl rfl rfl <| q_take rfl <| q_v rfl (val_fieldAddr rfl) ?_; refine q_take rfl <| q_v rfl (val_loadB1 3 rfl rfl rfl) ?_; refine q_tev rfl rfl rfl <| q_tev rfl rfl rfl <| q_take rfl <| q_v rfl (val_fieldAddr rfl) ?_; refine q_take rfl <| q_v rfl (val_loadB1 3 rfl rfl rfl) ?_; refine q_take rfl <| q_v rfl (val_len_sl rfl) ?_; refine q_tev rfl rfl rfl <| q_ev rfl rfl <| q_ev rfl rfl ?_
   refine q_gdec rfl rfl (fun hlt => ?_) (fun hlt => ?_)
   ·have hlt' : k < l.length := by omega
    have hk := kindAt_get hlt' 1
    obtain ⟨b0, off, cap, hsl, hx⟩ := hs.held hlt'
    cases hsl
    refine q_tev rfl rfl rfl <| q_tev rfl rfl rfl <| q_take rfl <| q_v rfl (val_fieldAddr rfl) ?_; refine q_take rfl <| q_v rfl (val_loadB1 3 rfl rfl rfl) ?_; refine q_tev rfl rfl rfl <| q_tev rfl rfl rfl <| q_take rfl <| q_v rfl (val_fieldAddr rfl) ?_; refine q_take rfl <| q_v rfl (val_loadB1 3 rfl rfl rfl) ?_; refine q_take rfl <| q_v rfl (val_indexAddr rfl rfl rfl (by omega)) ?_; refine q_take rfl <| q_v rfl (val_fieldAddr rfl) ?_; refine q_take rfl ?_
    refine q_v rfl (val_load1 rfl (SlAt.cell tokCells_len hx hlt' 0 rfl)) ?_
    refine q_tev rfl rfl rfl <| q_ev rfl rfl <| q_end ?_
    refine r_then_normal ?_
    refine r_cond rfl (fun hk1 => ?_) (fun hk1 => ?_)
    ·have hk' : kindAt l k 1 = true := by rw [hk]; simp [hk1]
     have hnx := q2.next (s := .good k) hk'
     have hleft : ((RS.good k).word l 1).left l < (RS.good k).left l := by
      obtain ⟨_, e, hlt2⟩ := nameAt_yes hk'
      rw [e]
      simp only [RS.left]; omega
     refine r_skip <| r_then_normal <| r_block ?_
     refine m_begin 6 [3, 0] mixed (by kernel_rfl) (fun hG => ?_)
     refine m_takeXA 0 rfl (by kernel_rfl) rfl hG ?_; refine ⟨_, (val_fieldAddr rfl), ?_⟩; refine m_takeXA 1 rfl (by kernel_rfl) rfl hG ?_; refine ⟨_, (val_loadB1 0 rfl rfl rfl), ?_⟩; refine m_takeXA 2 rfl (by kernel_rfl) rfl hG ?_; refine ⟨_, (val_ev rfl), ?_⟩
     refine m_one 3 (by kernel_rfl) rfl rfl ?_
     refine r_callL 3 rfl rfl rfl (pname_spec g0 l hb _ hs b (.good k) 1) ?_
     rintro v g4 r' ⟨rfl, rfl, rfl⟩ _
     refine r_nn ?_
     refine h_keptA hG ?_
     refine m_one 4 (by kernel_rfl) rfl rfl ?_
     refine r_buildSlice rfl rfl (by rfl) (by rfl) (by rfl) (by rfl) (by rfl) (fun b41 => ?_)
     refine r_nn ?_
     refine h_keptA hG ?_
     refine m_one 5 (by kernel_rfl) rfl rfl ?_
     refine r_appendRow 1 0 rfl rfl rfl rfl rfl (by rfl) (by rfl) rfl (by unfold maxLen; omega) (by omega) (fun v' hv' => ?_)
     refine r_rowForm 1 rfl ?_
     rintro ⟨ya, ym, yc, rfl⟩
     refine r_nn ?_
     refine h_keptA hG ?_
     refine m_done (by kernel_rfl) ?_
     refine r_fieldAddr rfl rfl <| r_store1 2 rfl rfl rfl rfl rfl rfl <| r_nil <| r_in_normal <| r_then_normal ?_
     refine r_drop (own' := [_, _, _, _]) (.cons _ (List.Sublist.refl _)) ?_
     refine r_again ((RS.good k).word l 1, vs ++ [(RS.good k).text l 1], .slice ya ym yc) ⟨⟨_, _, _, rfl⟩, hnx⟩ hleft ⟨rfl, rfl, rfl, trivial⟩ rfl ?_
     simp [repN]
    ·refine r_exit <| r_then_exit <| r_then_exit <| r_in_exit <| r_then_normal ?_
     exact hK (.good k, vs, .slice va vm vc) _ ⟨⟨_, _, _, rfl⟩, q2, hstp (by rw [hk]; simp [hk1])⟩ ⟨rfl, rfl, rfl, trivial⟩
   ·refine q_pass rfl rfl rfl <| q_pass rfl rfl rfl <| q_pass rfl rfl rfl <| q_pass rfl rfl rfl <| q_pass rfl rfl rfl <| q_pass rfl rfl rfl <| q_pass rfl rfl rfl <| q_pass rfl rfl rfl <| q_pass rfl rfl rfl <| q_pass rfl rfl rfl <| q_pass rfl rfl rfl <| q_pass rfl rfl rfl <| q_ev rfl rfl <| q_end ?_
    refine r_then_normal <| r_cond_false rfl <| r_exit <| r_then_exit <| r_then_exit <| r_in_exit <| r_then_normal ?_
    exact hK (.good k, vs, .slice va vm vc) _ ⟨⟨_, _, _, rfl⟩, q2, hstp (kindAt_end (by omega) 1)⟩ ⟨rfl, rfl, rfl, trivial⟩
end Go.Proofs.YtpjehhnaojjanaaGreatDoor
-- sum 2dcebc79d812ef7f


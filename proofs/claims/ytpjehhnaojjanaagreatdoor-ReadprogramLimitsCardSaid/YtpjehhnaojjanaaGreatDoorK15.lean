/- The walk of readprogram's bind. Printed by mkprh.py. -/
import Derived.Test.YtpjehhnaojjanaaGreatDoorK13
import Derived.Test.YtpjehhnaojjanaaGreatDoorK14
import Derived.Test.YtpjehhnaojjanaaGreatDoorK7
import Derived.Test.YtpjehhnaojjanaaGreatDoorK9
namespace Go.Th
theorem tread_end_aux (l : List Tok) : ∀ (N : Nat) (q : TQ) (i : Nat) (x : Ty × Nat), tmu l q i < N → i ≤ l.length → tread l q i = .ok x → x.2 ≤ l.length
 | 0, _, _, _, h, _, _ => by omega
 | N + 1, q, i, x, hN, hi0, h => by
  have ih := tread_end_aux l N
  have hpr := fun q i x h => tread_prog l _ q i x (Nat.lt_succ_self _) h
  cases q with
  | atom =>
   rw [tread_atom] at h
   split at h
   ·cases h
   ·rename_i t ht
    have hi := (List.getElem?_eq_some_iff.1 ht).1
    split at h
    ·cases h; exact hi
    ·split at h
     ·cases h; exact hi
     ·split at h
      ·split at h
       ·cases h
       ·rename_i y j h1
        split at h
        ·rename_i hm
         have := tokAt_lt hm
         cases h; exact this
        ·cases h
      ·cases h
  | args n acc =>
   rw [tread_args] at h
   split at h
   ·rename_i hs
    have hi := startsAt_lt hs
    split at h
    ·cases h
    ·rename_i y j h1
     split at h
     ·rename_i hij
      have i1 := ih .atom i (y, j) (by simp only [tmu, TQ.rank] at *; omega) hi0 h1
      exact ih _ j x (by simp only [tmu, TQ.rank] at *; omega) i1 h
     ·cases h
   ·cases h; exact hi0
  | applied =>
   rw [tread_applied] at h
   split at h
   ·rename_i t ht
    have hi := (List.getElem?_eq_some_iff.1 ht).1
    split at h
    ·exact ih _ (i + 1) x (by simp only [tmu, TQ.rank] at *; omega) hi h
    ·exact ih _ i x (by simp only [tmu, TQ.rank] at *; omega) hi0 h
   ·exact ih _ i x (by simp only [tmu, TQ.rank] at *; omega) hi0 h
  | whole =>
   rw [tread_whole] at h
   split at h
   ·cases h
   ·rename_i a j h1
    have i1 := ih _ i (a, j) (by simp only [tmu, TQ.rank] at *; omega) hi0 h1
    have i3 := hpr _ _ _ h1
    simp only at i1 i3
    split at h
    ·rename_i hm
     have hj := tokAt_lt hm
     split at h
     ·split at h
      ·cases h
      ·rename_i b k h2
       have i2 := ih _ (j + 1) (b, k) (by simp only [tmu, TQ.rank] at *; omega) hj h2
       cases h
       exact i2
     ·cases h
    ·cases h; exact i1
theorem tread_end (l : List Tok) (q : TQ) (i : Nat) (t : Ty) (j : Nat) (hi : i ≤ l.length) (h : tread l q i = .ok (t, j)) : j ≤ l.length := tread_end_aux l _ q i (t, j) (Nat.lt_succ_self _) hi h
end Go.Th
namespace Go.Proofs.YtpjehhnaojjanaaGreatDoor
open Go Go.Eng Go.Th Go.Proofs
set_option maxRecDepth 10000
set_option maxHeartbeats 4000000
attribute [local irreducible] wpList Code.wp Run bodyPost Go.Eng.Ends Exit.then Exit.inBlock Again Wq Kq
theorem pbind_spec {l : List Tok} (hb : TB l) (hkw : KW l) (g : Ghost) (hg : ErrT g) (lv : Value) (b i : Nat) (hs : ToksAt g lv l) (hlet : wordAt l i letB = true) :
  SpecL Tryz.prog 43 [ptr b 0, .agg (biCells (posOf l i) false [] false noTc noEc).toArray] g (rdP b lv (.good (i + 1))) (postB (rdP b lv) l i (bindR l i)) := by
 have hb1 := hb.1
 have hi := tokAt_lt hlet
 have hp0 : isAt l i letB = wordAt l i letB := isAt_word hkw (by decide) i
 obtain ⟨la, lc, rfl⟩ := slForm2 hs
 refine spec_of_run Tryz.func43 rfl Tryz.ntmps43 rfl fun E hE => ?_
 refine r_sr ?_
 refine r_box rfl rfl rfl (fun b3 => ?_)
 refine r_alloc rfl (fun b2 => ?_)
 refine r_nn <| r_sr <| r_ev rfl rfl ?_
 obtain ⟨s1, hs1⟩ : ∃ s, s = RS.good (i + 1) := ⟨_, rfl⟩
 rw [← hs1]
 have hs1' : s1 = RS.need l letB (.good i) := by rw [hs1, (skip_yes (hp0.trans hlet)).2.1]
 refine r_callL 2 rfl rfl rfl (pword_spec g l hb hkw _ hs b s1 (w := recB) (by decide)) ?_
 rintro v g0 r' ⟨rfl, rfl, rfl⟩ _
 obtain ⟨s2, hs2⟩ : ∃ s, s = s1.skip l recB := ⟨_, rfl⟩
 rw [← hs2]
 refine r_fieldAddr rfl rfl <| r_store1 1 rfl rfl rfl rfl rfl rfl <| r_nn <| r_sr <| r_ev rfl rfl ?_
 refine r_callL 2 rfl rfl rfl (pname_spec g0 l hb _ hs b s2 1) ?_
 rintro v g0 r' ⟨rfl, rfl, rfl⟩ _
 obtain ⟨s3, hs3⟩ : ∃ s, s = s2.word l 1 := ⟨_, rfl⟩
 rw [← hs3]
 have hh := bind_head hkw (Nat.le_of_lt hi) hs1' hs2 hs3
 generalize s1.isIs l recB = rr at hh ⊢
 generalize s2.text l 1 = nn at hh ⊢
 refine r_perm (List.Perm.swap _ _ _) ?_
 refine r_fieldAddr rfl rfl <| r_store1 0 rfl rfl rfl rfl rfl rfl <| r_nn ?_
 -- STOPA
 refine r_cutG (ι := RS × Bool × Ty × Value × Ghost) (fun p => [(0, ptr b 0), (3, ptr b3 0), (4, ptr b2 0)]) (fun p => p.2.2.2.2)
  (fun p => [.blk b3 73 (biCells (posOf l i) rr nn p.2.1 (tyCells p.2.2.1 p.2.2.2.1) noEc), .blk b2 73 (biCells 0 false [] false noTc noEc), rdP b (.slice la l.length lc) p.1])
  (fun p => Ghost.le g0 p.2.2.2.2 ∧ (∃ a m c, p.2.2.2.1 = .slice a m c) ∧ TyAt p.2.2.2.2 p.2.2.1 (tyCells p.2.2.1 p.2.2.2.1) ∧ BodS l i (bindR l i) (posOf l i) rr nn p.2.1 p.2.2.1 p.1) ?_ ?_
 ·rintro ⟨s, hsg, t, sv, g2⟩ ⟨k1, ⟨ta, tm, tc, k2⟩, k3, k4⟩
  simp only at k1 k2 k3 k4
  subst k2
  have hs2 := hs.mono k1
  have hg2 := hg.mono k1
  have hok : s.ok l := by
   cases s with
   | good j => exact k4.1
   | bad j p => exact k4.1
  show Run E _ [(0, ptr b 0), (3, ptr b3 0), (4, ptr b2 0)] g2 [.blk b3 73 (biCells (posOf l i) rr nn hsg (tyCells t (.slice ta tm tc)) noEc), .blk b2 73 (biCells 0 false [] false noTc noEc), rdP b (.slice la l.length lc) s] _
  refine r_sr <| r_ev rfl rfl ?_
  refine r_callL 2 rfl rfl rfl (pwant_spec g2 l hb hkw (.slice la l.length lc) hs2 b s (w := [61]) (by decide)) ?_
  rintro v g2' r' ⟨rfl, rfl⟩ _
  have h5 := k4.eq hkw
  generalize s.need l [61] = s5 at h5
  refine r_nn ?_
  -- STOPB
  refine r_cutG (ι := RS × Ex × List Value × Ghost) (fun p => [(0, ptr b 0), (3, ptr b3 0), (4, ptr b2 0)]) (fun p => p.2.2.2)
   (fun p => [.blk b3 73 (biCells (posOf l i) rr nn hsg (tyCells t (.slice ta tm tc)) p.2.2.1), .blk b2 73 (biCells 0 false [] false noTc noEc), rdP b (.slice la l.length lc) p.1])
   (fun p => Ghost.le g2' p.2.2.2 ∧ ExV p.2.2.2 (.agg p.2.2.1.toArray) p.2.1 ∧ SemS l i (bindR l i) ⟨posOf l i, rr, nn, hsg, t, p.2.1⟩ p.1) ?_ ?_
  ·rintro ⟨s, e, ec, g3⟩ ⟨m1, m2, m3⟩
   simp only at m1 m2 m3
   obtain ⟨a1, x1, c1, a2, x2, c2, a3, x3, c3, hec, _⟩ := m2.form
   have hec' : ec = [.int .i64 e.kind, .int .i64 e.pos, str e.name, .int .i64 e.num, .slice a1 x1 c1, .slice a2 x2 c2, .int .i64 e.ty.kind, str e.ty.name, .int .i64 e.ty.id, .int .i64 e.ty.home, .slice a3 x3 c3] := by simpa using hec
   subst hec'
   have hs3 := hs2.mono m1
   have hok3 : s.ok l := by
    cases s with
    | good j => exact m3.1
    | bad j p => exact m3.1
   have hfin := m3.fin hkw
   obtain ⟨cs', hcs', hex⟩ := m2
   have hcs2 : [.int .i64 e.kind, .int .i64 e.pos, str e.name, .int .i64 e.num, .slice a1 x1 c1, .slice a2 x2 c2, .int .i64 e.ty.kind, str e.ty.name, .int .i64 e.ty.id, .int .i64 e.ty.home, .slice a3 x3 c3] = cs' := by simpa using hcs'
   subst hcs2
   have hbi : BiV g3 (.agg (biCells (posOf l i) rr nn hsg (tyCells t (.slice ta tm tc)) [.int .i64 e.kind, .int .i64 e.pos, str e.name, .int .i64 e.num, .slice a1 x1 c1, .slice a2 x2 c2, .int .i64 e.ty.kind, str e.ty.name, .int .i64 e.ty.id, .int .i64 e.ty.home, .slice a3 x3 c3]).toArray) ⟨posOf l i, rr, nn, hsg, t, e⟩ := ⟨_, rfl, _, _, rfl, k3.mono m1, hex⟩
   show Run E _ [(0, ptr b 0), (3, ptr b3 0), (4, ptr b2 0)] g3 [.blk b3 73 (biCells (posOf l i) rr nn hsg (tyCells t (.slice ta tm tc)) [.int .i64 e.kind, .int .i64 e.pos, str e.name, .int .i64 e.num, .slice a1 x1 c1, .slice a2 x2 c2, .int .i64 e.ty.kind, str e.ty.name, .int .i64 e.ty.id, .int .i64 e.ty.home, .slice a3 x3 c3]), .blk b2 73 (biCells 0 false [] false noTc noEc), rdP b (.slice la l.length lc) s] _
   refine r_sr <| r_ev rfl rfl ?_
   refine r_callL 2 rfl rfl rfl (pwant_spec g3 l hb hkw (.slice la l.length lc) hs3 b s (w := [59]) (by decide)) ?_
   rintro v g3' r' ⟨rfl, rfl⟩ _
   refine r_nn <| r_sr <| r_loadB 0 rfl rfl rfl (by rfl) ?_; refine r_storeA 1 rfl rfl rfl rfl (by rfl) (by repeat' (first | exact rfl | assumption | refine all_cons ?_ ?_)) rfl ?_; refine r_nn <| r_retc ?_
   exact r_retA [_] rfl (res_blk 1 rfl rfl (by rfl)) (.cons _ (.cons _ (List.Sublist.refl _))) ⟨_, rfl, postB_fin (mk := rdP b (.slice la l.length lc)) hfin hbi⟩
  ·intro K hK
   cases s5 with
   | bad j p =>
    refine r_sr <| r_ev rfl rfl ?_
    refine r_callO 2 rfl rfl rfl (pok_spec g2' (.slice la l.length lc) b (.bad j p)) ?_
    refine r_nn <| r_cond_false rfl <| r_skip <| r_then_normal ?_
    exact hK (.bad j p, noE, noEc, g2') _ ⟨Ghost.le_refl _, ⟨_, rfl, noE_at g2'⟩, h5⟩ ⟨rfl, rfl, rfl, trivial⟩
   | good k =>
    obtain ⟨h1, h2, h3⟩ := h5
    have hprog := fun e m h => eread_le (l := l) (q := .expr) (i := k) (e := e) (j := m) h
    have hbnd := fun e m h => eread_bnd l _ .expr k e m (Nat.lt_succ_self _) h1 h
    refine r_sr <| r_ev rfl rfl ?_
    refine r_callO 2 rfl rfl rfl (pok_spec g2' (.slice la l.length lc) b (.good k)) ?_
    refine r_nn <| r_cond_true rfl ?_
    refine r_cutG (ι := Ghost × List Value × Nat × Nat) (fun p => [(0, ptr b 0), (3, ptr b3 0), (4, ptr b2 0), (8, ptr p.2.2.1 0), (9, .int .i64 (eansI (eread l .expr k))), (10, ptr p.2.2.2 0)]) (fun p => p.1)
     (fun p => [.blk p.2.2.2 32 [.int .i64 (eansE (eread l .expr k)), .int .i64 (eansP (eread l .expr k))], .blk p.2.2.1 51 p.2.1, .blk b3 73 (biCells (posOf l i) rr nn hsg (tyCells t (.slice ta tm tc)) noEc), .blk b2 73 (biCells 0 false [] false noTc noEc), rdP b (.slice la l.length lc) (.good k)])
     (fun p => Ghost.le g2' p.1 ∧ ExV p.1 (.agg p.2.1.toArray) (eansT (eread l .expr k))) ?_ ?_
    ·rintro ⟨g3, ec, b8, b10⟩ ⟨n1, n2⟩
     simp only at n1 n2
     have hs3 := hs2.mono n1
     generalize eread l .expr k = q at h3 hprog hbnd n2
     have n3 := n2
     obtain ⟨a1, x1, c1, a2, x2, c2, a3, x3, c3, hec, _⟩ := n2.form
     have hec' : ec = [.int .i64 (eansT q).kind, .int .i64 (eansT q).pos, str (eansT q).name, .int .i64 (eansT q).num, .slice a1 x1 c1, .slice a2 x2 c2, .int .i64 (eansT q).ty.kind, str (eansT q).ty.name, .int .i64 (eansT q).ty.id, .int .i64 (eansT q).ty.home, .slice a3 x3 c3] := by simpa using hec
     subst hec'
     show Run E _ [(0, ptr b 0), (3, ptr b3 0), (4, ptr b2 0), (8, ptr b8 0), (9, .int .i64 (eansI q)), (10, ptr b10 0)] g3 [.blk b10 32 [.int .i64 (eansE q), .int .i64 (eansP q)], .blk b8 51 [.int .i64 (eansT q).kind, .int .i64 (eansT q).pos, str (eansT q).name, .int .i64 (eansT q).num, .slice a1 x1 c1, .slice a2 x2 c2, .int .i64 (eansT q).ty.kind, str (eansT q).ty.name, .int .i64 (eansT q).ty.id, .int .i64 (eansT q).ty.home, .slice a3 x3 c3], .blk b3 73 (biCells (posOf l i) rr nn hsg (tyCells t (.slice ta tm tc)) noEc), .blk b2 73 (biCells 0 false [] false noTc noEc), rdP b (.slice la l.length lc) (.good k)] _
     cases q with
     | error p =>
      refine r_sr <| r_ev rfl rfl <| r_ev rfl rfl <| r_loadB 0 rfl rfl rfl (by rfl) ?_
      refine r_callL 4 rfl rfl rfl (ptake_spec g3 l (.slice la l.length lc) hs3 b (.good k) (.bad 0 p)) ?_
      rintro v g3' r' ⟨rfl, rfl⟩ _
      refine r_nn <| r_region <| r_loadB 1 rfl rfl rfl (by rfl) ?_; refine r_fieldAddr rfl rfl <| r_storeA 2 rfl rfl rfl rfl (by rfl) (by repeat' (first | exact rfl | assumption | refine all_cons ?_ ?_)) rfl ?_; refine r_nn ?_
      refine r_drop (own' := [_, _, _]) (.cons _ (.cons _ (List.Sublist.refl _))) ?_
      exact hK (.bad 0 p, noE, _, g3') _ ⟨n1, n3, Nat.zero_le _, h3⟩ ⟨rfl, rfl, rfl, trivial⟩
     | ok q =>
      obtain ⟨e, m⟩ := q
      have hm1 := hprog e m rfl
      have hm2 := hbnd e m rfl
      refine r_sr <| r_ev rfl rfl <| r_ev rfl rfl <| r_loadB 0 rfl rfl rfl (by rfl) ?_
      refine r_callL 4 rfl rfl rfl (ptake_spec g3 l (.slice la l.length lc) hs3 b (.good k) (.good m)) ?_
      rintro v g3' r' ⟨rfl, rfl⟩ _
      refine r_nn <| r_region <| r_loadB 1 rfl rfl rfl (by rfl) ?_; refine r_fieldAddr rfl rfl <| r_storeA 2 rfl rfl rfl rfl (by rfl) (by repeat' (first | exact rfl | assumption | refine all_cons ?_ ?_)) rfl ?_; refine r_nn ?_
      refine r_drop (own' := [_, _, _]) (.cons _ (.cons _ (List.Sublist.refl _))) ?_
      exact hK (.good m, e, _, g3') _ ⟨n1, n3, hm2, by omega, h3⟩ ⟨rfl, rfl, rfl, trivial⟩
    ·intro K2 hK2
     skip
     refine h_beginE [] mixed (fun hG => ?_)
     refine h_takeXA 0 rfl (by kernel_rfl) rfl hG ?_; refine ⟨_, (val_ev rfl), ?_⟩; refine h_takeXA 1 rfl (by kernel_rfl) rfl hG ?_; refine ⟨_, (val_ev rfl), ?_⟩; refine h_takeXA 2 rfl (by kernel_rfl) rfl hG ?_; refine ⟨_, (val_fieldAddr rfl), ?_⟩; refine h_takeXA 3 rfl (by kernel_rfl) rfl hG ?_; refine ⟨_, (val_loadB1 2 rfl rfl rfl), ?_⟩; refine h_takeXA 4 rfl (by kernel_rfl) rfl hG ?_; refine ⟨_, (val_ev rfl), ?_⟩; refine h_takeXA 5 rfl (by kernel_rfl) rfl hG ?_; refine ⟨_, (val_ev rfl), ?_⟩; refine h_takeXA 6 rfl (by kernel_rfl) rfl hG ?_; refine ⟨_, (val_fieldAddr rfl), ?_⟩; refine h_takeXA 7 rfl (by kernel_rfl) rfl hG ?_; refine ⟨_, (val_loadB1 2 rfl rfl rfl), ?_⟩
     refine h_three 8 13 14 (by kernel_rfl) rfl rfl rfl ?_ ?_ ?_
     ·refine r_callN rfl rfl (eExpr_spec hb hkw g2' hg2 _ (k : Int) hs2) ?_
      rintro w g3 hans hle3
      rw [idx_nat h1] at hans
      obtain ⟨ev, rfl, hev⟩ := hans
      obtain ⟨a1, x1, c1, a2, x2, c2, a3, x3, c3, rfl, he'⟩ := hev.form
      refine r_nn ?_
      refine h_keptA hG ?_
      refine h_takeXA 9 rfl (by kernel_rfl) rfl hG ?_; refine ⟨_, (val_ev rfl), ?_⟩; refine h_takeXA 10 rfl (by kernel_rfl) rfl hG ?_; refine ⟨_, (val_ev rfl), ?_⟩; refine h_takeXA 11 rfl (by kernel_rfl) rfl hG ?_; refine ⟨_, (val_ev rfl), ?_⟩; refine h_takeXA 12 rfl (by kernel_rfl) rfl hG ?_; refine ⟨_, (val_ev rfl), ?_⟩
      refine h_two 13 14 (by kernel_rfl) rfl rfl ?_ ?_
      ·refine r_alloc rfl (fun b8 => ?_)
       refine r_nn ?_
       refine h_keptA hG ?_
       refine h_one 14 (by kernel_rfl) rfl ?_
       refine r_alloc rfl (fun b10 => ?_)
       refine r_nn ?_
       refine h_keptA hG ?_
       refine h_one 15 (by kernel_rfl) rfl ?_
       refine r_storeA 1 rfl rfl rfl rfl (by rfl) (by repeat' (first | exact rfl | assumption | refine all_cons ?_ ?_)) rfl ?_; refine r_nn ?_
       refine h_keptA hG ?_
       refine h_takeXA 16 rfl (by kernel_rfl) rfl hG ?_; refine ⟨_, (val_ev rfl), ?_⟩
       refine h_one 17 (by kernel_rfl) rfl ?_
       refine r_storeA 0 rfl rfl rfl rfl (by rfl) (by repeat' (first | exact rfl | assumption | refine all_cons ?_ ?_)) rfl ?_; refine r_nn ?_
       refine h_keptA hG ?_
       refine h_done (by kernel_rfl) ?_
       refine r_then_normal ?_
       exact hK2 (g3, _, b8, b10) _ ⟨hle3, ⟨_, rfl, he'⟩⟩ ⟨rfl, rfl, rfl, rfl, rfl, rfl, trivial⟩
      ·refine r_alloc rfl (fun b10 => ?_)
       refine r_nn ?_
       refine h_keptA hG ?_
       refine h_one 13 (by kernel_rfl) rfl ?_
       refine r_alloc rfl (fun b8 => ?_)
       refine r_nn ?_
       refine h_keptA hG ?_
       refine h_one 15 (by kernel_rfl) rfl ?_
       refine r_storeA 0 rfl rfl rfl rfl (by rfl) (by repeat' (first | exact rfl | assumption | refine all_cons ?_ ?_)) rfl ?_; refine r_nn ?_
       refine h_keptA hG ?_
       refine h_takeXA 16 rfl (by kernel_rfl) rfl hG ?_; refine ⟨_, (val_ev rfl), ?_⟩
       refine h_one 17 (by kernel_rfl) rfl ?_
       refine r_storeA 1 rfl rfl rfl rfl (by rfl) (by repeat' (first | exact rfl | assumption | refine all_cons ?_ ?_)) rfl ?_; refine r_nn ?_
       refine h_keptA hG ?_
       refine h_done (by kernel_rfl) ?_
       refine r_perm (List.Perm.swap _ _ _) ?_
       refine r_then_normal ?_
       exact hK2 (g3, _, b8, b10) _ ⟨hle3, ⟨_, rfl, he'⟩⟩ ⟨rfl, rfl, rfl, rfl, rfl, rfl, trivial⟩
     ·refine r_alloc rfl (fun b8 => ?_)
      refine r_nn ?_
      refine h_keptA hG ?_
      refine h_two 8 14 (by kernel_rfl) rfl rfl ?_ ?_
      ·refine r_callN rfl rfl (eExpr_spec hb hkw g2' hg2 _ (k : Int) hs2) ?_
       rintro w g3 hans hle3
       rw [idx_nat h1] at hans
       obtain ⟨ev, rfl, hev⟩ := hans
       obtain ⟨a1, x1, c1, a2, x2, c2, a3, x3, c3, rfl, he'⟩ := hev.form
       refine r_nn ?_
       refine h_keptA hG ?_
       refine h_takeXA 9 rfl (by kernel_rfl) rfl hG ?_; refine ⟨_, (val_ev rfl), ?_⟩; refine h_takeXA 10 rfl (by kernel_rfl) rfl hG ?_; refine ⟨_, (val_ev rfl), ?_⟩; refine h_takeXA 11 rfl (by kernel_rfl) rfl hG ?_; refine ⟨_, (val_ev rfl), ?_⟩; refine h_takeXA 12 rfl (by kernel_rfl) rfl hG ?_; refine ⟨_, (val_ev rfl), ?_⟩
       refine h_one 14 (by kernel_rfl) rfl ?_
       refine r_alloc rfl (fun b10 => ?_)
       refine r_nn ?_
       refine h_keptA hG ?_
       refine h_one 15 (by kernel_rfl) rfl ?_
       refine r_storeA 1 rfl rfl rfl rfl (by rfl) (by repeat' (first | exact rfl | assumption | refine all_cons ?_ ?_)) rfl ?_; refine r_nn ?_
       refine h_keptA hG ?_
       refine h_takeXA 16 rfl (by kernel_rfl) rfl hG ?_; refine ⟨_, (val_ev rfl), ?_⟩
       refine h_one 17 (by kernel_rfl) rfl ?_
       refine r_storeA 0 rfl rfl rfl rfl (by rfl) (by repeat' (first | exact rfl | assumption | refine all_cons ?_ ?_)) rfl ?_; refine r_nn ?_
       refine h_keptA hG ?_
       refine h_done (by kernel_rfl) ?_
       refine r_then_normal ?_
       exact hK2 (g3, _, b8, b10) _ ⟨hle3, ⟨_, rfl, he'⟩⟩ ⟨rfl, rfl, rfl, rfl, rfl, rfl, trivial⟩
      ·refine r_alloc rfl (fun b10 => ?_)
       refine r_nn ?_
       refine h_keptA hG ?_
       refine h_one 8 (by kernel_rfl) rfl ?_
       refine r_callN rfl rfl (eExpr_spec hb hkw g2' hg2 _ (k : Int) hs2) ?_
       rintro w g3 hans hle3
       rw [idx_nat h1] at hans
       obtain ⟨ev, rfl, hev⟩ := hans
       obtain ⟨a1, x1, c1, a2, x2, c2, a3, x3, c3, rfl, he'⟩ := hev.form
       refine r_nn ?_
       refine h_keptA hG ?_
       refine h_takeXA 9 rfl (by kernel_rfl) rfl hG ?_; refine ⟨_, (val_ev rfl), ?_⟩; refine h_takeXA 10 rfl (by kernel_rfl) rfl hG ?_; refine ⟨_, (val_ev rfl), ?_⟩; refine h_takeXA 11 rfl (by kernel_rfl) rfl hG ?_; refine ⟨_, (val_ev rfl), ?_⟩; refine h_takeXA 12 rfl (by kernel_rfl) rfl hG ?_; refine ⟨_, (val_ev rfl), ?_⟩
       refine h_one 15 (by kernel_rfl) rfl ?_
       refine r_storeA 1 rfl rfl rfl rfl (by rfl) (by repeat' (first | exact rfl | assumption | refine all_cons ?_ ?_)) rfl ?_; refine r_nn ?_
       refine h_keptA hG ?_
       refine h_takeXA 16 rfl (by kernel_rfl) rfl hG ?_; refine ⟨_, (val_ev rfl), ?_⟩
       refine h_one 17 (by kernel_rfl) rfl ?_
       refine r_storeA 0 rfl rfl rfl rfl (by rfl) (by repeat' (first | exact rfl | assumption | refine all_cons ?_ ?_)) rfl ?_; refine r_nn ?_
       refine h_keptA hG ?_
       refine h_done (by kernel_rfl) ?_
       refine r_then_normal ?_
       exact hK2 (g3, _, b8, b10) _ ⟨hle3, ⟨_, rfl, he'⟩⟩ ⟨rfl, rfl, rfl, rfl, rfl, rfl, trivial⟩
     ·refine r_alloc rfl (fun b10 => ?_)
      refine r_nn ?_
      refine h_keptA hG ?_
      refine h_two 8 13 (by kernel_rfl) rfl rfl ?_ ?_
      ·refine r_callN rfl rfl (eExpr_spec hb hkw g2' hg2 _ (k : Int) hs2) ?_
       rintro w g3 hans hle3
       rw [idx_nat h1] at hans
       obtain ⟨ev, rfl, hev⟩ := hans
       obtain ⟨a1, x1, c1, a2, x2, c2, a3, x3, c3, rfl, he'⟩ := hev.form
       refine r_nn ?_
       refine h_keptA hG ?_
       refine h_takeXA 9 rfl (by kernel_rfl) rfl hG ?_; refine ⟨_, (val_ev rfl), ?_⟩; refine h_takeXA 10 rfl (by kernel_rfl) rfl hG ?_; refine ⟨_, (val_ev rfl), ?_⟩; refine h_takeXA 11 rfl (by kernel_rfl) rfl hG ?_; refine ⟨_, (val_ev rfl), ?_⟩; refine h_takeXA 12 rfl (by kernel_rfl) rfl hG ?_; refine ⟨_, (val_ev rfl), ?_⟩
       refine h_one 13 (by kernel_rfl) rfl ?_
       refine r_alloc rfl (fun b8 => ?_)
       refine r_nn ?_
       refine h_keptA hG ?_
       refine h_one 15 (by kernel_rfl) rfl ?_
       refine r_storeA 0 rfl rfl rfl rfl (by rfl) (by repeat' (first | exact rfl | assumption | refine all_cons ?_ ?_)) rfl ?_; refine r_nn ?_
       refine h_keptA hG ?_
       refine h_takeXA 16 rfl (by kernel_rfl) rfl hG ?_; refine ⟨_, (val_ev rfl), ?_⟩
       refine h_one 17 (by kernel_rfl) rfl ?_
       refine r_storeA 1 rfl rfl rfl rfl (by rfl) (by repeat' (first | exact rfl | assumption | refine all_cons ?_ ?_)) rfl ?_; refine r_nn ?_
       refine h_keptA hG ?_
       refine h_done (by kernel_rfl) ?_
       refine r_perm (List.Perm.swap _ _ _) ?_
       refine r_then_normal ?_
       exact hK2 (g3, _, b8, b10) _ ⟨hle3, ⟨_, rfl, he'⟩⟩ ⟨rfl, rfl, rfl, rfl, rfl, rfl, trivial⟩
      ·refine r_alloc rfl (fun b8 => ?_)
       refine r_nn ?_
       refine h_keptA hG ?_
       refine h_one 8 (by kernel_rfl) rfl ?_
       refine r_callN rfl rfl (eExpr_spec hb hkw g2' hg2 _ (k : Int) hs2) ?_
       rintro w g3 hans hle3
       rw [idx_nat h1] at hans
       obtain ⟨ev, rfl, hev⟩ := hans
       obtain ⟨a1, x1, c1, a2, x2, c2, a3, x3, c3, rfl, he'⟩ := hev.form
       refine r_nn ?_
       refine h_keptA hG ?_
       refine h_takeXA 9 rfl (by kernel_rfl) rfl hG ?_; refine ⟨_, (val_ev rfl), ?_⟩; refine h_takeXA 10 rfl (by kernel_rfl) rfl hG ?_; refine ⟨_, (val_ev rfl), ?_⟩; refine h_takeXA 11 rfl (by kernel_rfl) rfl hG ?_; refine ⟨_, (val_ev rfl), ?_⟩; refine h_takeXA 12 rfl (by kernel_rfl) rfl hG ?_; refine ⟨_, (val_ev rfl), ?_⟩
       refine h_one 15 (by kernel_rfl) rfl ?_
       refine r_storeA 0 rfl rfl rfl rfl (by rfl) (by repeat' (first | exact rfl | assumption | refine all_cons ?_ ?_)) rfl ?_; refine r_nn ?_
       refine h_keptA hG ?_
       refine h_takeXA 16 rfl (by kernel_rfl) rfl hG ?_; refine ⟨_, (val_ev rfl), ?_⟩
       refine h_one 17 (by kernel_rfl) rfl ?_
       refine r_storeA 1 rfl rfl rfl rfl (by rfl) (by repeat' (first | exact rfl | assumption | refine all_cons ?_ ?_)) rfl ?_; refine r_nn ?_
       refine h_keptA hG ?_
       refine h_done (by kernel_rfl) ?_
       refine r_perm (List.Perm.swap _ _ _) ?_
       refine r_then_normal ?_
       exact hK2 (g3, _, b8, b10) _ ⟨hle3, ⟨_, rfl, he'⟩⟩ ⟨rfl, rfl, rfl, rfl, rfl, rfl, trivial⟩
 ·intro K hK
  refine r_sr <| r_ev rfl rfl ?_
  refine r_callL 2 rfl rfl rfl (pmark_spec g0 l hb hkw (.slice la l.length lc) hs b s3 (w := [58]) (by decide)) ?_
  rintro v g1 r' ⟨rfl, rfl, rfl⟩ _
  cases s3 with
  | bad j p =>
   refine r_nn <| r_cond_false rfl <| r_skip <| r_then_normal ?_
   exact hK (.bad j p, false, noT, .slice none 0 0, g1) _ ⟨Ghost.le_refl _, ⟨_, _, _, rfl⟩, noT_at g1, hh⟩ ⟨rfl, rfl, rfl, trivial⟩
  | good k =>
   obtain ⟨h1, h2, h3⟩ := hh
   have hp : isAt l k [58] = markAt l k [58] := isAt_mark hkw (by decide) k
   unfold tailR at h3
   rw [show RS.isIs l [58] (.good k) = markAt l k [58] from hp]
   cases hw : markAt l k [58] with
   | false =>
    rw [(skip_no (hp.trans hw)).1]
    rw [hw, if_neg (by decide)] at h3
    refine r_nn <| r_cond_false rfl <| r_skip <| r_then_normal ?_
    exact hK (.good k, false, noT, .slice none 0 0, g1) _ ⟨Ghost.le_refl _, ⟨_, _, _, rfl⟩, noT_at g1, h1, h2, h3⟩ ⟨rfl, rfl, rfl, trivial⟩
   | true =>
    have hlt := tokAt_lt hw
    rw [(skip_yes (hp.trans hw)).1]
    rw [hw, if_pos rfl] at h3
    have hprog := fun t k' h => tread_prog l _ .whole (k + 1) (t, k') (Nat.lt_succ_self _) h
    have hbnd := fun t k' h => tread_end l .whole (k + 1) t k' hlt h
    refine r_nn <| r_cond_true rfl ?_
    refine r_cutG (ι := Ghost × Value × Nat × Nat) (fun p => [(0, ptr b 0), (3, ptr b3 0), (4, ptr b2 0), (5, ptr p.2.2.1 0), (6, .int .i64 (ansI (tread l .whole (k + 1)))), (7, ptr p.2.2.2 0)]) (fun p => p.1)
     (fun p => [.blk p.2.2.2 32 [.int .i64 (ansE (tread l .whole (k + 1))), .int .i64 (ansP (tread l .whole (k + 1)))], .blk p.2.2.1 49 (tyCells (ansT (tread l .whole (k + 1))) p.2.1), .blk b3 73 (biCells (posOf l i) rr nn false noTc noEc), .blk b2 73 (biCells 0 false [] false noTc noEc), rdP b (.slice la l.length lc) (.good (k + 1))])
     (fun p => Ghost.le g1 p.1 ∧ (∃ a m c, p.2.1 = .slice a m c) ∧ TyAt p.1 (ansT (tread l .whole (k + 1))) (tyCells (ansT (tread l .whole (k + 1))) p.2.1)) ?_ ?_
    ·rintro ⟨g2, sv, b5, b7⟩ ⟨n1, ⟨ta, tm, tc, n2⟩, n3⟩
     simp only at n1 n2 n3
     subst n2
     have hs2 := hs.mono n1
     generalize tread l .whole (k + 1) = q at h3 hprog hbnd n3
     show Run E _ [(0, ptr b 0), (3, ptr b3 0), (4, ptr b2 0), (5, ptr b5 0), (6, .int .i64 (ansI q)), (7, ptr b7 0)] g2 [.blk b7 32 [.int .i64 (ansE q), .int .i64 (ansP q)], .blk b5 49 (tyCells (ansT q) (.slice ta tm tc)), .blk b3 73 (biCells (posOf l i) rr nn false noTc noEc), .blk b2 73 (biCells 0 false [] false noTc noEc), rdP b (.slice la l.length lc) (.good (k + 1))] _
     cases q with
     | error p =>
      refine r_sr <| r_ev rfl rfl <| r_ev rfl rfl <| r_loadB 0 rfl rfl rfl (by rfl) ?_
      refine r_callL 4 rfl rfl rfl (ptake_spec g2 l (.slice la l.length lc) hs2 b (.good (k + 1)) (.bad 0 p)) ?_
      rintro v g2' r' ⟨rfl, rfl⟩ _
      refine r_nn ?_
      skip
      refine h_beginE [2] mixed (fun hG => ?_)
      refine h_takeXA 0 rfl (by kernel_rfl) rfl hG ?_; refine ⟨_, (val_loadB 1 rfl rfl (by rfl)), ?_⟩; refine h_takeXA 1 rfl (by kernel_rfl) rfl hG ?_; refine ⟨_, (val_fieldAddr rfl), ?_⟩
      refine h_one 2 (by kernel_rfl) rfl ?_
      refine r_store1 2 rfl rfl rfl rfl rfl rfl <| r_nn ?_
      refine h_keptA hG ?_
      refine h_takeXA 3 rfl (by kernel_rfl) rfl hG ?_; refine ⟨_, (val_fieldAddr rfl), ?_⟩
      refine h_one 4 (by kernel_rfl) rfl ?_
      refine r_storeA 2 rfl rfl rfl rfl (by rfl) (by repeat' (first | exact rfl | assumption | refine all_cons ?_ ?_)) rfl ?_; refine r_nn ?_
      refine h_keptA hG ?_
      refine h_done (by kernel_rfl) ?_
      refine r_drop (own' := [_, _, _]) (.cons _ (.cons _ (List.Sublist.refl _))) ?_
      refine r_then_normal ?_
      exact hK (.bad 0 p, true, noT, .slice ta tm tc, g2') _ ⟨n1, ⟨_, _, _, rfl⟩, n3, Nat.zero_le _, h3⟩ ⟨rfl, rfl, rfl, trivial⟩
     | ok q =>
      obtain ⟨t, k'⟩ := q
      have hk1 := hprog t k' rfl
      have hk2 := hbnd t k' rfl
      simp only at hk1
      refine r_sr <| r_ev rfl rfl <| r_ev rfl rfl <| r_loadB 0 rfl rfl rfl (by rfl) ?_
      refine r_callL 4 rfl rfl rfl (ptake_spec g2 l (.slice la l.length lc) hs2 b (.good (k + 1)) (.good k')) ?_
      rintro v g2' r' ⟨rfl, rfl⟩ _
      refine r_nn ?_
      skip
      refine h_beginE [2] mixed (fun hG => ?_)
      refine h_takeXA 0 rfl (by kernel_rfl) rfl hG ?_; refine ⟨_, (val_loadB 1 rfl rfl (by rfl)), ?_⟩; refine h_takeXA 1 rfl (by kernel_rfl) rfl hG ?_; refine ⟨_, (val_fieldAddr rfl), ?_⟩
      refine h_one 2 (by kernel_rfl) rfl ?_
      refine r_store1 2 rfl rfl rfl rfl rfl rfl <| r_nn ?_
      refine h_keptA hG ?_
      refine h_takeXA 3 rfl (by kernel_rfl) rfl hG ?_; refine ⟨_, (val_fieldAddr rfl), ?_⟩
      refine h_one 4 (by kernel_rfl) rfl ?_
      refine r_storeA 2 rfl rfl rfl rfl (by rfl) (by repeat' (first | exact rfl | assumption | refine all_cons ?_ ?_)) rfl ?_; refine r_nn ?_
      refine h_keptA hG ?_
      refine h_done (by kernel_rfl) ?_
      refine r_drop (own' := [_, _, _]) (.cons _ (.cons _ (List.Sublist.refl _))) ?_
      refine r_then_normal ?_
      exact hK (.good k', true, t, .slice ta tm tc, g2') _ ⟨n1, ⟨_, _, _, rfl⟩, n3, hk2, by omega, h3⟩ ⟨rfl, rfl, rfl, trivial⟩
    ·intro K2 hK2
     skip
     refine h_beginE [] mixed (fun hG => ?_)
     refine h_takeXA 0 rfl (by kernel_rfl) rfl hG ?_; refine ⟨_, (val_ev rfl), ?_⟩; refine h_takeXA 1 rfl (by kernel_rfl) rfl hG ?_; refine ⟨_, (val_ev rfl), ?_⟩; refine h_takeXA 2 rfl (by kernel_rfl) rfl hG ?_; refine ⟨_, (val_fieldAddr rfl), ?_⟩; refine h_takeXA 3 rfl (by kernel_rfl) rfl hG ?_; refine ⟨_, (val_loadB1 2 rfl rfl rfl), ?_⟩; refine h_takeXA 4 rfl (by kernel_rfl) rfl hG ?_; refine ⟨_, (val_ev rfl), ?_⟩; refine h_takeXA 5 rfl (by kernel_rfl) rfl hG ?_; refine ⟨_, (val_ev rfl), ?_⟩; refine h_takeXA 6 rfl (by kernel_rfl) rfl hG ?_; refine ⟨_, (val_fieldAddr rfl), ?_⟩; refine h_takeXA 7 rfl (by kernel_rfl) rfl hG ?_; refine ⟨_, (val_loadB1 2 rfl rfl rfl), ?_⟩
     refine h_three 8 13 14 (by kernel_rfl) rfl rfl rfl ?_ ?_ ?_
     ·refine r_callN rfl rfl (rType_spec hb g1 hg _ ((k + 1 : Nat) : Int) hs) ?_
      rintro w g2 hans hle2
      rw [idx_nat (show k + 1 ≤ l.length by omega)] at hans
      obtain ⟨tv, rfl, hty⟩ := hans
      obtain ⟨ta, tm, tc, rfl, ht⟩ := hty.cells5
      refine r_nn ?_
      refine h_keptA hG ?_
      refine h_takeXA 9 rfl (by kernel_rfl) rfl hG ?_; refine ⟨_, (val_ev rfl), ?_⟩; refine h_takeXA 10 rfl (by kernel_rfl) rfl hG ?_; refine ⟨_, (val_ev rfl), ?_⟩; refine h_takeXA 11 rfl (by kernel_rfl) rfl hG ?_; refine ⟨_, (val_ev rfl), ?_⟩; refine h_takeXA 12 rfl (by kernel_rfl) rfl hG ?_; refine ⟨_, (val_ev rfl), ?_⟩
      refine h_two 13 14 (by kernel_rfl) rfl rfl ?_ ?_
      ·refine r_alloc rfl (fun b5 => ?_)
       refine r_nn ?_
       refine h_keptA hG ?_
       refine h_one 14 (by kernel_rfl) rfl ?_
       refine r_alloc rfl (fun b7 => ?_)
       refine r_nn ?_
       refine h_keptA hG ?_
       refine h_one 15 (by kernel_rfl) rfl ?_
       refine r_storeA 1 rfl rfl rfl rfl (by rfl) (by repeat' (first | exact rfl | assumption | refine all_cons ?_ ?_)) rfl ?_; refine r_nn ?_
       refine h_keptA hG ?_
       refine h_takeXA 16 rfl (by kernel_rfl) rfl hG ?_; refine ⟨_, (val_ev rfl), ?_⟩
       refine h_one 17 (by kernel_rfl) rfl ?_
       refine r_storeA 0 rfl rfl rfl rfl (by rfl) (by repeat' (first | exact rfl | assumption | refine all_cons ?_ ?_)) rfl ?_; refine r_nn ?_
       refine h_keptA hG ?_
       refine h_done (by kernel_rfl) ?_
       refine r_then_normal ?_
       exact hK2 (g2, .slice ta tm tc, b5, b7) _ ⟨hle2, ⟨_, _, _, rfl⟩, ht⟩ ⟨rfl, rfl, rfl, rfl, rfl, rfl, trivial⟩
      ·refine r_alloc rfl (fun b7 => ?_)
       refine r_nn ?_
       refine h_keptA hG ?_
       refine h_one 13 (by kernel_rfl) rfl ?_
       refine r_alloc rfl (fun b5 => ?_)
       refine r_nn ?_
       refine h_keptA hG ?_
       refine h_one 15 (by kernel_rfl) rfl ?_
       refine r_storeA 0 rfl rfl rfl rfl (by rfl) (by repeat' (first | exact rfl | assumption | refine all_cons ?_ ?_)) rfl ?_; refine r_nn ?_
       refine h_keptA hG ?_
       refine h_takeXA 16 rfl (by kernel_rfl) rfl hG ?_; refine ⟨_, (val_ev rfl), ?_⟩
       refine h_one 17 (by kernel_rfl) rfl ?_
       refine r_storeA 1 rfl rfl rfl rfl (by rfl) (by repeat' (first | exact rfl | assumption | refine all_cons ?_ ?_)) rfl ?_; refine r_nn ?_
       refine h_keptA hG ?_
       refine h_done (by kernel_rfl) ?_
       refine r_perm (List.Perm.swap _ _ _) ?_
       refine r_then_normal ?_
       exact hK2 (g2, .slice ta tm tc, b5, b7) _ ⟨hle2, ⟨_, _, _, rfl⟩, ht⟩ ⟨rfl, rfl, rfl, rfl, rfl, rfl, trivial⟩
     ·refine r_alloc rfl (fun b5 => ?_)
      refine r_nn ?_
      refine h_keptA hG ?_
      refine h_two 8 14 (by kernel_rfl) rfl rfl ?_ ?_
      ·refine r_callN rfl rfl (rType_spec hb g1 hg _ ((k + 1 : Nat) : Int) hs) ?_
       rintro w g2 hans hle2
       rw [idx_nat (show k + 1 ≤ l.length by omega)] at hans
       obtain ⟨tv, rfl, hty⟩ := hans
       obtain ⟨ta, tm, tc, rfl, ht⟩ := hty.cells5
       refine r_nn ?_
       refine h_keptA hG ?_
       refine h_takeXA 9 rfl (by kernel_rfl) rfl hG ?_; refine ⟨_, (val_ev rfl), ?_⟩; refine h_takeXA 10 rfl (by kernel_rfl) rfl hG ?_; refine ⟨_, (val_ev rfl), ?_⟩; refine h_takeXA 11 rfl (by kernel_rfl) rfl hG ?_; refine ⟨_, (val_ev rfl), ?_⟩; refine h_takeXA 12 rfl (by kernel_rfl) rfl hG ?_; refine ⟨_, (val_ev rfl), ?_⟩
       refine h_one 14 (by kernel_rfl) rfl ?_
       refine r_alloc rfl (fun b7 => ?_)
       refine r_nn ?_
       refine h_keptA hG ?_
       refine h_one 15 (by kernel_rfl) rfl ?_
       refine r_storeA 1 rfl rfl rfl rfl (by rfl) (by repeat' (first | exact rfl | assumption | refine all_cons ?_ ?_)) rfl ?_; refine r_nn ?_
       refine h_keptA hG ?_
       refine h_takeXA 16 rfl (by kernel_rfl) rfl hG ?_; refine ⟨_, (val_ev rfl), ?_⟩
       refine h_one 17 (by kernel_rfl) rfl ?_
       refine r_storeA 0 rfl rfl rfl rfl (by rfl) (by repeat' (first | exact rfl | assumption | refine all_cons ?_ ?_)) rfl ?_; refine r_nn ?_
       refine h_keptA hG ?_
       refine h_done (by kernel_rfl) ?_
       refine r_then_normal ?_
       exact hK2 (g2, .slice ta tm tc, b5, b7) _ ⟨hle2, ⟨_, _, _, rfl⟩, ht⟩ ⟨rfl, rfl, rfl, rfl, rfl, rfl, trivial⟩
      ·refine r_alloc rfl (fun b7 => ?_)
       refine r_nn ?_
       refine h_keptA hG ?_
       refine h_one 8 (by kernel_rfl) rfl ?_
       refine r_callN rfl rfl (rType_spec hb g1 hg _ ((k + 1 : Nat) : Int) hs) ?_
       rintro w g2 hans hle2
       rw [idx_nat (show k + 1 ≤ l.length by omega)] at hans
       obtain ⟨tv, rfl, hty⟩ := hans
       obtain ⟨ta, tm, tc, rfl, ht⟩ := hty.cells5
       refine r_nn ?_
       refine h_keptA hG ?_
       refine h_takeXA 9 rfl (by kernel_rfl) rfl hG ?_; refine ⟨_, (val_ev rfl), ?_⟩; refine h_takeXA 10 rfl (by kernel_rfl) rfl hG ?_; refine ⟨_, (val_ev rfl), ?_⟩; refine h_takeXA 11 rfl (by kernel_rfl) rfl hG ?_; refine ⟨_, (val_ev rfl), ?_⟩; refine h_takeXA 12 rfl (by kernel_rfl) rfl hG ?_; refine ⟨_, (val_ev rfl), ?_⟩
       refine h_one 15 (by kernel_rfl) rfl ?_
       refine r_storeA 1 rfl rfl rfl rfl (by rfl) (by repeat' (first | exact rfl | assumption | refine all_cons ?_ ?_)) rfl ?_; refine r_nn ?_
       refine h_keptA hG ?_
       refine h_takeXA 16 rfl (by kernel_rfl) rfl hG ?_; refine ⟨_, (val_ev rfl), ?_⟩
       refine h_one 17 (by kernel_rfl) rfl ?_
       refine r_storeA 0 rfl rfl rfl rfl (by rfl) (by repeat' (first | exact rfl | assumption | refine all_cons ?_ ?_)) rfl ?_; refine r_nn ?_
       refine h_keptA hG ?_
       refine h_done (by kernel_rfl) ?_
       refine r_then_normal ?_
       exact hK2 (g2, .slice ta tm tc, b5, b7) _ ⟨hle2, ⟨_, _, _, rfl⟩, ht⟩ ⟨rfl, rfl, rfl, rfl, rfl, rfl, trivial⟩
     ·refine r_alloc rfl (fun b7 => ?_)
      refine r_nn ?_
      refine h_keptA hG ?_
      refine h_two 8 13 (by kernel_rfl) rfl rfl ?_ ?_
      ·refine r_callN rfl rfl (rType_spec hb g1 hg _ ((k + 1 : Nat) : Int) hs) ?_
       rintro w g2 hans hle2
       rw [idx_nat (show k + 1 ≤ l.length by omega)] at hans
       obtain ⟨tv, rfl, hty⟩ := hans
       obtain ⟨ta, tm, tc, rfl, ht⟩ := hty.cells5
       refine r_nn ?_
       refine h_keptA hG ?_
       refine h_takeXA 9 rfl (by kernel_rfl) rfl hG ?_; refine ⟨_, (val_ev rfl), ?_⟩; refine h_takeXA 10 rfl (by kernel_rfl) rfl hG ?_; refine ⟨_, (val_ev rfl), ?_⟩; refine h_takeXA 11 rfl (by kernel_rfl) rfl hG ?_; refine ⟨_, (val_ev rfl), ?_⟩; refine h_takeXA 12 rfl (by kernel_rfl) rfl hG ?_; refine ⟨_, (val_ev rfl), ?_⟩
       refine h_one 13 (by kernel_rfl) rfl ?_
       refine r_alloc rfl (fun b5 => ?_)
       refine r_nn ?_
       refine h_keptA hG ?_
       refine h_one 15 (by kernel_rfl) rfl ?_
       refine r_storeA 0 rfl rfl rfl rfl (by rfl) (by repeat' (first | exact rfl | assumption | refine all_cons ?_ ?_)) rfl ?_; refine r_nn ?_
       refine h_keptA hG ?_
       refine h_takeXA 16 rfl (by kernel_rfl) rfl hG ?_; refine ⟨_, (val_ev rfl), ?_⟩
       refine h_one 17 (by kernel_rfl) rfl ?_
       refine r_storeA 1 rfl rfl rfl rfl (by rfl) (by repeat' (first | exact rfl | assumption | refine all_cons ?_ ?_)) rfl ?_; refine r_nn ?_
       refine h_keptA hG ?_
       refine h_done (by kernel_rfl) ?_
       refine r_perm (List.Perm.swap _ _ _) ?_
       refine r_then_normal ?_
       exact hK2 (g2, .slice ta tm tc, b5, b7) _ ⟨hle2, ⟨_, _, _, rfl⟩, ht⟩ ⟨rfl, rfl, rfl, rfl, rfl, rfl, trivial⟩
      ·refine r_alloc rfl (fun b5 => ?_)
       refine r_nn ?_
       refine h_keptA hG ?_
       refine h_one 8 (by kernel_rfl) rfl ?_
       refine r_callN rfl rfl (rType_spec hb g1 hg _ ((k + 1 : Nat) : Int) hs) ?_
       rintro w g2 hans hle2
       rw [idx_nat (show k + 1 ≤ l.length by omega)] at hans
       obtain ⟨tv, rfl, hty⟩ := hans
       obtain ⟨ta, tm, tc, rfl, ht⟩ := hty.cells5
       refine r_nn ?_
       refine h_keptA hG ?_
       refine h_takeXA 9 rfl (by kernel_rfl) rfl hG ?_; refine ⟨_, (val_ev rfl), ?_⟩; refine h_takeXA 10 rfl (by kernel_rfl) rfl hG ?_; refine ⟨_, (val_ev rfl), ?_⟩; refine h_takeXA 11 rfl (by kernel_rfl) rfl hG ?_; refine ⟨_, (val_ev rfl), ?_⟩; refine h_takeXA 12 rfl (by kernel_rfl) rfl hG ?_; refine ⟨_, (val_ev rfl), ?_⟩
       refine h_one 15 (by kernel_rfl) rfl ?_
       refine r_storeA 0 rfl rfl rfl rfl (by rfl) (by repeat' (first | exact rfl | assumption | refine all_cons ?_ ?_)) rfl ?_; refine r_nn ?_
       refine h_keptA hG ?_
       refine h_takeXA 16 rfl (by kernel_rfl) rfl hG ?_; refine ⟨_, (val_ev rfl), ?_⟩
       refine h_one 17 (by kernel_rfl) rfl ?_
       refine r_storeA 1 rfl rfl rfl rfl (by rfl) (by repeat' (first | exact rfl | assumption | refine all_cons ?_ ?_)) rfl ?_; refine r_nn ?_
       refine h_keptA hG ?_
       refine h_done (by kernel_rfl) ?_
       refine r_perm (List.Perm.swap _ _ _) ?_
       refine r_then_normal ?_
       exact hK2 (g2, .slice ta tm tc, b5, b7) _ ⟨hle2, ⟨_, _, _, rfl⟩, ht⟩ ⟨rfl, rfl, rfl, rfl, rfl, rfl, trivial⟩
end Go.Proofs.YtpjehhnaojjanaaGreatDoor
-- sum 6704e7fdca42c9d1

/- Programs in plain words: what is parsed, and that it is as the walks need it. -/
namespace Go.Proofs.YtpjehhnaojjanaaGreatDoor
open Go Go.Eng Go.Th Go.Proofs
theorem WfE.weak {M M' : Nat} (hM : M ≤ M') {e : Ex} (h : WfE M e) : WfE M' e := by
 induction h with
 | mk e h1 h2 hc ih => exact .mk e h1 (by omega) ih
def okD1 (M : Nat) (d : Da) : Prop := ∀ c ∈ d.cons, ∀ t ∈ c.fields, depthT t ≤ M
def okB1 (M : Nat) (x : Bi) : Prop := (x.hasSig = false → depthT x.sig ≤ 40) ∧ depthT x.sig ≤ M ∧ sizeE x.body ≤ 2 * M + 2 ∧ WfE M x.body
theorem args_depth {l : List Tok} {n : Bytes} {i : Nat} {t : Ty} {j : Nat} (hj : j ≤ l.length) (h : tread l (.args n []) i = .ok (t, j)) : ∀ a ∈ t.args, depthT a ≤ l.length := by
 intro a ha
 have h1 := tread_depth l _ (.args n []) i t j (Nat.lt_succ_self _) h
 simp only [depthTs] at h1
 rw [depthT_eq] at h1
 have h2 := depthTs_mem ha
 omega
theorem cons_ok {l : List Tok} : ∀ (f : Nat) (acc : List Cn) (j : Nat) (x : List Cn × Nat), (∀ c ∈ acc, ∀ t ∈ c.fields, depthT t ≤ l.length) → consGo l f acc j = .ok x → ∀ c ∈ x.1, ∀ t ∈ c.fields, depthT t ≤ l.length
 | 0, _, _, _, _, h => by cases h
 | f + 1, acc, j, x, ha, h => by
  simp only [consGo] at h
  split at h
  ·cases h
  ·rename_i c hc
   split at h
   ·cases h
   ·rename_i t k hq
    have hj : j + 1 ≤ l.length := by
     unfold nameAt at hc
     split at hc
     ·rename_i ht; exact (List.getElem?_eq_some_iff.1 ht).1
     ·cases hc
    have hk := tread_end l _ _ _ _ hj hq
    have hd := args_depth hk hq
    have ha' : ∀ c' ∈ acc ++ [⟨posOf l j, c, t.args⟩], ∀ t ∈ c'.fields, depthT t ≤ l.length := fun c' hc' => by
     rcases List.mem_append.1 hc' with h | h
     ·exact ha c' h
     ·rw [List.mem_singleton.1 h]; exact hd
    split at h
    ·exact cons_ok f _ _ x ha' h
    ·split at h
     ·cases h; exact ha'
     ·cases h
theorem decl_ok {l : List Tok} {i : Nat} {d : Da} {j : Nat} (h : declR l i = .ok (d, j)) : okD1 l.length d := by
 unfold declR at h
 split at h
 ·split at h
  ·cases h
  ·split at h
   ·split at h
    ·cases h
    ·rename_i cs k hq
     have := cons_ok _ [] _ _ (fun c hc => by cases hc) hq
     cases h
     exact this
   ·cases h
 ·cases h
theorem body_ok {l : List Tok} {pos : Int} {r : Bool} {n : Bytes} {hs : Bool} {t : Ty} {k : Nat} {x : Bi} {j : Nat} (h1 : hs = false → depthT t ≤ 40) (h2 : depthT t ≤ l.length) (h : bodyR l (fun e => ⟨pos, r, n, hs, t, e⟩) k = .ok (x, j)) : okB1 l.length x := by
 unfold bodyR at h
 split at h
 ·rename_i hm
  have hk := tokAt_lt hm
  split at h
  ·cases h
  ·rename_i e m hq
   split at h
   ·rename_i hm2
    have := tokAt_lt hm2
    have h3 := eread_size l _ .expr (k + 1) e m (Nat.lt_succ_self _) hq
    have h4 := expr_wf hq
    simp only at h3
    cases h
    exact ⟨h1, h2, by simp only; omega, h4⟩
   ·cases h
 ·cases h
theorem bind_ok {l : List Tok} {i : Nat} {x : Bi} {j : Nat} (h : bindR l i = .ok (x, j)) : okB1 l.length x := by
 have sig : ∀ (r : Bool) (k : Nat), sigR l (posOf l i) r k = .ok (x, j) → okB1 l.length x := by
  intro r k h
  unfold sigR at h
  split at h
  ·cases h
  ·split at h
   ·rename_i hm
    have hk := tokAt_lt hm
    split at h
    ·cases h
    ·rename_i t k' hq
     have h3 := tread_deep (fun n acc => by simp) hq
     have h4 := tread_end l _ _ _ _ hk hq
     exact body_ok (fun h => by cases h) (by omega) h
   ·exact body_ok (fun _ => by rw [depth_noT]; omega) (by rw [depth_noT]; omega) h
 unfold bindR at h
 split at h
 ·split at h
  ·exact sig _ _ h
  ·exact sig _ _ h
 ·cases h
theorem prog_ok {l : List Tok} : ∀ (f : Nat) (p : Pg) (i : Nat) (P : Pg), (∀ d ∈ p.datas, okD1 l.length d) → (∀ x ∈ p.binds, okB1 l.length x) → progGo l f p i = .ok P → (∀ d ∈ P.datas, okD1 l.length d) ∧ (∀ x ∈ P.binds, okB1 l.length x)
 | 0, p, _, P, h1, h2, h => by cases h; exact ⟨h1, h2⟩
 | f + 1, p, i, P, h1, h2, h => by
  simp only [progGo] at h
  split at h
  ·split at h
   ·split at h
    ·cases h
    ·rename_i d j hq
     have hd := decl_ok hq
     exact prog_ok f ⟨p.datas ++ [d], p.binds⟩ _ P (fun d' hd' => by
      rcases List.mem_append.1 hd' with h | h
      ·exact h1 d' h
      ·rw [List.mem_singleton.1 h]; exact hd) h2 h
   ·split at h
    ·cases h
    ·rename_i d j hq
     have hd := bind_ok hq
     exact prog_ok f ⟨p.datas, p.binds ++ [d]⟩ _ P h1 (fun d' hd' => by
      rcases List.mem_append.1 hd' with h | h
      ·exact h2 d' h
      ·rw [List.mem_singleton.1 h]; exact hd) h
  ·cases h; exact ⟨h1, h2⟩
theorem progR_wf {l : List Tok} (hb : l.length ≤ 4000) {P : Pg} (h : progR l ⟨[], []⟩ 0 = .ok P) : WfP P := by
 obtain ⟨h1, h2⟩ := prog_ok _ _ _ P (fun d h => by cases h) (fun d h => by cases h) h
 exact ⟨fun d hd c hc t ht => by have := h1 d hd c hc t ht; omega, fun b hb' => by
  obtain ⟨a1, a2, a3, a4⟩ := h2 b hb'
  exact ⟨a1, by omega, by omega, WfE.weak (by omega) a4⟩⟩
def parseR (s : Bytes) : Except (Int × Int) Pg := match scan s with
 | .bad e p => .error (e, p)
 | .ok l => match progR l ⟨[], []⟩ 0 with
  | .error p => .error (3, p)
  | .ok P => if (deepR P).1 = 0 then .ok P else .error (deepR P)
def resP : Except (Int × Int) Pg → Pg
 | .ok P => P
 | .error _ => ⟨[], []⟩
def resF {α : Type} : Except (Int × Int) α → Int × Int
 | .ok _ => (0, 0)
 | .error x => x
def postPar (r : Except (Int × Int) Pg) (v : Value) (g' : Ghost) : Prop := ∃ pv, v = .tuple #[pv, fltV (resF r)] ∧ PgV g' pv (resP r)
def ProgS (l : List Tok) (R : Except Int Pg) (p : Pg) : RS → Prop
 | .good i => i ≤ l.length ∧ p.datas.length ≤ i ∧ p.binds.length ≤ i ∧ R = progR l p i
 | .bad j q => j ≤ l.length ∧ R = .error q
theorem ProgS.data {l : List Tok} {R : Except Int Pg} {p : Pg} {i : Nat} (h : ProgS l R p (.good i)) (hd : wordAt l i dataB = true) :
  (∀ q, declR l i = .error q → ∀ j, j ≤ l.length → ∀ p', ProgS l R p' (.bad j q)) ∧ (∀ d j, declR l i = .ok (d, j) → ProgS l R ⟨p.datas ++ [d], p.binds⟩ (.good j)) := by
 obtain ⟨h1, h2, h3, h4⟩ := h
 have hi := tokAt_lt hd
 rw [progR_eq, if_pos hi, if_pos hd] at h4
 constructor
 ·intro q hq j hj p'
  rw [hq] at h4
  exact ⟨hj, h4⟩
 ·intro d j hq
  have := declR_bnd hq
  rw [hq] at h4
  exact ⟨this.2, by simp only [List.length_append, List.length_cons, List.length_nil]; omega, by simp only; omega, h4⟩
theorem ProgS.bind {l : List Tok} {R : Except Int Pg} {p : Pg} {i : Nat} (h : ProgS l R p (.good i)) (hi : i < l.length) (hd : wordAt l i dataB = false) :
  (∀ q, bindR l i = .error q → ∀ j, j ≤ l.length → ∀ p', ProgS l R p' (.bad j q)) ∧ (∀ d j, bindR l i = .ok (d, j) → ProgS l R ⟨p.datas, p.binds ++ [d]⟩ (.good j)) := by
 obtain ⟨h1, h2, h3, h4⟩ := h
 rw [progR_eq, if_pos hi, if_neg (by rw [hd]; decide)] at h4
 constructor
 ·intro q hq j hj p'
  rw [hq] at h4
  exact ⟨hj, h4⟩
 ·intro d j hq
  have := bindR_bnd hq
  rw [hq] at h4
  exact ⟨this.2, by simp only; omega, by simp only [List.length_append, List.length_cons, List.length_nil]; omega, h4⟩
theorem bis_snoc {g : Ghost} {l : List Bi} {xs cs : List Value} {d : Bi} (h : AllAt (BiAt g) l xs) (h1 : BiAt g d cs) : AllAt (BiAt g) (l ++ [d]) (xs ++ cs) := AllAt.snoc h1 h
end Go.Proofs.YtpjehhnaojjanaaGreatDoor
-- sum 47cef83b330f2d71

/- The walk of typedholesref7.Parse at any text. -/
namespace Go.Proofs.YtpjehhnaojjanaaGreatDoor
open Go Go.Eng Go.Th Go.Proofs
set_option maxRecDepth 10000
set_option maxHeartbeats 4000000
attribute [local irreducible] wpList Code.wp Run bodyPost Go.Eng.Ends Exit.then Exit.inBlock Again Wq Kq
end Go.Proofs.YtpjehhnaojjanaaGreatDoor
-- sum 7e450fc47f6442f9

/- What a text is parsed as, as an expression and as a type: plain words, and the walks of typedholesref7.ParseExpr and ParseType. -/
namespace Go.Proofs.YtpjehhnaojjanaaGreatDoor
open Go Go.Eng Go.Th Go.Proofs
set_option maxRecDepth 10000
set_option maxHeartbeats 4000000
attribute [local irreducible] wpList Code.wp Run bodyPost Go.Eng.Ends Exit.then Exit.inBlock Again Wq Kq
def typeO (t : Ty) : Except (Int × Int) Ty := if 40 < depthT t then .error (4, 0) else .ok t
def parseT (s : Bytes) : Except (Int × Int) Ty := match scan s with
 | .bad e p => .error (e, p)
 | .ok l => match tread l .whole 0 with
  | .error p => .error (3, p)
  | .ok (t, j) => if j < l.length then .error (3, failPos l j) else typeO t
def resT : Except (Int × Int) Ty → Ty
 | .ok e => e
 | .error _ => noT
def postTy (r : Except (Int × Int) Ty) (v : Value) (g' : Ghost) : Prop := ∃ pv, v = .tuple #[pv, fltV (resF r)] ∧ TyV g' pv (resT r)
theorem scan_code {s : Bytes} {e p : Int} (h : scan s = .bad e p) : e ≠ 0 := by
 unfold scan at h
 split at h
 ·cases h; decide
 ·split at h
  ·cases h
  ·cases h; decide
end Go.Proofs.YtpjehhnaojjanaaGreatDoor
-- sum 9131a4f362a42231


/- readtype.Atom and what the reference's Type and Atom end with. -/
namespace Go.Proofs.YtpjehhnaojjanaaGreatDoor
open Go Go.Eng Go.Th Go.Proofs
set_option maxRecDepth 10000
set_option maxHeartbeats 4000000
attribute [local irreducible] wpList Code.wp Run bodyPost Go.Eng.Ends Exit.then Exit.inBlock Again Wq Kq
theorem rAtom_spec {l : List Tok} (hb : TB l) (g : Ghost) (hg : ErrT g) (v : Value) (i : Int) (hs : ToksAt g v l) : SpecN Tryz.prog 88 [v, .int .i64 i] g (ansPost (tread l .atom (idxOf l.length i))) := by
 have hi : idxOf l.length i ≤ l.length := by unfold idxOf; split <;> omega
 refine spec_of_run Tryz.func88 rfl Tryz.ntmps88 rfl fun E hE => ?_
 refine r_sr ?_
 refine r_alloc rfl (fun b4 => ?_)
 refine r_ev rfl rfl ?_
 refine r_alloc rfl (fun b6 => ?_)
 refine r_nn <| r_sr <| r_ev rfl rfl <| r_ev rfl rfl <| r_ev rfl rfl ?_
 refine r_callP rfl rfl (index_spec g v l hs i) ?_
 skip
 refine r_callN rfl rfl (atom_spec hb g v _ hs hi) ?_
 rintro w g1 hw hle
 have hg1 := hg.mono hle
 cases hq : tread l .atom (idxOf l.length i) with
 | error p =>
  rw [hq] at hw
  obtain ⟨tv, j, t, rfl, hty, hj⟩ := hw
  unfold failV
  refine r_ev rfl rfl <| r_ev rfl rfl <| r_ev rfl rfl ?_
  refine r_callN rfl rfl (result_err g1 hg1 tv t j p hty) ?_
  rintro w g2 ⟨rfl, rfl⟩ _
  refine r_ev rfl rfl <| r_ev rfl rfl <| r_ev rfl rfl <| r_storeA 1 rfl rfl rfl rfl (by rfl) (by repeat' (first | exact rfl | assumption | refine all_cons ?_ ?_)) rfl ?_; refine r_ev rfl rfl <| r_storeA 0 rfl rfl rfl rfl (by rfl) (by repeat' (first | exact rfl | assumption | refine all_cons ?_ ?_)) rfl ?_; refine r_nn <| r_retc ?_
  exact r_ret3 [] rfl (res_blk 1 rfl rfl (by rfl)) (.tmp rfl) (res_blk 0 rfl rfl (by rfl)) (by simp) ⟨⟨_, rfl, noT_V _⟩, rfl⟩
 | ok q =>
  obtain ⟨t, j⟩ := q
  rw [hq] at hw
  obtain ⟨tv, rfl, hty, hj1, hj2⟩ := hw
  refine r_ev rfl rfl <| r_ev rfl rfl <| r_ev rfl rfl ?_
  refine r_callN rfl rfl (result_ok g1 tv t j hty) ?_
  rintro w g2 ⟨rfl, rfl⟩ _
  obtain ⟨a, m', c, rfl, ht⟩ := hty.cells5
  refine r_ev rfl rfl <| r_ev rfl rfl <| r_ev rfl rfl <| r_storeA 1 rfl rfl rfl rfl (by rfl) (by repeat' (first | exact rfl | assumption | refine all_cons ?_ ?_)) rfl ?_; refine r_ev rfl rfl <| r_storeA 0 rfl rfl rfl rfl (by rfl) (by repeat' (first | exact rfl | assumption | refine all_cons ?_ ?_)) rfl ?_; refine r_nn <| r_retc ?_
  exact r_ret3 [] rfl (res_blk 1 rfl rfl (by rfl)) (.tmp rfl) (res_blk 0 rfl rfl (by rfl)) (by simp) ⟨⟨_, rfl, ⟨_, rfl, ht⟩⟩, rfl⟩
end Go.Proofs.YtpjehhnaojjanaaGreatDoor
-- sum 6e56d7bfcf26bccd


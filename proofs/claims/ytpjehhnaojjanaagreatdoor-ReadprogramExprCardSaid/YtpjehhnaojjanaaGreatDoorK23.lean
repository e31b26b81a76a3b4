/- What a text is parsed as, as an expression and as a type: plain words, and the walks of typedholesref7.ParseExpr and ParseType. -/
import Derived.Test.YtpjehhnaojjanaaGreatDoorK22
import Derived.Test.YtpjehhnaojjanaaGreatDoorK16
namespace Go.Proofs.YtpjehhnaojjanaaGreatDoor
open Go Go.Eng Go.Th Go.Proofs
set_option maxRecDepth 10000
set_option maxHeartbeats 4000000
attribute [local irreducible] wpList Code.wp Run bodyPost Go.Eng.Ends Exit.then Exit.inBlock Again Wq Kq
def exprO (e : Ex) : Except (Int × Int) Ex := if deepEx e = true then .error (4, 0) else match wideE e with
 | some q => .error (5, q)
 | none => .ok e
def parseE (s : Bytes) : Except (Int × Int) Ex := match scan s with
 | .bad e p => .error (e, p)
 | .ok l => match eread l .expr 0 with
  | .error p => .error (3, p)
  | .ok (e, j) => if j < l.length then .error (3, failPos l j) else exprO e
def typeO (t : Ty) : Except (Int × Int) Ty := if 40 < depthT t then .error (4, 0) else .ok t
def parseT (s : Bytes) : Except (Int × Int) Ty := match scan s with
 | .bad e p => .error (e, p)
 | .ok l => match tread l .whole 0 with
  | .error p => .error (3, p)
  | .ok (t, j) => if j < l.length then .error (3, failPos l j) else typeO t
def resE : Except (Int × Int) Ex → Ex
 | .ok e => e
 | .error _ => noE
def resT : Except (Int × Int) Ty → Ty
 | .ok e => e
 | .error _ => noT
def postEx (r : Except (Int × Int) Ex) (v : Value) (g' : Ghost) : Prop := ∃ pv, v = .tuple #[pv, fltV (resF r)] ∧ ExV g' pv (resE r)
def postTy (r : Except (Int × Int) Ty) (v : Value) (g' : Ghost) : Prop := ∃ pv, v = .tuple #[pv, fltV (resF r)] ∧ TyV g' pv (resT r)
theorem scan_code {s : Bytes} {e p : Int} (h : scan s = .bad e p) : e ≠ 0 := by
 unfold scan at h
 split at h
 ·cases h; decide
 ·split at h
  ·cases h
  ·cases h; decide
theorem ParseExpr7_spec (g : Ghost) (s : Bytes) (hs : s.length ≤ 9223372036854775807) : SpecN Tryz.prog 33 [str s] g (postEx (parseE s)) := by
 refine spec_of_run Tryz.func33 rfl Tryz.ntmps33 rfl fun E hE => ?_
 refine r_sr ?_
 refine r_alloc rfl (fun b2 => ?_)
 refine r_alloc rfl (fun b3 => ?_)
 refine r_nn <| r_sr <| r_ev rfl rfl ?_
 refine r_call rfl rfl (refScan_spec g s hs) ?_
 rintro v g0 own' ⟨rfl, hp⟩ _
 cases hsc : scan s with
 | bad e p =>
  rw [hsc] at hp
  obtain ⟨rfl, rfl⟩ := hp
  have hr : parseE s = .error (e, p) := by unfold parseE; rw [hsc]
  have he := scan_code hsc
  rw [hr]
  refine r_ev rfl rfl <| r_ev rfl rfl <| r_ev rfl rfl ?_
  refine r_alloc rfl (fun b5 => ?_)
  refine r_ev rfl rfl <| r_storeA 0 rfl rfl rfl rfl (by rfl) (by repeat' (first | exact rfl | assumption | refine all_cons ?_ ?_)) rfl ?_; refine r_nn <| r_seq <| r_sr <| r_fieldAddr rfl rfl <| r_loadB1 0 rfl rfl rfl rfl <| r_ev rfl rfl <| r_nn ?_
  refine r_cond rfl (fun _ => ?_) (fun h => absurd he h)
  refine r_seq ?_
  refine h_beginE [2, 1] mixed (fun hG => ?_)
  refine h_takeXA 0 rfl (by kernel_rfl) rfl hG ?_; refine ⟨_, (val_build rfl (by rfl)), ?_⟩; refine h_takeXA 1 rfl (by kernel_rfl) rfl hG ?_; refine ⟨_, (val_loadB 0 rfl rfl (by rfl)), ?_⟩
  refine h_one 2 (by kernel_rfl) rfl ?_
  refine r_storeA 2 rfl rfl rfl rfl (by rfl) (by repeat' (first | exact rfl | assumption | refine all_cons ?_ ?_)) rfl ?_; refine r_nn ?_
  refine h_keptA hG ?_
  refine h_one 3 (by kernel_rfl) rfl ?_
  refine r_storeA 1 rfl rfl rfl rfl (by rfl) (by repeat' (first | exact rfl | assumption | refine all_cons ?_ ?_)) rfl ?_; refine r_nn ?_
  refine h_keptA hG ?_
  refine h_done (by kernel_rfl) ?_
  refine r_then_normal <| r_retc <| r_then_ret ?_
  exact r_ret2 [] rfl (res_blk 2 rfl rfl (by rfl)) (res_blk 1 rfl rfl (by rfl)) (by simp) ⟨⟨_, rfl, ⟨_, rfl, noE_at _⟩⟩, rfl⟩
 | ok l =>
  rw [hsc] at hp
  obtain ⟨sv, rfl, rfl⟩ := hp
  have hl : toksOf s = l := by unfold toksOf; rw [hsc]
  have hb : TB l := hl ▸ toksOf_TB7 s
  have hkw : KW l := hl ▸ toksOf_KW7 s
  have hb4 : l.length ≤ 4000 := hl ▸ (toksOf_facts s).1
  have hb1 := hb.1
  have hpar : parseE s = match eread l .expr 0 with
   | .error p => .error (3, p)
   | .ok (e, j) => if j < l.length then .error (3, failPos l j) else exprO e := by unfold parseE; rw [hsc]
  refine r_publishRow (fun g1 hg1 h1 => ?_)
  have hts : ToksAt g1 sv l := h1
  obtain ⟨sa, sc, rfl⟩ := slForm2 h1
  refine r_ev rfl rfl <| r_ev rfl rfl <| r_ev rfl rfl ?_
  refine r_alloc rfl (fun b5 => ?_)
  refine r_ev rfl rfl <| r_storeA 0 rfl rfl rfl rfl (by rfl) (by repeat' (first | exact rfl | assumption | refine all_cons ?_ ?_)) rfl ?_; refine r_nn <| r_seq <| r_sr <| r_fieldAddr rfl rfl <| r_loadB1 0 rfl rfl rfl rfl <| r_ev rfl rfl <| r_nn <| r_cond_false rfl <| r_skip <| r_then_normal <| r_sr <| r_ev rfl rfl ?_
  refine r_call' (lent := []) (kept := _) rfl rfl (List.Perm.refl _) (New5_spec g1 l _ hts 0) ?_
  rintro w g1' own' ⟨rfl, b, rfl, rfl⟩ _
  have hi0 : idxOf l.length 0 = 0 := by unfold idxOf; rw [if_neg (by omega)]; simp
  rw [hi0]
  refine r_ev rfl rfl <| r_nn <| r_sr <| r_ev rfl rfl ?_
  refine r_callL 0 rfl rfl rfl (Read6_spec hb hkw g1' _ b 0 hts (Nat.zero_le _)) ?_
  rintro w g2 r' hw2 hle2
  have hts2 := hts.mono hle2
  cases hq : eread l .expr 0 with
  | error p =>
   rw [hq] at hw2 hpar
   obtain ⟨⟨e, he⟩, j', hj', rfl⟩ := hw2
   rw [hpar]
   obtain ⟨a1, x1, c1, a2, x2, c2, a3, x3, c3, rfl, he'⟩ := he.form
   skip
   refine r_alloc rfl (fun b7 => ?_)
   refine r_storeA 0 rfl rfl rfl rfl (by rfl) rfl rfl ?_; refine r_nn ?_
   refine r_cutG (ι := Unit) (fun _ => [(2, ptr b2 0), (3, ptr b3 0), (6, ptr b 0)]) (fun _ => g2) (fun _ => [rdB b (.slice sa l.length sc) (.bad j' p), .blk b3 32 [.int .i64 0, .int .i64 0], .blk b2 51 noEc]) (fun _ => True) ?_ ?_
   ·rintro _ -
    refine r_seq <| r_sr <| r_ev rfl rfl <| r_ev rfl rfl <| r_fieldAddr rfl rfl <| r_loadB1 0 rfl rfl rfl rfl <| r_nn <| r_cond_true rfl <| r_seq ?_
    refine h_beginE [2, 1] mixed (fun hG => ?_)
    refine h_takeXA 0 rfl (by kernel_rfl) rfl hG ?_; refine ⟨_, (val_build rfl (by rfl)), ?_⟩; refine h_takeXA 1 rfl (by kernel_rfl) rfl hG ?_; refine ⟨_, (val_ev rfl), ?_⟩; refine h_takeXA 2 rfl (by kernel_rfl) rfl hG ?_; refine ⟨_, (val_ev rfl), ?_⟩; refine h_takeXA 3 rfl (by kernel_rfl) rfl hG ?_; refine ⟨_, (val_fieldAddr rfl), ?_⟩; refine h_takeXA 4 rfl (by kernel_rfl) rfl hG ?_; refine ⟨_, (val_loadB1 0 rfl rfl rfl), ?_⟩; refine h_takeXA 5 rfl (by kernel_rfl) rfl hG ?_; refine ⟨_, (val_build rfl (by rfl)), ?_⟩
    refine h_one 6 (by kernel_rfl) rfl ?_
    refine r_storeA 2 rfl rfl rfl rfl (by rfl) (by repeat' (first | exact rfl | assumption | refine all_cons ?_ ?_)) rfl ?_; refine r_nn ?_
    refine h_keptA hG ?_
    refine h_one 7 (by kernel_rfl) rfl ?_
    refine r_storeA 1 rfl rfl rfl rfl (by rfl) (by repeat' (first | exact rfl | assumption | refine all_cons ?_ ?_)) rfl ?_; refine r_nn ?_
    refine h_keptA hG ?_
    refine h_done (by kernel_rfl) ?_
    refine r_then_normal <| r_retc <| r_then_ret ?_
    exact r_ret2 [] rfl (res_blk 2 rfl rfl (by rfl)) (res_blk 1 rfl rfl (by rfl)) (by simp) ⟨⟨_, rfl, ⟨_, rfl, noE_at _⟩⟩, rfl⟩
   ·intro K hK
    refine r_sr <| r_ev rfl rfl <| r_ev rfl rfl <| r_fieldAddr rfl rfl <| r_loadB1 1 rfl rfl rfl rfl <| r_ev rfl rfl <| r_len_sl rfl rfl <| r_ev rfl rfl <| r_nn ?_
    refine r_cond rfl (fun hlt => ?_) (fun hlt => ?_)
    ·refine r_region <| r_ev rfl rfl ?_
     refine r_callL 1 rfl rfl rfl (Fail5_spec g2 l hb _ hts2 b (.bad j' p) hj') ?_
     rintro v g3 r' ⟨rfl, rfl⟩ _
     refine r_nn ?_
     refine r_drop (own' := [_, _, _]) (.cons _ (.cons_cons _ (.cons _ (List.Sublist.refl _)))) ?_
     exact hK () _ trivial ⟨rfl, rfl, rfl, trivial⟩
    ·refine r_skip <| r_then_normal ?_
     refine r_drop (own' := [_, _, _]) (.cons _ (.cons_cons _ (.cons _ (List.Sublist.refl _)))) ?_
     exact hK () _ trivial ⟨rfl, rfl, rfl, trivial⟩
  | ok x =>
   obtain ⟨e, j⟩ := x
   have hsz := eread_size l _ .expr 0 e j (Nat.lt_succ_self _) hq
   have hwf := WfE.weak (M' := 1000000) (by omega) (expr_wf hq)
   rw [hq] at hw2 hpar
   obtain ⟨he, rfl, h4, h5⟩ := hw2
   simp only at hsz hpar
   obtain ⟨a1, x1, c1, a2, x2, c2, a3, x3, c3, rfl, he'⟩ := he.form
   rw [hpar]
   skip
   refine r_alloc rfl (fun b7 => ?_)
   refine r_storeA 0 rfl rfl rfl rfl (by rfl) (by repeat' (first | exact rfl | assumption | refine all_cons ?_ ?_)) rfl ?_; refine r_nn <| r_seq <| r_sr <| r_ev rfl rfl <| r_ev rfl rfl <| r_fieldAddr rfl rfl <| r_loadB1 1 rfl rfl rfl rfl <| r_ev rfl rfl <| r_len_sl rfl rfl <| r_ev rfl rfl <| r_nn ?_
   refine r_cond rfl (fun hlt => ?_) (fun hlt => ?_)
   ·rw [if_pos (by omega)]
    refine r_region <| r_ev rfl rfl ?_
    refine r_callL 1 rfl rfl rfl (Fail5_spec g2 l hb _ hts2 b (.good j) h5) ?_
    rintro v g3 r' ⟨rfl, rfl⟩ _
    refine r_nn <| r_seq <| r_sr <| r_ev rfl rfl <| r_ev rfl rfl <| r_fieldAddr rfl rfl <| r_loadB1 1 rfl rfl rfl rfl <| r_nn <| r_cond_true rfl <| r_seq ?_
    refine r_drop (own' := [_, _, _]) (.cons _ (.cons_cons _ (.cons _ (List.Sublist.refl _)))) ?_
    refine h_beginE [2, 1] mixed (fun hG => ?_)
    refine h_takeXA 0 rfl (by kernel_rfl) rfl hG ?_; refine ⟨_, (val_build rfl (by rfl)), ?_⟩; refine h_takeXA 1 rfl (by kernel_rfl) rfl hG ?_; refine ⟨_, (val_ev rfl), ?_⟩; refine h_takeXA 2 rfl (by kernel_rfl) rfl hG ?_; refine ⟨_, (val_ev rfl), ?_⟩; refine h_takeXA 3 rfl (by kernel_rfl) rfl hG ?_; refine ⟨_, (val_fieldAddr rfl), ?_⟩; refine h_takeXA 4 rfl (by kernel_rfl) rfl hG ?_; refine ⟨_, (val_loadB1 0 rfl rfl rfl), ?_⟩; refine h_takeXA 5 rfl (by kernel_rfl) rfl hG ?_; refine ⟨_, (val_build rfl (by rfl)), ?_⟩
    refine h_one 6 (by kernel_rfl) rfl ?_
    refine r_storeA 2 rfl rfl rfl rfl (by rfl) (by repeat' (first | exact rfl | assumption | refine all_cons ?_ ?_)) rfl ?_; refine r_nn ?_
    refine h_keptA hG ?_
    refine h_one 7 (by kernel_rfl) rfl ?_
    refine r_storeA 1 rfl rfl rfl rfl (by rfl) (by repeat' (first | exact rfl | assumption | refine all_cons ?_ ?_)) rfl ?_; refine r_nn ?_
    refine h_keptA hG ?_
    refine h_done (by kernel_rfl) ?_
    refine r_then_normal <| r_retc <| r_then_ret ?_
    exact r_ret2 [] rfl (res_blk 2 rfl rfl (by rfl)) (res_blk 1 rfl rfl (by rfl)) (by simp) ⟨⟨_, rfl, ⟨_, rfl, noE_at _⟩⟩, rfl⟩
   ·rw [if_neg (by omega)]
    refine r_skip <| r_then_normal <| r_seq <| r_sr <| r_ev rfl rfl <| r_ev rfl rfl <| r_fieldAddr rfl rfl <| r_loadB1 1 rfl rfl rfl rfl <| r_nn <| r_cond_false rfl <| r_skip <| r_then_normal <| r_seq <| r_sr ?_; refine r_loadB 0 rfl rfl rfl (by rfl) ?_
    refine r_callP rfl rfl (deepEx7_spec (Nat.le_refl _) g2 e _ (by omega) hwf ⟨_, rfl, he'⟩) ?_
    unfold exprO
    cases hd : deepEx e with
    | true =>
     refine r_nn <| r_cond_true rfl <| r_sr <| r_build rfl rfl (by rfl) ?_; refine r_build rfl rfl (by rfl) ?_; refine r_storeA 4 rfl rfl rfl rfl (by rfl) (by repeat' (first | exact rfl | assumption | refine all_cons ?_ ?_)) rfl ?_; refine r_storeA 3 rfl rfl rfl rfl (by rfl) (by repeat' (first | exact rfl | assumption | refine all_cons ?_ ?_)) rfl ?_; refine r_nn <| r_retc <| r_then_ret ?_
     exact r_ret2 [] rfl (res_blk 4 rfl rfl (by rfl)) (res_blk 3 rfl rfl (by rfl)) (by simp) ⟨⟨_, rfl, ⟨_, rfl, noE_at _⟩⟩, rfl⟩
    | false =>
     refine r_nn <| r_cond_false rfl <| r_skip <| r_then_normal <| r_seq <| r_sr <| r_loadB 0 rfl rfl rfl (by rfl) ?_
     refine r_callP rfl rfl (wide7_spec g2 e _ (by omega) ⟨_, rfl, he'⟩) ?_
     cases hwd : wideE e with
     | some q =>
      refine r_ev rfl rfl <| r_ev rfl rfl <| r_ev rfl rfl <| r_ev rfl rfl <| r_ev rfl rfl <| r_nn <| r_sr <| r_ev rfl rfl <| r_nn <| r_cond_true rfl <| r_sr <| r_build rfl rfl (by rfl) ?_; refine r_ev rfl rfl <| r_build rfl rfl (by rfl) ?_; refine r_storeA 4 rfl rfl rfl rfl (by rfl) (by repeat' (first | exact rfl | assumption | refine all_cons ?_ ?_)) rfl ?_; refine r_storeA 3 rfl rfl rfl rfl (by rfl) (by repeat' (first | exact rfl | assumption | refine all_cons ?_ ?_)) rfl ?_; refine r_nn <| r_retc <| r_then_ret ?_
      exact r_ret2 [] rfl (res_blk 4 rfl rfl (by rfl)) (res_blk 3 rfl rfl (by rfl)) (by simp) ⟨⟨_, rfl, ⟨_, rfl, noE_at _⟩⟩, rfl⟩
     | none =>
      refine r_ev rfl rfl <| r_ev rfl rfl <| r_ev rfl rfl <| r_ev rfl rfl <| r_ev rfl rfl <| r_nn <| r_sr <| r_ev rfl rfl <| r_nn <| r_cond_false rfl <| r_skip <| r_then_normal <| r_seq ?_
      refine h_beginE [4, 3] mixed (fun hG => ?_)
      refine h_takeXA 0 rfl (by kernel_rfl) rfl hG ?_; refine ⟨_, (val_loadB 0 rfl rfl (by rfl)), ?_⟩; refine h_takeXA 1 rfl (by kernel_rfl) rfl hG ?_; refine ⟨_, (val_loadB 2 rfl rfl (by rfl)), ?_⟩
      refine h_one 2 (by kernel_rfl) rfl ?_
      refine r_storeA 4 rfl rfl rfl rfl (by rfl) (by repeat' (first | exact rfl | assumption | refine all_cons ?_ ?_)) rfl ?_; refine r_nn ?_
      refine h_keptA hG ?_
      refine h_one 3 (by kernel_rfl) rfl ?_
      refine r_storeA 3 rfl rfl rfl rfl (by rfl) (by repeat' (first | exact rfl | assumption | refine all_cons ?_ ?_)) rfl ?_; refine r_nn ?_
      refine h_keptA hG ?_
      refine h_done (by kernel_rfl) ?_
      refine r_then_normal <| r_retc ?_
      exact r_ret2 [] rfl (res_blk 4 rfl rfl (by rfl)) (res_blk 3 rfl rfl (by rfl)) (by simp) ⟨⟨_, rfl, ⟨_, rfl, he'⟩⟩, rfl⟩
theorem ParseType7_spec (g : Ghost) (s : Bytes) (hs : s.length ≤ 9223372036854775807) : SpecN Tryz.prog 34 [str s] g (postTy (parseT s)) := by
 refine spec_of_run Tryz.func34 rfl Tryz.ntmps34 rfl fun E hE => ?_
 refine r_sr ?_
 refine r_alloc rfl (fun b2 => ?_)
 refine r_alloc rfl (fun b3 => ?_)
 refine r_nn <| r_sr <| r_ev rfl rfl ?_
 refine r_call rfl rfl (refScan_spec g s hs) ?_
 rintro v g0 own' ⟨rfl, hp⟩ _
 cases hsc : scan s with
 | bad e p =>
  rw [hsc] at hp
  obtain ⟨rfl, rfl⟩ := hp
  have hr : parseT s = .error (e, p) := by unfold parseT; rw [hsc]
  have he := scan_code hsc
  rw [hr]
  refine r_ev rfl rfl <| r_ev rfl rfl <| r_ev rfl rfl ?_
  refine r_alloc rfl (fun b5 => ?_)
  refine r_ev rfl rfl <| r_storeA 0 rfl rfl rfl rfl (by rfl) (by repeat' (first | exact rfl | assumption | refine all_cons ?_ ?_)) rfl ?_; refine r_nn <| r_seq <| r_sr <| r_fieldAddr rfl rfl <| r_loadB1 0 rfl rfl rfl rfl <| r_ev rfl rfl <| r_nn ?_
  refine r_cond rfl (fun _ => ?_) (fun h => absurd he h)
  refine r_seq ?_
  refine h_beginE [2, 1] mixed (fun hG => ?_)
  refine h_takeXA 0 rfl (by kernel_rfl) rfl hG ?_; refine ⟨_, (val_build rfl (by rfl)), ?_⟩; refine h_takeXA 1 rfl (by kernel_rfl) rfl hG ?_; refine ⟨_, (val_loadB 0 rfl rfl (by rfl)), ?_⟩
  refine h_one 2 (by kernel_rfl) rfl ?_
  refine r_storeA 2 rfl rfl rfl rfl (by rfl) (by repeat' (first | exact rfl | assumption | refine all_cons ?_ ?_)) rfl ?_; refine r_nn ?_
  refine h_keptA hG ?_
  refine h_one 3 (by kernel_rfl) rfl ?_
  refine r_storeA 1 rfl rfl rfl rfl (by rfl) (by repeat' (first | exact rfl | assumption | refine all_cons ?_ ?_)) rfl ?_; refine r_nn ?_
  refine h_keptA hG ?_
  refine h_done (by kernel_rfl) ?_
  refine r_then_normal <| r_retc <| r_then_ret ?_
  exact r_ret2 [] rfl (res_blk 2 rfl rfl (by rfl)) (res_blk 1 rfl rfl (by rfl)) (by simp) ⟨⟨_, rfl, noT_V _⟩, rfl⟩
 | ok l =>
  rw [hsc] at hp
  obtain ⟨sv, rfl, rfl⟩ := hp
  have hl : toksOf s = l := by unfold toksOf; rw [hsc]
  have hb : TB l := hl ▸ toksOf_TB7 s
  have hkw : KW l := hl ▸ toksOf_KW7 s
  have hb4 : l.length ≤ 4000 := hl ▸ (toksOf_facts s).1
  have hb1 := hb.1
  have hpar : parseT s = match tread l .whole 0 with
   | .error p => .error (3, p)
   | .ok (t, j) => if j < l.length then .error (3, failPos l j) else typeO t := by unfold parseT; rw [hsc]
  refine r_publishRow (fun g1 hg1 h1 => ?_)
  have hts : ToksAt g1 sv l := h1
  obtain ⟨sa, sc, rfl⟩ := slForm2 h1
  refine r_ev rfl rfl <| r_ev rfl rfl <| r_ev rfl rfl ?_
  refine r_alloc rfl (fun b5 => ?_)
  refine r_ev rfl rfl <| r_storeA 0 rfl rfl rfl rfl (by rfl) (by repeat' (first | exact rfl | assumption | refine all_cons ?_ ?_)) rfl ?_; refine r_nn <| r_seq <| r_sr <| r_fieldAddr rfl rfl <| r_loadB1 0 rfl rfl rfl rfl <| r_ev rfl rfl <| r_nn <| r_cond_false rfl <| r_skip <| r_then_normal <| r_sr <| r_ev rfl rfl ?_
  refine r_call' (lent := []) (kept := _) rfl rfl (List.Perm.refl _) (New5_spec g1 l _ hts 0) ?_
  rintro w g1' own' ⟨rfl, b, rfl, rfl⟩ _
  have hi0 : idxOf l.length 0 = 0 := by unfold idxOf; rw [if_neg (by omega)]; simp
  rw [hi0]
  refine r_ev rfl rfl <| r_nn <| r_sr <| r_ev rfl rfl ?_
  refine r_callL 0 rfl rfl rfl (Type5_spec hb hkw g1' _ b 0 hts (Nat.zero_le _)) ?_
  rintro w g2 r' hw2 hle2
  have hts2 := hts.mono hle2
  cases hq : tread l .whole 0 with
  | error p =>
   rw [hq] at hw2 hpar
   obtain ⟨⟨e, he⟩, j', hj', rfl⟩ := hw2
   rw [hpar]
   obtain ⟨ya, ym, yc, rfl, he'⟩ := he.cells5
   skip
   refine r_alloc rfl (fun b7 => ?_)
   refine r_storeA 0 rfl rfl rfl rfl (by rfl) rfl rfl ?_; refine r_nn ?_
   refine r_cutG (ι := Unit) (fun _ => [(2, ptr b2 0), (3, ptr b3 0), (6, ptr b 0)]) (fun _ => g2) (fun _ => [rdB b (.slice sa l.length sc) (.bad j' p), .blk b3 32 [.int .i64 0, .int .i64 0], .blk b2 49 noTc]) (fun _ => True) ?_ ?_
   ·rintro _ -
    refine r_seq <| r_sr <| r_ev rfl rfl <| r_ev rfl rfl <| r_fieldAddr rfl rfl <| r_loadB1 0 rfl rfl rfl rfl <| r_nn <| r_cond_true rfl <| r_seq ?_
    refine h_beginE [2, 1] mixed (fun hG => ?_)
    refine h_takeXA 0 rfl (by kernel_rfl) rfl hG ?_; refine ⟨_, (val_build rfl (by rfl)), ?_⟩; refine h_takeXA 1 rfl (by kernel_rfl) rfl hG ?_; refine ⟨_, (val_ev rfl), ?_⟩; refine h_takeXA 2 rfl (by kernel_rfl) rfl hG ?_; refine ⟨_, (val_ev rfl), ?_⟩; refine h_takeXA 3 rfl (by kernel_rfl) rfl hG ?_; refine ⟨_, (val_fieldAddr rfl), ?_⟩; refine h_takeXA 4 rfl (by kernel_rfl) rfl hG ?_; refine ⟨_, (val_loadB1 0 rfl rfl rfl), ?_⟩; refine h_takeXA 5 rfl (by kernel_rfl) rfl hG ?_; refine ⟨_, (val_build rfl (by rfl)), ?_⟩
    refine h_one 6 (by kernel_rfl) rfl ?_
    refine r_storeA 2 rfl rfl rfl rfl (by rfl) (by repeat' (first | exact rfl | assumption | refine all_cons ?_ ?_)) rfl ?_; refine r_nn ?_
    refine h_keptA hG ?_
    refine h_one 7 (by kernel_rfl) rfl ?_
    refine r_storeA 1 rfl rfl rfl rfl (by rfl) (by repeat' (first | exact rfl | assumption | refine all_cons ?_ ?_)) rfl ?_; refine r_nn ?_
    refine h_keptA hG ?_
    refine h_done (by kernel_rfl) ?_
    refine r_then_normal <| r_retc <| r_then_ret ?_
    exact r_ret2 [] rfl (res_blk 2 rfl rfl (by rfl)) (res_blk 1 rfl rfl (by rfl)) (by simp) ⟨⟨_, rfl, noT_V _⟩, rfl⟩
   ·intro K hK
    refine r_sr <| r_ev rfl rfl <| r_ev rfl rfl <| r_fieldAddr rfl rfl <| r_loadB1 1 rfl rfl rfl rfl <| r_ev rfl rfl <| r_len_sl rfl rfl <| r_ev rfl rfl <| r_nn ?_
    refine r_cond rfl (fun hlt => ?_) (fun hlt => ?_)
    ·refine r_region <| r_ev rfl rfl ?_
     refine r_callL 1 rfl rfl rfl (Fail5_spec g2 l hb _ hts2 b (.bad j' p) hj') ?_
     rintro v g3 r' ⟨rfl, rfl⟩ _
     refine r_nn ?_
     refine r_drop (own' := [_, _, _]) (.cons _ (.cons_cons _ (.cons _ (List.Sublist.refl _)))) ?_
     exact hK () _ trivial ⟨rfl, rfl, rfl, trivial⟩
    ·refine r_skip <| r_then_normal ?_
     refine r_drop (own' := [_, _, _]) (.cons _ (.cons_cons _ (.cons _ (List.Sublist.refl _)))) ?_
     exact hK () _ trivial ⟨rfl, rfl, rfl, trivial⟩
  | ok x =>
   obtain ⟨t, j⟩ := x
   have hdt := tread_deep (fun n acc => by simp) hq
   have hjl := tread_end l _ _ _ _ (Nat.zero_le _) hq
   rw [hq] at hw2 hpar
   obtain ⟨he, rfl, h4, h5⟩ := hw2
   simp only at hpar
   obtain ⟨ya, ym, yc, rfl, he'⟩ := he.cells5
   rw [hpar]
   skip
   refine r_alloc rfl (fun b7 => ?_)
   refine r_storeA 0 rfl rfl rfl rfl (by rfl) (by repeat' (first | exact rfl | assumption | refine all_cons ?_ ?_)) rfl ?_; refine r_nn <| r_seq <| r_sr <| r_ev rfl rfl <| r_ev rfl rfl <| r_fieldAddr rfl rfl <| r_loadB1 1 rfl rfl rfl rfl <| r_ev rfl rfl <| r_len_sl rfl rfl <| r_ev rfl rfl <| r_nn ?_
   refine r_cond rfl (fun hlt => ?_) (fun hlt => ?_)
   ·rw [if_pos (by omega)]
    refine r_region <| r_ev rfl rfl ?_
    refine r_callL 1 rfl rfl rfl (Fail5_spec g2 l hb _ hts2 b (.good j) h5) ?_
    rintro v g3 r' ⟨rfl, rfl⟩ _
    refine r_nn <| r_seq <| r_sr <| r_ev rfl rfl <| r_ev rfl rfl <| r_fieldAddr rfl rfl <| r_loadB1 1 rfl rfl rfl rfl <| r_nn <| r_cond_true rfl <| r_seq ?_
    refine r_drop (own' := [_, _, _]) (.cons _ (.cons_cons _ (.cons _ (List.Sublist.refl _)))) ?_
    refine h_beginE [2, 1] mixed (fun hG => ?_)
    refine h_takeXA 0 rfl (by kernel_rfl) rfl hG ?_; refine ⟨_, (val_build rfl (by rfl)), ?_⟩; refine h_takeXA 1 rfl (by kernel_rfl) rfl hG ?_; refine ⟨_, (val_ev rfl), ?_⟩; refine h_takeXA 2 rfl (by kernel_rfl) rfl hG ?_; refine ⟨_, (val_ev rfl), ?_⟩; refine h_takeXA 3 rfl (by kernel_rfl) rfl hG ?_; refine ⟨_, (val_fieldAddr rfl), ?_⟩; refine h_takeXA 4 rfl (by kernel_rfl) rfl hG ?_; refine ⟨_, (val_loadB1 0 rfl rfl rfl), ?_⟩; refine h_takeXA 5 rfl (by kernel_rfl) rfl hG ?_; refine ⟨_, (val_build rfl (by rfl)), ?_⟩
    refine h_one 6 (by kernel_rfl) rfl ?_
    refine r_storeA 2 rfl rfl rfl rfl (by rfl) (by repeat' (first | exact rfl | assumption | refine all_cons ?_ ?_)) rfl ?_; refine r_nn ?_
    refine h_keptA hG ?_
    refine h_one 7 (by kernel_rfl) rfl ?_
    refine r_storeA 1 rfl rfl rfl rfl (by rfl) (by repeat' (first | exact rfl | assumption | refine all_cons ?_ ?_)) rfl ?_; refine r_nn ?_
    refine h_keptA hG ?_
    refine h_done (by kernel_rfl) ?_
    refine r_then_normal <| r_retc <| r_then_ret ?_
    exact r_ret2 [] rfl (res_blk 2 rfl rfl (by rfl)) (res_blk 1 rfl rfl (by rfl)) (by simp) ⟨⟨_, rfl, noT_V _⟩, rfl⟩
   ·rw [if_neg (by omega)]
    refine r_skip <| r_then_normal <| r_seq <| r_sr <| r_ev rfl rfl <| r_ev rfl rfl <| r_fieldAddr rfl rfl <| r_loadB1 1 rfl rfl rfl rfl <| r_nn <| r_cond_false rfl <| r_skip <| r_then_normal <| r_seq <| r_sr ?_; refine r_loadB 0 rfl rfl rfl (by rfl) ?_
    refine r_callP rfl rfl (Depth3_spec g2 t _ (by omega) ⟨_, rfl, he'⟩) ?_
    unfold typeO
    refine r_ev rfl rfl <| r_nn ?_
    refine r_cond rfl (fun hd => ?_) (fun hd => ?_)
    ·rw [if_pos (by omega)]
     refine r_sr <| r_build rfl rfl (by rfl) ?_; refine r_build rfl rfl (by rfl) ?_; refine r_storeA 4 rfl rfl rfl rfl (by rfl) (by repeat' (first | exact rfl | assumption | refine all_cons ?_ ?_)) rfl ?_; refine r_storeA 3 rfl rfl rfl rfl (by rfl) (by repeat' (first | exact rfl | assumption | refine all_cons ?_ ?_)) rfl ?_; refine r_nn <| r_retc <| r_then_ret ?_
     exact r_ret2 [] rfl (res_blk 4 rfl rfl (by rfl)) (res_blk 3 rfl rfl (by rfl)) (by simp) ⟨⟨_, rfl, noT_V _⟩, rfl⟩
    ·rw [if_neg (by omega)]
     refine r_skip <| r_then_normal <| r_seq ?_
     refine h_beginE [4, 3] mixed (fun hG => ?_)
     refine h_takeXA 0 rfl (by kernel_rfl) rfl hG ?_; refine ⟨_, (val_loadB 0 rfl rfl (by rfl)), ?_⟩; refine h_takeXA 1 rfl (by kernel_rfl) rfl hG ?_; refine ⟨_, (val_loadB 2 rfl rfl (by rfl)), ?_⟩
     refine h_one 2 (by kernel_rfl) rfl ?_
     refine r_storeA 4 rfl rfl rfl rfl (by rfl) (by repeat' (first | exact rfl | assumption | refine all_cons ?_ ?_)) rfl ?_; refine r_nn ?_
     refine h_keptA hG ?_
     refine h_one 3 (by kernel_rfl) rfl ?_
     refine r_storeA 3 rfl rfl rfl rfl (by rfl) (by repeat' (first | exact rfl | assumption | refine all_cons ?_ ?_)) rfl ?_; refine r_nn ?_
     refine h_keptA hG ?_
     refine h_done (by kernel_rfl) ?_
     refine r_then_normal <| r_retc ?_
     exact r_ret2 [] rfl (res_blk 4 rfl rfl (by rfl)) (res_blk 3 rfl rfl (by rfl)) (by simp) ⟨⟨_, rfl, ⟨_, rfl, he'⟩⟩, rfl⟩
end Go.Proofs.YtpjehhnaojjanaaGreatDoor
-- sum 9131a4f362a42231


/- readtype.Atom and what the reference's Type and Atom end with. -/
namespace Go.Proofs.YtpjehhnaojjanaaGreatDoor
open Go Go.Eng Go.Th Go.Proofs
set_option maxRecDepth 10000
set_option maxHeartbeats 4000000
attribute [local irreducible] wpList Code.wp Run bodyPost Go.Eng.Ends Exit.then Exit.inBlock Again Wq Kq
theorem rAtom_spec {l : List Tok} (hb : TB l) (g : Ghost) (hg : ErrT g) (v : Value) (i : Int) (hs : ToksAt g v l) : SpecN Tryz.prog 88 [v, .int .i64 i] g (ansPost (tread l .atom (idxOf l.length i))) := by
 have hi : idxOf l.length i ≤ l.length := by unfold idxOf; split <;> omega
 refine spec_of_run Tryz.func88 rfl Tryz.ntmps88 rfl fun E hE => ?_
 refine r_sr ?_
 refine r_alloc rfl (fun b4 => ?_)
 refine r_ev rfl rfl ?_
 refine r_alloc rfl (fun b6 => ?_)
 refine r_nn <| r_sr <| r_ev rfl rfl <| r_ev rfl rfl <| r_ev rfl rfl ?_
 refine r_callP rfl rfl (index_spec g v l hs i) ?_
 skip
 refine r_callN rfl rfl (atom_spec hb g v _ hs hi) ?_
 rintro w g1 hw hle
 have hg1 := hg.mono hle
 cases hq : tread l .atom (idxOf l.length i) with
 | error p =>
  rw [hq] at hw
  obtain ⟨tv, j, t, rfl, hty, hj⟩ := hw
  unfold failV
  refine r_ev rfl rfl <| r_ev rfl rfl <| r_ev rfl rfl ?_
  refine r_callN rfl rfl (result_err g1 hg1 tv t j p hty) ?_
  rintro w g2 ⟨rfl, rfl⟩ _
  refine r_ev rfl rfl <| r_ev rfl rfl <| r_ev rfl rfl <| r_storeA 1 rfl rfl rfl rfl (by rfl) (by repeat' (first | exact rfl | assumption | refine all_cons ?_ ?_)) rfl ?_; refine r_ev rfl rfl <| r_storeA 0 rfl rfl rfl rfl (by rfl) (by repeat' (first | exact rfl | assumption | refine all_cons ?_ ?_)) rfl ?_; refine r_nn <| r_retc ?_
  exact r_ret3 [] rfl (res_blk 1 rfl rfl (by rfl)) (.tmp rfl) (res_blk 0 rfl rfl (by rfl)) (by simp) ⟨⟨_, rfl, noT_V _⟩, rfl⟩
 | ok q =>
  obtain ⟨t, j⟩ := q
  rw [hq] at hw
  obtain ⟨tv, rfl, hty, hj1, hj2⟩ := hw
  refine r_ev rfl rfl <| r_ev rfl rfl <| r_ev rfl rfl ?_
  refine r_callN rfl rfl (result_ok g1 tv t j hty) ?_
  rintro w g2 ⟨rfl, rfl⟩ _
  obtain ⟨a, m', c, rfl, ht⟩ := hty.cells5
  refine r_ev rfl rfl <| r_ev rfl rfl <| r_ev rfl rfl <| r_storeA 1 rfl rfl rfl rfl (by rfl) (by repeat' (first | exact rfl | assumption | refine all_cons ?_ ?_)) rfl ?_; refine r_ev rfl rfl <| r_storeA 0 rfl rfl rfl rfl (by rfl) (by repeat' (first | exact rfl | assumption | refine all_cons ?_ ?_)) rfl ?_; refine r_nn <| r_retc ?_
  exact r_ret3 [] rfl (res_blk 1 rfl rfl (by rfl)) (.tmp rfl) (res_blk 0 rfl rfl (by rfl)) (by simp) ⟨⟨_, rfl, ⟨_, rfl, ht⟩⟩, rfl⟩
end Go.Proofs.YtpjehhnaojjanaaGreatDoor
-- sum 6e56d7bfcf26bccd


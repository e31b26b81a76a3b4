/- The walks of readprogram's ParseExpr and ParseType. -/
import Derived.Test.YtpjehhnaojjanaaGreatDoorK15
import Derived.Test.YtpjehhnaojjanaaGreatDoorK16
import Derived.Test.YtpjehhnaojjanaaGreatDoorK11
import Derived.Test.YtpjehhnaojjanaaGreatDoorK14
import Derived.Test.YtpjehhnaojjanaaGreatDoorK8
import Derived.Test.YtpjehhnaojjanaaGreatDoorK12
namespace Go.Proofs.YtpjehhnaojjanaaGreatDoor
open Go Go.Eng Go.Th Go.Proofs
set_option maxRecDepth 10000
set_option maxHeartbeats 4000000
attribute [local irreducible] wpList Code.wp Run bodyPost Go.Eng.Ends Exit.then Exit.inBlock Again Wq Kq
theorem ParseType_spec (g : Ghost) (hg : ErrT g) (s : Bytes) (hs : s.length ≤ 9223372036854775807) : SpecN Tryz.prog 24 [str s] g (postTy (parseT s)) := by
 refine spec_of_run Tryz.func24 rfl Tryz.ntmps24 rfl fun E hE => ?_
 refine r_sr ?_
 refine r_alloc rfl (fun b2 => ?_)
 refine r_alloc rfl (fun b3 => ?_)
 refine r_nn <| r_sr <| r_ev rfl rfl ?_
 refine r_call rfl rfl (tScan_spec g s hs) ?_
 rintro v g0 own' ⟨rfl, hp⟩ _
 cases hsc : scan s with
 | bad e p =>
  rw [hsc] at hp
  obtain ⟨rfl, rfl⟩ := hp
  have hr : parseT s = .error (e, p) := by unfold parseT; rw [hsc]
  have he := scan_code hsc
  rw [hr]
  refine r_ev rfl rfl <| r_ev rfl rfl <| r_ev rfl rfl ?_
  refine r_alloc rfl (fun b5 => ?_)
  refine r_ev rfl rfl <| r_storeA 0 rfl rfl rfl rfl (by rfl) (by repeat' (first | exact rfl | assumption | refine all_cons ?_ ?_)) rfl ?_; refine r_nn <| r_seq <| r_sr <| r_fieldAddr rfl rfl <| r_loadB1 0 rfl rfl rfl rfl <| r_ev rfl rfl <| r_nn ?_
  refine r_cond rfl (fun _ => ?_) (fun h => absurd he h)
  refine r_seq ?_
  refine h_beginE [2, 1] mixed (fun hG => ?_)
  refine h_takeXA 0 rfl (by kernel_rfl) rfl hG ?_; refine ⟨_, (val_build rfl (by rfl)), ?_⟩; refine h_takeXA 1 rfl (by kernel_rfl) rfl hG ?_; refine ⟨_, (val_loadB 0 rfl rfl (by rfl)), ?_⟩
  refine h_one 2 (by kernel_rfl) rfl ?_
  refine r_storeA 2 rfl rfl rfl rfl (by rfl) (by repeat' (first | exact rfl | assumption | refine all_cons ?_ ?_)) rfl ?_; refine r_nn ?_
  refine h_keptA hG ?_
  refine h_one 3 (by kernel_rfl) rfl ?_
  refine r_storeA 1 rfl rfl rfl rfl (by rfl) (by repeat' (first | exact rfl | assumption | refine all_cons ?_ ?_)) rfl ?_; refine r_nn ?_
  refine h_keptA hG ?_
  refine h_done (by kernel_rfl) ?_
  refine r_then_normal <| r_retc <| r_then_ret ?_
  exact r_ret2 [] rfl (res_blk 2 rfl rfl (by rfl)) (res_blk 1 rfl rfl (by rfl)) (by simp) ⟨⟨_, rfl, noT_V _⟩, rfl⟩
 | ok l =>
  rw [hsc] at hp
  obtain ⟨sv, rfl, rfl⟩ := hp
  have hl : toksOf s = l := by unfold toksOf; rw [hsc]
  have hb : TB l := hl ▸ toksOf_TB s
  have hkw : KW l := hl ▸ toksOf_KW s
  have hb4 : l.length ≤ 4000 := hl ▸ (toksOf_facts s).1
  have hb1 := hb.1
  have hi0 : idxOf l.length 0 = 0 := by unfold idxOf; rw [if_neg (by omega)]; simp
  have hpar : parseT s = match tread l .whole 0 with
   | .error p => .error (3, p)
   | .ok (t, j) => if j < l.length then .error (3, failPos l j) else typeO t := by unfold parseT; rw [hsc]; rfl
  refine r_publishRow (fun g1 hle1 h1 => ?_)
  have hg1 := hg.mono hle1
  have hts : ToksAt g1 sv l := h1
  obtain ⟨sa, sc, rfl⟩ := slForm2 h1
  refine r_ev rfl rfl <| r_ev rfl rfl <| r_ev rfl rfl ?_
  refine r_alloc rfl (fun b5 => ?_)
  refine r_ev rfl rfl <| r_storeA 0 rfl rfl rfl rfl (by rfl) (by repeat' (first | exact rfl | assumption | refine all_cons ?_ ?_)) rfl ?_; refine r_nn <| r_seq <| r_sr <| r_fieldAddr rfl rfl <| r_loadB1 0 rfl rfl rfl rfl <| r_ev rfl rfl <| r_nn <| r_cond_false rfl <| r_skip <| r_then_normal <| r_sr <| r_ev rfl rfl ?_
  refine r_callN rfl rfl (rType_spec hb g1 hg1 _ 0 hts) ?_
  rintro w g2 hans hle2
  rw [hi0] at hans
  have hts2 := hts.mono hle2
  cases hq : tread l .whole 0 with
  | error p =>
   rw [hq] at hans hpar
   obtain ⟨tv, rfl, hty⟩ := hans
   obtain ⟨ya, ym, yc, rfl, he'⟩ := hty.cells5
   rw [hpar]
   refine r_ev rfl rfl <| r_ev rfl rfl <| r_ev rfl rfl <| r_ev rfl rfl ?_
   refine r_alloc rfl (fun b6 => ?_)
   refine r_storeA 0 rfl rfl rfl rfl (by rfl) (by repeat' (first | exact rfl | assumption | refine all_cons ?_ ?_)) rfl ?_; refine r_ev rfl rfl <| r_storeA 1 rfl rfl rfl rfl (by rfl) (by repeat' (first | exact rfl | assumption | refine all_cons ?_ ?_)) rfl ?_; refine r_nn <| r_sr <| r_ev rfl rfl <| r_ev rfl rfl <| r_loadB 1 rfl rfl rfl (by rfl) ?_; refine r_build rfl rfl (by rfl) ?_
   refine r_box rfl rfl rfl (fun b => ?_)
   refine r_ev rfl rfl <| r_nn <| r_seq <| r_sr <| r_ev rfl rfl ?_
   refine r_callO 0 rfl rfl rfl (pok_spec g2 (.slice sa l.length sc) b (.bad 0 p)) ?_
   refine r_ev rfl rfl <| r_pass rfl rfl rfl <| r_pass rfl rfl rfl <| r_pass rfl rfl rfl <| r_pass rfl rfl rfl <| r_ev rfl rfl <| r_nn <| r_cond_false rfl <| r_skip <| r_then_normal <| r_seq <| r_sr <| r_ev rfl rfl ?_
   refine r_callO 0 rfl rfl rfl (pok_spec g2 (.slice sa l.length sc) b (.bad 0 p)) ?_
   refine r_ev rfl rfl <| r_nn <| r_cond_true rfl <| r_seq ?_
   refine h_beginE [4, 3] mixed (fun hG => ?_)
   refine h_takeXA 0 rfl (by kernel_rfl) rfl hG ?_; refine ⟨_, (val_build rfl (by rfl)), ?_⟩; refine h_takeXA 1 rfl (by kernel_rfl) rfl hG ?_; refine ⟨_, (val_ev rfl), ?_⟩; refine h_takeXA 2 rfl (by kernel_rfl) rfl hG ?_; refine ⟨_, (val_ev rfl), ?_⟩; refine h_takeXA 3 rfl (by kernel_rfl) rfl hG ?_; refine ⟨_, (val_fieldAddr rfl), ?_⟩; refine h_takeXA 4 rfl (by kernel_rfl) rfl hG ?_; refine ⟨_, (val_loadB 0 rfl rfl (by rfl)), ?_⟩
   refine h_one 5 (by kernel_rfl) rfl ?_
   refine r_storeA 4 rfl rfl rfl rfl (by rfl) (by repeat' (first | exact rfl | assumption | refine all_cons ?_ ?_)) rfl ?_; refine r_nn ?_
   refine h_keptA hG ?_
   refine h_one 6 (by kernel_rfl) rfl ?_
   refine r_storeA 3 rfl rfl rfl rfl (by rfl) (by repeat' (first | exact rfl | assumption | refine all_cons ?_ ?_)) rfl ?_; refine r_nn ?_
   refine h_keptA hG ?_
   refine h_done (by kernel_rfl) ?_
   refine r_then_normal <| r_retc <| r_then_ret ?_
   exact r_ret2 [] rfl (res_blk 4 rfl rfl (by rfl)) (res_blk 3 rfl rfl (by rfl)) (by simp) ⟨⟨_, rfl, noT_V _⟩, rfl⟩
  | ok x =>
   obtain ⟨t, j⟩ := x
   have hdt := tread_deep (fun n acc => by simp) hq
   have hjl := tread_end l _ _ _ _ (Nat.zero_le _) hq
   rw [hq] at hans hpar
   obtain ⟨tv, rfl, hty⟩ := ansP_ok hans
   simp only at hpar
   obtain ⟨ya, ym, yc, rfl, he'⟩ := hty.cells5
   rw [hpar]
   refine r_ev rfl rfl <| r_ev rfl rfl <| r_ev rfl rfl <| r_ev rfl rfl ?_
   refine r_alloc rfl (fun b6 => ?_)
   refine r_storeA 0 rfl rfl rfl rfl (by rfl) (by repeat' (first | exact rfl | assumption | refine all_cons ?_ ?_)) rfl ?_; refine r_ev rfl rfl <| r_storeA 1 rfl rfl rfl rfl (by rfl) (by repeat' (first | exact rfl | assumption | refine all_cons ?_ ?_)) rfl ?_; refine r_nn <| r_sr <| r_ev rfl rfl <| r_ev rfl rfl <| r_loadB 1 rfl rfl rfl (by rfl) ?_; refine r_build rfl rfl (by rfl) ?_
   refine r_box rfl rfl rfl (fun b => ?_)
   refine r_ev rfl rfl <| r_nn <| r_seq <| r_sr <| r_ev rfl rfl ?_
   refine r_callO 0 rfl rfl rfl (pok_spec g2 (.slice sa l.length sc) b (.good j)) ?_
   refine r_ev rfl rfl <| r_tev rfl rfl rfl <| r_tev rfl rfl rfl <| r_take rfl <| r_len_sl rfl rfl <| r_tev rfl rfl rfl <| r_ev rfl rfl <| r_nn ?_
   refine r_cond rfl (fun hlt => ?_) (fun hlt => ?_)
   ·rw [if_pos (by omega)]
    refine r_region <| r_ev rfl rfl ?_
    refine r_callL 0 rfl rfl rfl (pfail_spec g2 l hb _ hts2 b (.good j)) ?_
    rintro v g3 r' ⟨rfl, rfl⟩ _
    rw [show RS.fail l (.good j) = .bad j (failPos l j) from rfl]
    refine r_nn <| r_seq <| r_sr <| r_ev rfl rfl ?_
    refine r_callO 0 rfl rfl rfl (pok_spec g3 (.slice sa l.length sc) b (.bad j (failPos l j))) ?_
    refine r_ev rfl rfl <| r_nn <| r_cond_true rfl <| r_seq ?_
    refine h_beginE [4, 3] mixed (fun hG => ?_)
    refine h_takeXA 0 rfl (by kernel_rfl) rfl hG ?_; refine ⟨_, (val_build rfl (by rfl)), ?_⟩; refine h_takeXA 1 rfl (by kernel_rfl) rfl hG ?_; refine ⟨_, (val_ev rfl), ?_⟩; refine h_takeXA 2 rfl (by kernel_rfl) rfl hG ?_; refine ⟨_, (val_ev rfl), ?_⟩; refine h_takeXA 3 rfl (by kernel_rfl) rfl hG ?_; refine ⟨_, (val_fieldAddr rfl), ?_⟩; refine h_takeXA 4 rfl (by kernel_rfl) rfl hG ?_; refine ⟨_, (val_loadB 0 rfl rfl (by rfl)), ?_⟩
    refine h_one 5 (by kernel_rfl) rfl ?_
    refine r_storeA 4 rfl rfl rfl rfl (by rfl) (by repeat' (first | exact rfl | assumption | refine all_cons ?_ ?_)) rfl ?_; refine r_nn ?_
    refine h_keptA hG ?_
    refine h_one 6 (by kernel_rfl) rfl ?_
    refine r_storeA 3 rfl rfl rfl rfl (by rfl) (by repeat' (first | exact rfl | assumption | refine all_cons ?_ ?_)) rfl ?_; refine r_nn ?_
    refine h_keptA hG ?_
    refine h_done (by kernel_rfl) ?_
    refine r_then_normal <| r_retc <| r_then_ret ?_
    exact r_ret2 [] rfl (res_blk 4 rfl rfl (by rfl)) (res_blk 3 rfl rfl (by rfl)) (by simp) ⟨⟨_, rfl, noT_V _⟩, rfl⟩
   ·rw [if_neg (by omega)]
    refine r_skip <| r_then_normal <| r_seq <| r_sr <| r_ev rfl rfl ?_
    refine r_callO 0 rfl rfl rfl (pok_spec g2 (.slice sa l.length sc) b (.good j)) ?_
    refine r_ev rfl rfl <| r_nn <| r_cond_false rfl <| r_skip <| r_then_normal <| r_seq <| r_sr <| r_loadB 1 rfl rfl rfl (by rfl) ?_
    refine r_callP rfl rfl (tDepth_spec g2 t _ (by omega) ⟨_, rfl, he'⟩) ?_
    unfold typeO
    refine r_ev rfl rfl <| r_nn ?_
    refine r_cond rfl (fun hd => ?_) (fun hd => ?_)
    ·rw [if_pos (by omega)]
     refine r_sr <| r_build rfl rfl (by rfl) ?_; refine r_build rfl rfl (by rfl) ?_; refine r_storeA 4 rfl rfl rfl rfl (by rfl) (by repeat' (first | exact rfl | assumption | refine all_cons ?_ ?_)) rfl ?_; refine r_storeA 3 rfl rfl rfl rfl (by rfl) (by repeat' (first | exact rfl | assumption | refine all_cons ?_ ?_)) rfl ?_; refine r_nn <| r_retc <| r_then_ret ?_
     exact r_ret2 [] rfl (res_blk 4 rfl rfl (by rfl)) (res_blk 3 rfl rfl (by rfl)) (by simp) ⟨⟨_, rfl, noT_V _⟩, rfl⟩
    ·rw [if_neg (by omega)]
     refine r_skip <| r_then_normal <| r_sr <| r_loadB 1 rfl rfl rfl (by rfl) ?_; refine r_build rfl rfl (by rfl) ?_; refine r_storeA 4 rfl rfl rfl rfl (by rfl) (by repeat' (first | exact rfl | assumption | refine all_cons ?_ ?_)) rfl ?_; refine r_storeA 3 rfl rfl rfl rfl (by rfl) (by repeat' (first | exact rfl | assumption | refine all_cons ?_ ?_)) rfl ?_; refine r_nn <| r_retc ?_
     exact r_ret2 [] rfl (res_blk 4 rfl rfl (by rfl)) (res_blk 3 rfl rfl (by rfl)) (by simp) ⟨⟨_, rfl, ⟨_, rfl, he'⟩⟩, rfl⟩
end Go.Proofs.YtpjehhnaojjanaaGreatDoor
-- sum c48ddef30577620e

/- Chapter 7: the sanity check, pieces of programs. -/
namespace Go.Proofs.YtpjehhnaojjanaaGreatDoor
open Go Go.Eng Go.Th Go.Proofs
set_option maxRecDepth 10000
set_option maxHeartbeats 4000000
attribute [local irreducible] wpList Code.wp Run bodyPost Go.Eng.Ends Exit.then Exit.inBlock Again Wq Kq
def px1 : Bytes := [108, 101, 116, 32, 105, 100, 32, 61, 32, 92, 120, 46, 32, 120, 59]
def px2 : Bytes := [108, 101, 116, 32, 120, 32, 61, 32, 59]
def px3 : Bytes := [97, 32, 45, 62, 32, 73, 110, 116]
theorem px1_f : resF (parseR px1) = (0, 0) := by kernel_rfl
theorem px1_n : (resP (parseR px1)).binds.map (fun b => b.name) = [[105, 100]] := by kernel_rfl
theorem px2_f : resF (parseR px2) = (3, 8) := by kernel_rfl
theorem px3_f : resF (parseT px3) = (0, 0) := by kernel_rfl
theorem px3_t : resT (parseT px3) = arrowT (nameT [97]) intT := by kernel_rfl
theorem first7_spec (g : Ghost) (hg : ErrT g) : SpecN Tryz.prog 8 [] g fun v _ => v = .bool true := by
 refine spec_of_run Tryz.func8 rfl Tryz.ntmps8 rfl fun E hE => ?_
 refine r_sr ?_
 refine r_ev rfl rfl <| r_nn <| r_sr ?_
 refine r_callN rfl rfl (Parse_spec g hg px1 (by decide)) ?_
 unfold postPar
 rw [px1_f]
 rintro _ g1 ⟨pv, rfl, hV⟩ hle1
 have hg1 := hg.mono hle1
 obtain ⟨cs, rfl, sd, xd, sb, xb, rfl, h1, h2, h3, h4⟩ := hV
 have hbn := px1_n
 generalize resP (parseR px1) = P1 at h1 h2 h3 h4 hbn
 have hb1 : P1.binds.length = 1 := by simpa using congrArg List.length hbn
 have hb2 : P1.binds[0].name = [105, 100] := by
  have := congrArg (fun l => l[0]?) hbn
  simpa [hb1] using this
 rw [hb1] at h3
 obtain ⟨da, dc, rfl⟩ := slForm2 h1
 obtain ⟨ba, bc, rfl⟩ := slForm2 h3
 unfold fltV
 refine r_ev rfl rfl <| r_ev rfl rfl <| r_ev rfl rfl ?_
 refine r_alloc rfl (fun b1 => ?_)
 skip
 refine r_alloc rfl (fun b2 => ?_)
 refine r_storeA 1 rfl rfl rfl rfl (by rfl) (by repeat' (first | exact rfl | assumption | refine all_cons ?_ ?_)) rfl ?_; refine r_storeA 0 rfl rfl rfl rfl (by rfl) (by repeat' (first | exact rfl | assumption | refine all_cons ?_ ?_)) rfl ?_; refine r_nn <| r_sr ?_
 refine r_callN rfl rfl (Parse_spec g1 hg1 px2 (by decide)) ?_
 unfold postPar
 rw [px2_f]
 rintro _ g2 ⟨pv2, rfl, hV2⟩ hle2
 have hg2 := hg1.mono hle2
 obtain ⟨cs2, rfl, sd2, xd2, sb2, xb2, rfl, k1, k2, k3, k4⟩ := hV2
 generalize resP (parseR px2) = P2 at k1 k2 k3 k4
 obtain ⟨da2, dc2, rfl⟩ := slForm2 k1
 obtain ⟨ba2, bc2, rfl⟩ := slForm2 k3
 unfold fltV
 refine r_ev rfl rfl <| r_ev rfl rfl <| r_ev rfl rfl ?_
 refine r_alloc rfl (fun b3 => ?_)
 skip
 refine r_alloc rfl (fun b4 => ?_)
 refine r_storeA 1 rfl rfl rfl rfl (by rfl) (by repeat' (first | exact rfl | assumption | refine all_cons ?_ ?_)) rfl ?_; refine r_storeA 0 rfl rfl rfl rfl (by rfl) (by repeat' (first | exact rfl | assumption | refine all_cons ?_ ?_)) rfl ?_; refine r_nn <| r_sr ?_
 refine r_callN rfl rfl (ParseType_spec g2 hg2 px3 (by decide)) ?_
 unfold postTy
 rw [px3_f, px3_t]
 rintro _ g3 ⟨tv, rfl, hT⟩ hle3
 obtain ⟨ya, ym, yc, rfl, he'⟩ := hT.cells5
 unfold fltV
 refine r_ev rfl rfl <| r_ev rfl rfl <| r_ev rfl rfl ?_
 refine r_alloc rfl (fun b5 => ?_)
 skip
 refine r_alloc rfl (fun b6 => ?_)
 obtain ⟨b, off, cap, hsl, hx⟩ := ((h3.mono hle2).mono hle3).held (show 0 < 1 by omega)
 cases hsl
 obtain ⟨c, e1, hr⟩ := all_rd (fun _ _ h => h.one.1) (bis_mono hle3 (bis_mono hle2 h4)) hx (show 0 < P1.binds.length by omega)
 obtain ⟨y1, y2, y3, y4, y5, y6, y7, y8, y9, y10, y11, y12, rfl, y13, y14⟩ := e1.form
 rw [hb2] at hr
 refine r_storeA 1 rfl rfl rfl rfl (by rfl) (by repeat' (first | exact rfl | assumption | refine all_cons ?_ ?_)) rfl ?_; refine r_storeA 0 rfl rfl rfl rfl (by rfl) (by repeat' (first | exact rfl | assumption | refine all_cons ?_ ?_)) rfl ?_; refine r_nn <| r_seq ?_
 refine h_beginE [] mixed (fun hG => ?_)
 refine h_takeXA 0 rfl (by kernel_rfl) rfl hG ?_; refine ⟨_, (val_fieldAddr rfl), ?_⟩; refine h_takeXA 1 rfl (by kernel_rfl) rfl hG ?_; refine ⟨_, (val_loadB1 4 rfl rfl rfl), ?_⟩; refine h_takeXA 2 rfl (by kernel_rfl) rfl hG ?_; refine ⟨_, (val_ev rfl), ?_⟩; refine h_takeXA 3 rfl (by kernel_rfl) rfl hG ?_; refine ⟨_, (val_ev rfl), ?_⟩; refine h_takeGXA 4 rfl rfl (by kernel_rfl) rfl hG ?_; refine ⟨_, (val_fieldAddr rfl), ?_⟩; refine h_takeGXA 5 rfl rfl (by kernel_rfl) rfl hG ?_; refine ⟨_, (val_loadB1 5 rfl rfl rfl), ?_⟩; refine h_takeGXA 6 rfl rfl (by kernel_rfl) rfl hG ?_; refine ⟨_, (val_len_sl rfl), ?_⟩; refine h_takeGXA 7 rfl rfl (by kernel_rfl) rfl hG ?_; refine ⟨_, (val_ev rfl), ?_⟩; refine h_takeXA 8 rfl (by kernel_rfl) rfl hG ?_; refine ⟨_, (val_ev rfl), ?_⟩; refine h_takeXA 9 rfl (by kernel_rfl) rfl hG ?_; refine ⟨_, (val_ev rfl), ?_⟩; refine h_takeGXA 10 rfl rfl (by kernel_rfl) rfl hG ?_; refine ⟨_, (val_fieldAddr rfl), ?_⟩; refine h_takeGXA 11 rfl rfl (by kernel_rfl) rfl hG ?_; refine ⟨_, (val_loadB1 5 rfl rfl rfl), ?_⟩
 refine h_takeGXA 12 rfl rfl (by kernel_rfl) rfl hG ⟨_, (val_indexAddr (j := 0) rfl rfl rfl (by decide)), ?_⟩
 refine h_takeGXA 13 rfl rfl (by kernel_rfl) rfl hG ?_; refine ⟨_, (val_fieldAddr rfl), ?_⟩
 refine h_takeGXA 14 rfl rfl (by kernel_rfl) rfl hG ⟨_, (val_load1 rfl ((hr _).at1 2 rfl)), ?_⟩
 refine h_takeGXA 15 rfl rfl (by kernel_rfl) rfl hG ?_; refine ⟨_, (val_ev rfl), ?_⟩; refine h_takeXA 16 rfl (by kernel_rfl) rfl hG ?_; refine ⟨_, (val_ev rfl), ?_⟩; refine h_takeXA 17 rfl (by kernel_rfl) rfl hG ?_; refine ⟨_, (val_ev rfl), ?_⟩; refine h_takeGXA 18 rfl rfl (by kernel_rfl) rfl hG ?_; refine ⟨_, (val_fieldAddr rfl), ?_⟩; refine h_takeGXA 19 rfl rfl (by kernel_rfl) rfl hG ?_; refine ⟨_, (val_loadB1 2 rfl rfl rfl), ?_⟩; refine h_takeGXA 20 rfl rfl (by kernel_rfl) rfl hG ?_; refine ⟨_, (val_ev rfl), ?_⟩; refine h_takeXA 21 rfl (by kernel_rfl) rfl hG ?_; refine ⟨_, (val_ev rfl), ?_⟩; refine h_takeXA 22 rfl (by kernel_rfl) rfl hG ?_; refine ⟨_, (val_ev rfl), ?_⟩; refine h_takeGXA 23 rfl rfl (by kernel_rfl) rfl hG ?_; refine ⟨_, (val_fieldAddr rfl), ?_⟩; refine h_takeGXA 24 rfl rfl (by kernel_rfl) rfl hG ?_; refine ⟨_, (val_loadB1 2 rfl rfl rfl), ?_⟩; refine h_takeGXA 25 rfl rfl (by kernel_rfl) rfl hG ?_; refine ⟨_, (val_ev rfl), ?_⟩; refine h_takeXA 26 rfl (by kernel_rfl) rfl hG ?_; refine ⟨_, (val_ev rfl), ?_⟩; refine h_takeXA 27 rfl (by kernel_rfl) rfl hG ?_; refine ⟨_, (val_ev rfl), ?_⟩; refine h_takeGXA 28 rfl rfl (by kernel_rfl) rfl hG ?_; refine ⟨_, (val_fieldAddr rfl), ?_⟩; refine h_takeGXA 29 rfl rfl (by kernel_rfl) rfl hG ?_; refine ⟨_, (val_loadB1 0 rfl rfl rfl), ?_⟩; refine h_takeGXA 30 rfl rfl (by kernel_rfl) rfl hG ?_; refine ⟨_, (val_ev rfl), ?_⟩; refine h_takeXA 31 rfl (by kernel_rfl) rfl hG ?_; refine ⟨_, (val_ev rfl), ?_⟩; refine h_takeXA 32 rfl (by kernel_rfl) rfl hG ?_; refine ⟨_, (val_ev rfl), ?_⟩; refine h_takeGXA 33 rfl rfl (by kernel_rfl) rfl hG ?_; refine ⟨_, (val_loadB 1 rfl rfl (by rfl)), ?_⟩
 refine h_one 34 (by kernel_rfl) rfl ?_
 refine r_take rfl ?_
 refine r_callP rfl rfl (rNamed_spec g3 [97]) ?_
 refine r_nn ?_
 refine h_keptA hG ?_
 refine h_one 35 (by kernel_rfl) rfl ?_
 refine r_take rfl ?_
 refine r_callN rfl rfl (rInt_spec g3) ?_
 rintro wi g4 hwi hle4
 refine r_nn ?_
 refine h_keptA hG ?_
 refine h_one 36 (by kernel_rfl) rfl ?_
 refine r_take rfl ?_
 refine r_callN rfl rfl (rArrow_spec g4 (nameT [97]) intT _ _ ⟨_, rfl, TyAt.mk (t := nameT [97]) (slNil g4 5) (tysNil g4)⟩ hwi) ?_
 rintro wa g5 hwa hle5
 have hle35 := Ghost.le_trans hle4 hle5
 refine r_nn ?_
 refine h_keptA hG ?_
 refine h_one 37 (by kernel_rfl) rfl ?_
 refine r_take rfl ?_
 refine r_callP rfl rfl (Equal_spec g5 _ _ _ ((hT.mono hle4).mono hle5) hwa) ?_
 refine r_nn ?_
 refine h_keptA hG ?_
 refine h_takeXA 38 rfl (by kernel_rfl) rfl hG ?_; refine ⟨_, (val_ev rfl), ?_⟩
 refine h_one 39 (by kernel_rfl) rfl ?_
 refine r_ev rfl rfl <| r_nn ?_
 refine h_keptA hG ?_
 refine h_done (by kernel_rfl) ?_
 refine r_then_normal <| r_retc ?_
 exact r_ret1 [] rfl rfl (by simp) ⟨rfl, rfl⟩
end Go.Proofs.YtpjehhnaojjanaaGreatDoor
-- sum 78aba54d84219165

/- Texts of expressions: the walks of typedholesref8.atom, closed and Expr. -/
namespace Go.Proofs.YtpjehhnaojjanaaGreatDoor
open Go Go.Eng Go.Th Go.Proofs
set_option maxRecDepth 10000
set_option maxHeartbeats 4000000
attribute [local irreducible] wpList Code.wp Run bodyPost Go.Eng.Ends Exit.then Exit.inBlock Again Wq Kq
end Go.Proofs.YtpjehhnaojjanaaGreatDoor
-- sum 4bc22af792e81142


/- The walks of chapter 6's laws: mutated; ReadexprTexts. -/
namespace Go.Th
end Go.Th
namespace Go.Proofs.YtpjehhnaojjanaaGreatDoor
open Go Go.Eng Go.Th Go.Proofs
set_option maxRecDepth 10000
set_option maxHeartbeats 4000000
attribute [local irreducible] wpList Code.wp Run bodyPost Go.Eng.Ends Exit.then Exit.inBlock Again Wq Kq
end Go.Proofs.YtpjehhnaojjanaaGreatDoor
-- sum 153cd9f60dc74edb

/- Nested expressions, their texts and what is read of them: plain. -/
namespace Go.Th
end Go.Th
namespace Go.Proofs.YtpjehhnaojjanaaGreatDoor
open Go Go.Eng Go.Th Go.Proofs
end Go.Proofs.YtpjehhnaojjanaaGreatDoor
-- sum ff3dda5e9675489c

/- The walks of typedholesref4.EqualProgram and of law 7's places. -/
namespace Go.Proofs.YtpjehhnaojjanaaGreatDoor
open Go Go.Eng Go.Th Go.Proofs
set_option maxRecDepth 10000
set_option maxHeartbeats 4000000
attribute [local irreducible] wpList Code.wp Run bodyPost Go.Eng.Ends Exit.then Exit.inBlock Again Wq Kq
structure SameP (p q : Pg) : Prop where
 dl : p.datas.length = q.datas.length
 bl : p.binds.length = q.binds.length
 d : ∀ i (h : i < p.datas.length) (h' : i < q.datas.length), p.datas[i].name = q.datas[i].name ∧ p.datas[i].params = q.datas[i].params ∧ p.datas[i].cons.length = q.datas[i].cons.length ∧
  ∀ k (h1 : k < p.datas[i].cons.length) (h2 : k < q.datas[i].cons.length), p.datas[i].cons[k].name = q.datas[i].cons[k].name ∧ p.datas[i].cons[k].fields = q.datas[i].cons[k].fields
 b : ∀ i (h : i < p.binds.length) (h' : i < q.binds.length), p.binds[i].isRec = q.binds[i].isRec ∧ p.binds[i].name = q.binds[i].name ∧ p.binds[i].hasSig = q.binds[i].hasSig ∧ p.binds[i].sig = q.binds[i].sig ∧ eraseE p.binds[i].body = eraseE q.binds[i].body ∧ sizeE p.binds[i].body ≤ 1000000 ∧ sizeE q.binds[i].body ≤ 1000000
theorem SameP.refl {p : Pg} (h : ∀ b ∈ p.binds, sizeE b.body ≤ 1000000) : SameP p p :=
 ⟨rfl, rfl, fun _ _ _ => ⟨rfl, rfl, rfl, fun _ _ _ => ⟨rfl, rfl⟩⟩, fun i h1 _ => ⟨rfl, rfl, rfl, rfl, rfl, h _ (List.getElem_mem h1), h _ (List.getElem_mem h1)⟩⟩
end Go.Proofs.YtpjehhnaojjanaaGreatDoor
-- sum 2f948454bee7f3b4

/- The walk of typedholesref4.EqualProgram. -/
namespace Go.Proofs.YtpjehhnaojjanaaGreatDoor
open Go Go.Eng Go.Th Go.Proofs
set_option maxRecDepth 10000
set_option maxHeartbeats 4000000
attribute [local irreducible] wpList Code.wp Run bodyPost Go.Eng.Ends Exit.then Exit.inBlock Again Wq Kq
end Go.Proofs.YtpjehhnaojjanaaGreatDoor
-- sum 9b5f67ccae9c4968

/- The walks of typedholeslaw7.nested and ReadprogramDeep. -/
namespace Go.Proofs.YtpjehhnaojjanaaGreatDoor
open Go Go.Eng Go.Th Go.Proofs
set_option maxRecDepth 10000
set_option maxHeartbeats 4000000
attribute [local irreducible] wpList Code.wp Run bodyPost Go.Eng.Ends Exit.then Exit.inBlock Again Wq Kq
theorem modI_lt4 (k : Int) (m : Int) (hm : 1 ≤ m) : 0 ≤ modI k m ∧ modI k m < m := by
 unfold modI
 rw [if_neg (by omega)]
 exact ⟨Int.emod_nonneg _ (by omega), Int.emod_lt_of_pos _ (by omega)⟩
theorem ExV.at_ {g : Ghost} {cs : List Value} {e : Ex} (h : ExV g (.agg cs.toArray) e) : ExAt g e cs := by
 obtain ⟨c, h1, h2⟩ := h
 have : cs = c := by
  have := Value.agg.inj h1
  simpa using this
 rw [this]; exact h2
end Go.Proofs.YtpjehhnaojjanaaGreatDoor
-- sum c9527861083fdcdc


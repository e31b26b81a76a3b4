/- The walks of typedholeslaw7.nested and ReadprogramDeep. -/
import Derived.Test.YtpjehhnaojjanaaGreatDoorK20
import Derived.Test.YtpjehhnaojjanaaGreatDoorK11
import Derived.Test.YtpjehhnaojjanaaGreatDoorK10
import Derived.Test.YtpjehhnaojjanaaGreatDoorRows
import Derived.LaidSub
import Derived.LaidLaws
import Derived.LaidHandle
import Derived.Stop.Joined
import Derived.Lay
namespace Go.Proofs.YtpjehhnaojjanaaGreatDoor
open Go Go.Eng Go.Th Go.Proofs
set_option maxRecDepth 10000
set_option maxHeartbeats 4000000
attribute [local irreducible] wpList Code.wp Run bodyPost Go.Eng.Ends Exit.then Exit.inBlock Again Wq Kq
theorem modI_lt4 (k : Int) (m : Int) (hm : 1 ≤ m) : 0 ≤ modI k m ∧ modI k m < m := by
 unfold modI
 rw [if_neg (by omega)]
 exact ⟨Int.emod_nonneg _ (by omega), Int.emod_lt_of_pos _ (by omega)⟩
theorem ExV.at_ {g : Ghost} {cs : List Value} {e : Ex} (h : ExV g (.agg cs.toArray) e) : ExAt g e cs := by
 obtain ⟨c, h1, h2⟩ := h
 have : cs = c := by
  have := Value.agg.inj h1
  simpa using this
 rw [this]; exact h2
theorem nested_spec (g : Ghost) (way : Int) (w : Nat) (hw : modI way 4 = w) (n : Nat) (hn : n ≤ 100) : SpecN Tryz.prog 21 [.int .i64 way, .int .i64 n] g fun v g' => ExV g' v (nestE w n) := by
 have hw4 := modI_lt4 way 4 (by omega)
 refine spec_of_run Tryz.func21 rfl Tryz.ntmps21 rfl fun E hE => ?_
 refine r_sr ?_
 refine r_alloc rfl (fun b4 => ?_)
 refine r_nn <| r_sr <| r_build rfl rfl (by rfl) ?_
 refine r_alloc rfl (fun b5 => ?_)
 refine r_storeA 0 rfl rfl rfl rfl (by rfl) (by repeat' (first | exact rfl | assumption | refine all_cons ?_ ?_)) rfl ?_; refine r_nn <| r_seq <| r_sr <| r_ev rfl rfl <| r_nn <| r_block ?_
 refine r_loop (ι := Nat × Ghost × List Value) (fun o => [(0, .int .i64 way), (1, .int .i64 n), (4, ptr b4 0), (5, ptr b5 0), (6, .int .i64 o.1)]) (fun o => o.2.1) (fun o => [.blk b5 51 o.2.2, .blk b4 51 noEc]) (fun o => o.1 ≤ n ∧ ExAt o.2.1 (nestE w o.1) o.2.2) (fun o => n - o.1) (0, g, _) ⟨by omega, (ExAt.mk (e := nestE w 0) (slNil g 11) (exsNil g) (slNil g 14) (arsNil g) (TyAt.mk (t := noT) (slNil g 5) (tysNil g)))⟩ ⟨rfl, rfl, rfl, rfl, rfl, trivial⟩ rfl rfl ?_
 rintro ⟨k, g1, cs⟩ ⟨hk, hx⟩
 simp only at hk hx
 obtain ⟨a1, m1, c1, a2, m2, c2, a3, m3, c3, xk, xa, rfl, _⟩ := id hx.form
 show Run E _ [(0, .int .i64 way), (1, .int .i64 n), (4, ptr b4 0), (5, ptr b5 0), (6, .int .i64 k)] g1 [.blk b5 51 _, .blk b4 51 noEc] _
 refine r_seq <| r_sr <| r_ev rfl rfl <| r_ev rfl rfl <| r_ev rfl rfl <| r_nn ?_
 refine r_cond rfl (fun hlt => ?_) (fun hlt => ?_)
 ·have hlt' : k < n := by omega
  refine r_skip <| r_then_normal <| r_seq <| r_block <| r_sr <| r_ev rfl rfl ?_
  refine r_callP rfl rfl (Mod_spec g1 way 4 (by omega)) ?_
  rw [hw]
  rw [hw] at hw4
  have hc : w = 0 ∨ w = 1 ∨ w = 2 ∨ w = 3 := by omega
  rcases hc with rfl | rfl | rfl | rfl
  ·
   refine r_nn <| r_block <| r_sr <| r_ev rfl rfl <| r_ev rfl rfl <| r_nn <| r_cond_true rfl <| r_region <| r_loadB 0 rfl rfl rfl (by rfl) ?_
   refine r_buildSlice rfl rfl (by rfl) (by rfl) (by rfl) (by rfl) (by rfl) (fun b => ?_)
   refine r_publishRow (fun g2 hle2 hs2 => ?_)
   refine r_build rfl rfl (by rfl) ?_; refine r_storeA 0 rfl rfl rfl rfl (by rfl) (by repeat' (first | exact rfl | assumption | refine all_cons ?_ ?_)) rfl ?_; refine r_nil <| r_in_normal <| r_in_normal <| r_then_normal <| r_region <| r_ev rfl rfl <| r_add rfl rfl rfl (by omega) ?_; refine r_ev rfl rfl <| r_nn ?_
   exact r_again (k + 1, g2, _) ⟨by omega, (kidsE_V g2 4 0 [120] hs2 (exs1 (hx.mono hle2))).at_⟩ (by simp only; omega) ⟨rfl, rfl, rfl, rfl, rfl, trivial⟩ rfl rfl
  ·
   refine r_nn <| r_block <| r_sr <| r_ev rfl rfl <| r_ev rfl rfl <| r_nn <| r_cond_false rfl <| r_sr <| r_ev rfl rfl <| r_ev rfl rfl <| r_nn <| r_cond_true rfl <| r_region <| r_loadB 0 rfl rfl rfl (by rfl) ?_; refine r_build rfl rfl (by rfl) ?_
   refine r_buildSlice rfl rfl (by rfl) (by rfl) (by rfl) (by rfl) (by rfl) (fun b => ?_)
   refine r_publishRow (fun g2 hle2 hs2 => ?_)
   refine r_build rfl rfl (by rfl) ?_; refine r_storeA 0 rfl rfl rfl rfl (by rfl) (by repeat' (first | exact rfl | assumption | refine all_cons ?_ ?_)) rfl ?_; refine r_nil <| r_in_normal <| r_in_normal <| r_then_normal <| r_region <| r_ev rfl rfl <| r_add rfl rfl rfl (by omega) ?_; refine r_ev rfl rfl <| r_nn ?_
   exact r_again (k + 1, g2, _) ⟨by omega, (kidsE_V g2 5 0 [] hs2 (exs2 (hx.mono hle2) (leafE_V g2 3 0 [] 1).at_)).at_⟩ (by simp only; omega) ⟨rfl, rfl, rfl, rfl, rfl, trivial⟩ rfl rfl
  ·
   refine r_nn <| r_block <| r_sr <| r_ev rfl rfl <| r_ev rfl rfl <| r_nn <| r_cond_false rfl <| r_sr <| r_ev rfl rfl <| r_ev rfl rfl <| r_nn <| r_cond_false rfl <| r_sr <| r_ev rfl rfl ?_; refine r_ev rfl rfl <| r_nn <| r_cond_true rfl <| r_region <| r_build rfl rfl (by rfl) ?_
   refine r_buildSlice rfl rfl (by rfl) (by rfl) (by rfl) (by rfl) (by rfl) (fun b => ?_)
   refine r_publishRow (fun g2 hle2 hs2 => ?_)
   refine r_loadB 0 rfl rfl rfl (by rfl) ?_; refine r_build rfl rfl (by rfl) ?_
   refine r_buildSlice rfl rfl (by rfl) (by rfl) (by rfl) (by rfl) (by rfl) (fun b' => ?_)
   refine r_publishRow (fun g3 hle3 hs3 => ?_)
   refine r_build rfl rfl (by rfl) ?_; refine r_storeA 0 rfl rfl rfl rfl (by rfl) (by repeat' (first | exact rfl | assumption | refine all_cons ?_ ?_)) rfl ?_; refine r_nil <| r_in_normal <| r_in_normal <| r_then_normal <| r_region <| r_ev rfl rfl <| r_add rfl rfl rfl (by omega) ?_; refine r_ev rfl rfl <| r_nn ?_
   exact r_again (k + 1, g3, _) ⟨by omega, caseE_V (hs2.mono hle3) (leafE_V g3 10 0 [] 0).at_ hs3 (ars_snoc (p := 0) (c := [65]) (vs := []) (arsNil g3) (slNil g3 1) ((hx.mono hle2).mono hle3))⟩ (by simp only; omega) ⟨rfl, rfl, rfl, rfl, rfl, trivial⟩ rfl rfl
  ·
   refine r_nn <| r_block <| r_sr <| r_ev rfl rfl <| r_ev rfl rfl <| r_nn <| r_cond_false rfl <| r_sr <| r_ev rfl rfl <| r_ev rfl rfl <| r_nn <| r_cond_false rfl <| r_sr <| r_ev rfl rfl ?_; refine r_ev rfl rfl <| r_nn <| r_cond_false rfl <| r_sr <| r_ev rfl rfl <| r_ev rfl rfl <| r_nn <| r_cond_true rfl <| r_region <| r_loadB 0 rfl rfl rfl (by rfl) ?_; refine r_build rfl rfl (by rfl) ?_
   refine r_buildSlice rfl rfl (by rfl) (by rfl) (by rfl) (by rfl) (by rfl) (fun b => ?_)
   refine r_publishRow (fun g2 hle2 hs2 => ?_)
   refine r_build rfl rfl (by rfl) ?_; refine r_storeA 0 rfl rfl rfl rfl (by rfl) (by repeat' (first | exact rfl | assumption | refine all_cons ?_ ?_)) rfl ?_; refine r_nil <| r_in_normal <| r_in_normal <| r_then_normal <| r_region <| r_ev rfl rfl <| r_add rfl rfl rfl (by omega) ?_; refine r_ev rfl rfl <| r_nn ?_
   exact r_again (k + 1, g2, _) ⟨by omega, (kidsE_V g2 6 0 [121] hs2 (exs2 (hx.mono hle2) (leafE_V g2 10 0 [] 0).at_)).at_⟩ (by simp only; omega) ⟨rfl, rfl, rfl, rfl, rfl, trivial⟩ rfl rfl
 ·obtain rfl : k = n := by omega
  refine r_exit <| r_then_exit <| r_then_exit <| r_in_exit <| r_then_normal <| r_sr <| r_loadB 0 rfl rfl rfl (by rfl) ?_; refine r_storeA 1 rfl rfl rfl rfl (by rfl) (by repeat' (first | exact rfl | assumption | refine all_cons ?_ ?_)) rfl ?_; refine r_nn <| r_retc ?_
  exact r_retA [] rfl (res_blk 1 rfl rfl (by rfl)) (List.nil_sublist _) ⟨⟨_, rfl, hx⟩, rfl⟩
theorem ReadprogramDeep_spec (g : Ghost) (hg : ErrT g) (way : Int) (_hw : -9223372036854775808 ≤ way ∧ way ≤ 9223372036854775807) (n : Int) (_hn : -9223372036854775808 ≤ n ∧ n ≤ 9223372036854775807) (typed : Bool) : Pure Tryz.prog 6 [.int .i64 way, .int .i64 n, .bool typed] g (.bool true) := by
 obtain ⟨w, hw⟩ : ∃ w : Nat, modI way 4 = w := ⟨(modI way 4).toNat, by have := modI_lt4 way 4 (by omega); omega⟩
 have hw4 : w < 4 := by have := modI_lt4 way 4 (by omega); omega
 obtain ⟨i, hi⟩ : ∃ i : Nat, modI n 5 = i := ⟨(modI n 5).toNat, by have := modI_lt4 n 5 (by omega); omega⟩
 have hi5 : i < 5 := by have := modI_lt4 n 5 (by omega); omega
 refine spec_of_run Tryz.func6 rfl Tryz.ntmps6 rfl fun E hE => ?_
 refine r_sr ?_
 refine r_ev rfl rfl <| r_nn <| r_seq <| r_sr ?_
 refine r_callN rfl rfl (first7_spec g hg) ?_
 rintro _ g1 rfl hle1
 have hg1 := hg.mono hle1
 refine r_ev rfl rfl <| r_nn <| r_cond_false rfl <| r_skip <| r_then_normal <| r_sr <| r_ev rfl rfl ?_
 refine r_callP rfl rfl (Mod_spec g1 n 5 (by omega)) ?_
 rw [hi]
 refine r_add rfl rfl rfl (by omega) ?_; refine r_ev rfl rfl <| r_nn <| r_sr <| r_ev rfl rfl <| r_ev rfl rfl ?_
 rw [show (38 : Int) + (i : Int) = ((38 + i : Nat) : Int) by omega]
 refine r_callN rfl rfl (nested_spec g1 way w hw (38 + i) (by omega)) ?_
 rintro ve g2 hve hle2
 have hok0 := nest_ok hw4 hi5
 generalize nestE w (38 + i) = e0 at hve hok0
 obtain ⟨a1, m1, c1, a2, m2, c2, a3, m3, c3, rfl, hve'⟩ := hve.form
 skip
 refine r_alloc rfl (fun b8 => ?_)
 refine r_storeA 0 rfl rfl rfl rfl (by rfl) rfl rfl ?_; refine r_nn ?_
 refine r_sr ?_
 refine r_ev rfl rfl <| r_ev rfl rfl <| r_ev rfl rfl <| r_nn ?_
 have hle12 := Ghost.le_trans hle1 hle2
 refine r_cutG (ι := Ex × List Value × Ghost) (fun p => [(8, ptr b8 0), (9, .bool (decide (((38 + i : Nat) : Int) > 40)))]) (fun p => p.2.2) (fun p => [.blk b8 51 p.2.1]) (fun p => DeepOk p.1 i ∧ ExAt p.2.2 p.1 p.2.1 ∧ Ghost.le g p.2.2) ?_ ?_
 ·rintro ⟨e, ec, g3⟩ ⟨hok, he, hle3⟩
  simp only at hok he hle3
  obtain ⟨a1, m1, c1, a2, m2, c2, a3, m3, c3, xk, xa, rfl, _⟩ := id he.form
  show Run E _ [(8, ptr b8 0), (9, .bool (decide (((38 + i : Nat) : Int) > 40)))] g3 [.blk b8 51 _] _
  have hlen := hok.l
  have hg3 := hg.mono hle3
  refine r_sr <| r_loadB 0 rfl rfl rfl (by rfl) ?_
  refine r_callP rfl rfl (Expr8_spec g3 e _ hok.g (by omega) ⟨_, rfl, he⟩) ?_
  refine r_ev rfl rfl <| r_nn <| r_sr <| r_ev rfl rfl ?_
  refine r_callN rfl rfl (ParseExpr_spec g3 hg3 (showE e) (by omega)) ?_
  unfold postEx
  rintro _ g4 ⟨pv, rfl, hV⟩ hle4
  obtain ⟨e1, e2, e3, e4, e5, e6, e7, e8, e9, rfl, hVt⟩ := hV.form
  unfold fltV
  refine r_ev rfl rfl <| r_ev rfl rfl <| r_ev rfl rfl ?_
  refine r_alloc rfl (fun b15 => ?_)
  skip
  refine r_alloc rfl (fun b16 => ?_)
  refine r_storeA 1 rfl rfl rfl rfl (by rfl) (by repeat' (first | exact rfl | assumption | refine all_cons ?_ ?_)) rfl ?_; refine r_storeA 0 rfl rfl rfl rfl (by rfl) (by repeat' (first | exact rfl | assumption | refine all_cons ?_ ?_)) rfl ?_; refine r_nn <| r_sr <| r_ev rfl rfl ?_
  refine r_add_str rfl rfl rfl (by simp; omega) ?_
  refine r_add_str rfl rfl rfl (by simp; omega) ?_
  refine r_callN rfl rfl (Parse_spec g4 (hg3.mono hle4) (letS (showE e)) (by simp [letS]; omega)) ?_
  unfold postPar
  rintro _ g5 ⟨pv, rfl, hP⟩ hle5
  obtain ⟨cs, rfl, sd, xd, sb, xb, rfl, h1, h2, h3, h4⟩ := hP
  obtain ⟨da, dc, rfl⟩ := slForm2 h1
  obtain ⟨ba, bc, rfl⟩ := slForm2 h3
  have hle35 := Ghost.le_trans hle3 (Ghost.le_trans hle4 hle5)
  unfold fltV
  refine r_ev rfl rfl <| r_ev rfl rfl <| r_ev rfl rfl ?_
  refine r_alloc rfl (fun b17 => ?_)
  skip
  refine r_alloc rfl (fun b18 => ?_)
  refine r_storeA 1 rfl rfl rfl rfl (by rfl) rfl rfl ?_; refine r_storeA 0 rfl rfl rfl rfl (by rfl) rfl rfl ?_; refine r_nn ?_
  rcases Nat.lt_or_ge i 3 with hi3 | hi3
  ·have hsame := deep_same hok hi3
   have hf := hok.f
   have hp := hok.p
   rw [if_pos hi3] at hf hp
   rw [hf, hp]
   refine r_seq <| r_sr <| r_ev rfl rfl <| r_ev rfl rfl <| r_nn ?_
   refine r_condb rfl (fun hd => ?_) (fun hd => ?_)
   ·refine r_sr <| r_fieldAddr rfl rfl <| r_loadB1 2 rfl rfl rfl rfl <| r_ev rfl rfl <| r_ev rfl rfl <| r_take rfl <| r_loadB 3 rfl rfl rfl (by rfl) ?_; refine r_take rfl <| r_loadB 4 rfl rfl rfl (by rfl) ?_; refine r_take rfl ?_
    refine r_callP rfl rfl (Equal4_spec g5 _ _ _ _ hsame.2.2 hsame.2.1 hsame.1 ⟨_, rfl, ExAt.mono hle5 _ _ hVt⟩ ⟨_, rfl, ExAt.mono (Ghost.le_trans hle4 hle5) _ _ he⟩) ?_
    refine r_ev rfl rfl <| r_ev rfl rfl <| r_take rfl <| r_fieldAddr rfl rfl <| r_take rfl <| r_loadB1 0 rfl rfl rfl rfl <| r_tev rfl rfl rfl <| r_ev rfl rfl <| r_ev rfl rfl <| r_nn <| r_retc <| r_then_ret ?_
    refine r_shrink hE hle35 ?_
    exact r_ret1 [] rfl rfl (List.nil_sublist _) ⟨rfl, rfl, rfl⟩
   ·exact absurd hi3 (by simp at hd; omega)
  ·have hf := hok.f
   have hp := hok.p
   rw [if_neg (by omega)] at hf hp
   rw [hf, hp]
   refine r_seq <| r_sr <| r_ev rfl rfl <| r_ev rfl rfl <| r_nn ?_
   refine r_condb rfl (fun hd => ?_) (fun hd => ?_)
   ·exact absurd hi3 (by simp at hd; omega)
   ·refine r_skip <| r_then_normal <| r_sr <| r_fieldAddr rfl rfl <| r_loadB1 2 rfl rfl rfl rfl <| r_ev rfl rfl <| r_ev rfl rfl <| r_take rfl <| r_fieldAddr rfl rfl <| r_take rfl <| r_loadB1 2 rfl rfl rfl rfl <| r_tev rfl rfl rfl <| r_ev rfl rfl <| r_ev rfl rfl ?_; refine r_take rfl <| r_fieldAddr rfl rfl <| r_take rfl <| r_loadB1 0 rfl rfl rfl rfl <| r_tev rfl rfl rfl <| r_ev rfl rfl <| r_ev rfl rfl <| r_take rfl <| r_fieldAddr rfl rfl <| r_take rfl <| r_loadB1 0 rfl rfl rfl rfl <| r_tev rfl rfl rfl <| r_ev rfl rfl <| r_ev rfl rfl ?_; refine r_nn <| r_retc ?_
    refine r_shrink hE hle35 ?_
    exact r_ret1 [] rfl rfl (List.nil_sublist _) ⟨rfl, rfl, rfl⟩
 ·intro K hK
  refine r_sr <| r_ev rfl rfl <| r_nn ?_
  refine r_condb rfl (fun hty => ?_) (fun hty => ?_)
  ·obtain ⟨hok1, htl, hft⟩ := ann_ok hi5
   refine r_sr ?_
   refine r_callN rfl rfl (rInt_spec g2) ?_
   rintro wt g3 hwt hle3
   obtain ⟨ya, ym, yc, rfl, ht3⟩ := hwt.cells5
   skip
   refine r_alloc rfl (fun b10 => ?_)
   refine r_storeA 0 rfl rfl rfl rfl (by rfl) (by repeat' (first | exact rfl | assumption | refine all_cons ?_ ?_)) rfl ?_; refine r_nn <| r_seq <| r_sr <| r_ev rfl rfl <| r_nn <| r_block ?_
   refine r_loop (ι := Nat × Ghost × List Value) (fun o => [(7, .int .i64 (38 + i : Nat)), (8, ptr b8 0), (9, .bool (decide (((38 + i : Nat) : Int) > 40))), (10, ptr b10 0), (11, .int .i64 o.1)]) (fun o => o.2.1) (fun o => [.blk b10 49 o.2.2, .blk b8 51 _]) (fun o => o.1 ≤ 38 + i ∧ Ghost.le g2 o.2.1 ∧ TyAt o.2.1 (arrN o.1) o.2.2) (fun o => 38 + i - o.1) (0, g3, _) ⟨by omega, hle3, ht3⟩ ⟨rfl, rfl, rfl, rfl, rfl, trivial⟩ rfl rfl ?_
   rintro ⟨k, g4, cs⟩ ⟨hk, hle4, ht4⟩
   simp only at hk hle4 ht4
   obtain ⟨sl4, rfl⟩ := ht4.cells
   obtain ⟨_, hq4, _⟩ := ht4.args
   obtain ⟨u4, w4, rfl⟩ := slForm2 hq4
   show Run E _ [(7, .int .i64 (38 + i : Nat)), (8, ptr b8 0), (9, .bool (decide (((38 + i : Nat) : Int) > 40))), (10, ptr b10 0), (11, .int .i64 k)] g4 [.blk b10 49 _, .blk b8 51 _] _
   refine r_seq <| r_sr <| r_ev rfl rfl <| r_ev rfl rfl <| r_ev rfl rfl <| r_nn ?_
   refine r_cond rfl (fun hlt => ?_) (fun hlt => ?_)
   ·have hlt' : k < 38 + i := by omega
    refine r_skip <| r_then_normal <| r_seq <| r_block ?_
    refine m_begin 3 [] mixed (by kernel_rfl) (fun hG => ?_)
    refine m_takeXA 1 rfl (by kernel_rfl) rfl hG ?_; refine ⟨_, (val_loadB 0 rfl rfl (by rfl)), ?_⟩
    refine m_one 0 (by kernel_rfl) rfl rfl ?_
    refine r_callN rfl rfl (rInt_spec g4) ?_
    rintro wi g5 hwi hle5
    refine r_nn ?_
    refine h_keptA hG ?_
    refine m_one 2 (by kernel_rfl) rfl rfl ?_
    refine r_callN rfl rfl (rArrow_spec g5 intT (arrN k) _ _ hwi ⟨_, rfl, ht4.mono hle5⟩) ?_
    rintro wa g6 hwa hle6
    have hle46 := Ghost.le_trans hle5 hle6
    obtain ⟨za, zm, zc, rfl, ht6⟩ := hwa.cells5
    refine r_nn ?_
    refine h_keptA hG ?_
    refine m_done (by kernel_rfl) ?_
    refine r_storeA 0 rfl rfl rfl rfl (by rfl) (by repeat' (first | exact rfl | assumption | refine all_cons ?_ ?_)) rfl ?_; refine r_nil <| r_in_normal <| r_then_normal <| r_region <| r_ev rfl rfl <| r_add rfl rfl rfl (by omega) ?_; refine r_ev rfl rfl <| r_nn ?_
    exact r_again (k + 1, g6, _) ⟨by omega, Ghost.le_trans hle4 hle46, ht6⟩ (by simp only; omega) ⟨rfl, rfl, rfl, rfl, rfl, trivial⟩ rfl rfl
   ·obtain rfl : k = 38 + i := by omega
    refine r_exit <| r_then_exit <| r_then_exit <| r_in_exit <| r_then_normal <| r_sr <| r_build rfl rfl (by rfl) ?_
    refine r_buildSlice rfl rfl (by rfl) (by rfl) (by rfl) (by rfl) (by rfl) (fun b => ?_)
    refine r_publishRow (fun g5 hle5 hs5 => ?_)
    refine r_loadB 0 rfl rfl rfl (by rfl) ?_; refine r_build rfl rfl (by rfl) ?_; refine r_storeA 1 rfl rfl rfl rfl (by rfl) (by repeat' (first | exact rfl | assumption | refine all_cons ?_ ?_)) rfl ?_; refine r_nn <| r_sr <| r_loadB 0 rfl rfl rfl (by rfl) ?_
    refine r_callP rfl rfl (Type8_spec g5 _ _ (arrN_good _) (by omega) ⟨_, rfl, ht4.mono hle5⟩) ?_
    skip
    have hg5 := hg.mono (Ghost.le_trans hle12 (Ghost.le_trans hle4 hle5))
    refine r_callN rfl rfl (ParseType_spec g5 hg5 (showT (arrN (38 + i))) (by omega)) ?_
    unfold postTy
    rintro _ g6 ⟨tv, rfl, hT⟩ hle6
    obtain ⟨za, zm, zc, rfl, hT'⟩ := hT.cells5
    rw [hft]
    rcases Nat.lt_or_ge i 3 with hi3 | hi3
    ·rw [if_pos hi3]
     refine r_dec 9 rfl (fun hd => absurd hi3 (by omega)) (fun hd => ?_)
     unfold fltV
     refine r_ev rfl rfl <| r_ev rfl rfl <| r_ev rfl rfl ?_
     refine r_alloc rfl (fun b12 => ?_)
     skip
     refine r_alloc rfl (fun b13 => ?_)
     refine r_storeA 1 rfl rfl rfl rfl (by rfl) (by repeat' (first | exact rfl | assumption | refine all_cons ?_ ?_)) rfl ?_; refine r_storeA 0 rfl rfl rfl rfl (by rfl) (by repeat' (first | exact rfl | assumption | refine all_cons ?_ ?_)) rfl ?_; refine r_nn <| r_sr <| r_fieldAddr rfl rfl <| r_loadB1 0 rfl rfl rfl rfl <| r_ev rfl rfl <| r_ev rfl rfl <| r_v rfl (val_neq_bool rfl rfl (by kernel_rfl)) ?_; refine r_ev rfl rfl <| r_take rfl <| r_fieldAddr rfl rfl <| r_take rfl <| r_loadB1 0 rfl rfl rfl rfl <| r_tev rfl rfl rfl <| r_tev rfl rfl rfl <| r_pass rfl rfl rfl <| r_pass rfl rfl rfl <| r_tev rfl rfl rfl <| r_ev rfl rfl <| r_ev rfl rfl <| r_take rfl <| r_fieldAddr rfl rfl ?_; refine r_take rfl <| r_loadB1 0 rfl rfl rfl rfl <| r_tev rfl rfl rfl <| r_ev rfl rfl <| r_nn <| r_cond_false rfl <| r_skip <| r_then_normal ?_
     refine r_drop (own' := [_]) (.cons _ (.cons _ (.cons _ (.cons_cons _ (List.Sublist.refl _))))) ?_
     refine r_rw 9 rfl (v' := .bool (decide (((38 + i : Nat) : Int) > 40))) (by rw [decide_eq_false hd]) ?_
     exact hK (annN (38 + i), _, g6) _ ⟨hok1, ExAt.mono hle6 _ _ (annE_V g5 0 (arrN (38 + i)) hs5 (leafE_V g5 10 0 [] 0).at_ (ht4.mono hle5)).at_, Ghost.le_trans hle12 (Ghost.le_trans hle4 (Ghost.le_trans hle5 hle6))⟩ ⟨rfl, rfl, trivial⟩
    ·rw [if_neg (by omega)]
     refine r_dec 9 rfl (fun hd => ?_) (fun hd => absurd hi3 (by omega))
     unfold fltV
     refine r_ev rfl rfl <| r_ev rfl rfl <| r_ev rfl rfl ?_
     refine r_alloc rfl (fun b12 => ?_)
     skip
     refine r_alloc rfl (fun b13 => ?_)
     refine r_storeA 1 rfl rfl rfl rfl (by rfl) (by repeat' (first | exact rfl | assumption | refine all_cons ?_ ?_)) rfl ?_; refine r_storeA 0 rfl rfl rfl rfl (by rfl) (by repeat' (first | exact rfl | assumption | refine all_cons ?_ ?_)) rfl ?_; refine r_nn <| r_sr <| r_fieldAddr rfl rfl <| r_loadB1 0 rfl rfl rfl rfl <| r_ev rfl rfl <| r_ev rfl rfl <| r_v rfl (val_neq_bool rfl rfl (by kernel_rfl)) ?_; refine r_ev rfl rfl <| r_take rfl <| r_fieldAddr rfl rfl <| r_take rfl <| r_loadB1 0 rfl rfl rfl rfl <| r_tev rfl rfl rfl <| r_tev rfl rfl rfl <| r_tev rfl rfl rfl <| r_tev rfl rfl rfl <| r_tev rfl rfl rfl <| r_ev rfl rfl <| r_ev rfl rfl <| r_take rfl <| r_fieldAddr rfl rfl ?_; refine r_take rfl <| r_loadB1 0 rfl rfl rfl rfl <| r_tev rfl rfl rfl <| r_ev rfl rfl <| r_nn <| r_cond_false rfl <| r_skip <| r_then_normal ?_
     refine r_drop (own' := [_]) (.cons _ (.cons _ (.cons _ (.cons_cons _ (List.Sublist.refl _))))) ?_
     refine r_rw 9 rfl (v' := .bool (decide (((38 + i : Nat) : Int) > 40))) (by rw [decide_eq_true hd]) ?_
     exact hK (annN (38 + i), _, g6) _ ⟨hok1, ExAt.mono hle6 _ _ (annE_V g5 0 (arrN (38 + i)) hs5 (leafE_V g5 10 0 [] 0).at_ (ht4.mono hle5)).at_, Ghost.le_trans hle12 (Ghost.le_trans hle4 (Ghost.le_trans hle5 hle6))⟩ ⟨rfl, rfl, trivial⟩
  ·refine r_skip <| r_then_normal ?_
   exact hK (e0, _, g2) _ ⟨hok0, hve', hle12⟩ ⟨rfl, rfl, trivial⟩
end Go.Proofs.YtpjehhnaojjanaaGreatDoor
-- sum c9527861083fdcdc

/- The library's variable errors.errorType: from the rows' condition to what the walks need, and a world that meets it. -/
namespace Go.Proofs.YtpjehhnaojjanaaGreatDoor
open Go Go.Eng Go.Proofs Go.RowKit
theorem eT_g : Tryz.prog.globalNamed "errors.errorType" = some 0 := by kernel_rfl
theorem eT_rt : (Tryz.prog.cutTypes.find? (·.1 == "internal/reflectlite.rtype")).map (·.2) = some 253 := by kernel_rfl
theorem eT_row : ((List.range Tryz.prog.types.size).filter fun t => Tryz.prog.rowNamed t [101, 114, 114, 111, 114]) = [153] := by kernel_rfl
theorem errT_of {W : World} {L : List (String × DataW Unit)} (h : laidMetH Tryz.prog L W) (hm : ("errors.errorType", Rows.laid_errors_errorType) ∈ L) : ErrT (worldGhost W) := by
 obtain ⟨name, u, ty, e1, e2, e3, e4, e5⟩ := (laidMetH_iff.1 h).2 _ (List.mem_filter.2 ⟨hm, rfl⟩)
 have en : name = [101, 114, 114, 111, 114] := (Option.some.inj e1).symm
 subst en
 obtain rfl := Option.some.inj (eT_rt.symm.trans e2)
 have hm : ty ∈ (List.range Tryz.prog.types.size).filter fun t => Tryz.prog.rowNamed t [101, 114, 114, 111, 114] := List.mem_filter.2 ⟨List.mem_range.2 e3, e4⟩
 rw [eT_row] at hm
 obtain rfl := List.mem_singleton.1 hm
 show W.cell? _ = _
 simpa using World.var?_cell eT_g e5 0
noncomputable def laidWorldH (os : Os) : World :=
 let w0 := World.holding Tryz.prog os ⟨#[], #[], []⟩
 { w0 with heap := w0.heap.modify 0 fun
   | .cells _ t frozen => .cells #[rty 153] t frozen
   | o => o }
noncomputable def laidWorldA (os : Os) (L : List (String × DataW Unit)) : World := (laidWorldH os).layVars Tryz.prog L
theorem laidWorldA_os (os : Os) (L : List (String × DataW Unit)) : (laidWorldA os L).os = os := World.layVars_os _ _ _
theorem laidMetA {os : Os} {L : List (String × DataW Unit)} (args : Array Value) (hf : (laidWorldH os).layFits Tryz.prog L [] = true) (hi : (laidWorldH os).layIfaces Tryz.prog L (laidWorldA os L) = true) :
  laidMet Tryz.prog L ((laidWorldA os L).forCall (fun _ _ => 0) ⟨#[], args, []⟩).memory := by
 have e1 : (L.filter fun x => (L.map (·.1)).contains x.1) = L := List.filter_eq_self.2 fun x hx => List.contains_iff_mem.2 (List.mem_map.2 ⟨x, hx, rfl⟩)
 have e2 : (L.filter fun x => !(L.map (·.1)).contains x.1) = [] := List.filter_eq_nil_iff.2 fun x hx => by rw [List.contains_iff_mem.2 (List.mem_map.2 ⟨x, hx, rfl⟩)]; simp
 have h : laidMet Tryz.prog L (laidWorldA os L) := laidMet_layVars (w0 := laidWorldH os) (L.map (·.1)) [] (by rw [e1]; rfl) (by rw [e1]; exact hf) (by rw [e1]; exact hi) (by rw [e2]; exact LaidIn.none)
 exact h.of_heap (by simp [World.memory, World.forCall, Input.heap])
end Go.Proofs.YtpjehhnaojjanaaGreatDoor
-- sum 15bbee09bf3712fc


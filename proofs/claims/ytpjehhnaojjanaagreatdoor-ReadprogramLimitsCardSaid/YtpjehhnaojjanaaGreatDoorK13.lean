/- The walks of the reference's depth and width of expressions: typedholesref4.Depth; typedholesref7's deepType, deepExpr, wide. -/
import Derived.Test.YtpjehhnaojjanaaGreatDoorK12
import Derived.Test.YtpjehhnaojjanaaGreatDoorK6
namespace Go.Proofs.YtpjehhnaojjanaaGreatDoor
open Go Go.Eng Go.Th Go.Proofs
set_option maxRecDepth 10000
set_option maxHeartbeats 4000000
attribute [local irreducible] wpList Code.wp Run bodyPost Go.Eng.Ends Exit.then Exit.inBlock Again Wq Kq
theorem Depth4_aux : ∀ (N : Nat) (g : Ghost) (e : Ex) (v : Value), sizeE e < N → sizeE e ≤ 1000000 → ExV g v e → Pure Tryz.prog 107 [v] g (.int .i64 (depthE e))
 | 0, _, _, _, h, _, _ => by omega
 | N + 1, g, e, v, h, hsz, hv => by
  have ih := Depth4_aux N
  have hcl := childE_len e
  have hds := depthE_size e
  have hv0 := hv
  obtain ⟨a1, c1, a2, c2, a3, m3, c3, xk, xa, rfl, h1, h2, h3, h4, h5⟩ := hv.open
  rw [depthE_child] at hds ⊢
  refine spec_of_run Tryz.func107 rfl Tryz.ntmps107 rfl fun E hE => ?_
  refine r_sr ?_
  refine r_box rfl rfl rfl (fun b1 => ?_)
  refine r_ev rfl rfl <| r_nn <| r_sr <| r_ev rfl rfl <| r_nn <| r_sr <| r_loadB 0 rfl rfl rfl (by rfl) ?_
  refine r_callN rfl rfl (Children_spec g _ e hv0 hsz) ?_
  rintro w g1 ⟨xs, hs1, hx1⟩ hle1
  obtain ⟨sa, sc, rfl⟩ := slForm2 hs1
  refine r_ev rfl rfl <| r_nn <| r_seq <| r_sr <| r_ev rfl rfl <| r_nn <| r_block ?_
  refine r_drop (own' := []) (List.nil_sublist _) ?_
  refine r_loop (ι := Nat) (fun i => [(3, .int .i64 (depthEs ((childE e).take i))), (4, .slice sa (childE e).length sc), (5, .int .i64 i)]) (fun _ => g1) (fun _ => []) (fun i => i ≤ (childE e).length) (fun i => (childE e).length - i) 0 (Nat.zero_le _) ⟨rfl, rfl, rfl, trivial⟩ rfl rfl ?_
  intro i hi
  refine r_seq <| r_sr <| r_ev rfl rfl <| r_ev rfl rfl <| r_len_sl rfl rfl <| r_ev rfl rfl <| r_nn ?_
  refine r_cond rfl (fun hlt => ?_) (fun hlt => ?_)
  ·have hlt' : i < (childE e).length := by omega
   obtain ⟨b, off, cap, hsl, hxc⟩ := hs1.held hlt'
   cases hsl
   obtain ⟨cs, k1, hr⟩ := exs_rdA hx1 hxc hlt'
   have hsz2 := childE_size (List.getElem_mem hlt')
   have hsu := depthEs_succ hlt'
   have hdt := depthEs_take (childE e) (i + 1)
   refine r_skip <| r_then_normal <| r_seq <| r_block <| r_region <| r_ev rfl rfl <| r_ev rfl rfl <| r_ev rfl rfl <| r_indexAddr rfl rfl rfl rfl (by omega) ?_
   refine r_load rfl rfl (hr _) k1.one.1 ?_
   refine r_callP rfl rfl (ih g1 (childE e)[i] _ (by omega) (by omega) ⟨_, rfl, k1⟩) ?_
   refine r_add rfl rfl rfl (by omega) ?_; refine r_max rfl rfl rfl <| r_ev rfl rfl <| r_nil <| r_in_normal <| r_then_normal <| r_region <| r_ev rfl rfl <| r_add rfl rfl rfl (by omega) ?_; refine r_ev rfl rfl <| r_nn ?_
   refine r_again (i + 1) (by omega) (by omega) ⟨?_, rfl, rfl, trivial⟩ rfl rfl
   rw [hsu]
   refine lkInt rfl ?_
   omega
  ·have hil : i = (childE e).length := by omega
   subst hil
   refine r_exit <| r_then_exit <| r_then_exit <| r_in_exit <| r_then_normal <| r_sr <| r_ev rfl rfl <| r_ev rfl rfl <| r_nn <| r_retc ?_
   refine r_shrink hE hle1 ?_
   exact r_ret1 [] rfl rfl (by simp) ⟨by rw [List.take_length], rfl, rfl⟩
theorem Depth4_spec (g : Ghost) (e : Ex) (v : Value) (hsz : sizeE e ≤ 1000000) (hv : ExV g v e) : Pure Tryz.prog 107 [v] g (.int .i64 (depthE e)) := Depth4_aux _ g e v (Nat.lt_succ_self _) hsz hv
theorem deepTy7_aux (M : Nat) (hM : M ≤ 1000000) : ∀ (N : Nat) (g : Ghost) (e : Ex) (v : Value), sizeE e < N → sizeE e ≤ 1000000 → WfE M e → ExV g v e → Pure Tryz.prog 108 [v] g (.bool (deepTy e))
 | 0, _, _, _, h, _, _, _ => by omega
 | N + 1, g, e, v, h, hsz, hwf, hv => by
  have ih := deepTy7_aux M hM N
  have hv0 := hv
  have hp1 := hwf.p1
  have hp2 := hwf.p2
  have hcl := childE_len e
  obtain ⟨a1, c1, a2, c2, a3, m3, c3, xk, xa, rfl, h1, h2, h3, h4, h5⟩ := hv.open
  rw [deepTy_child]
  refine spec_of_run Tryz.func108 rfl Tryz.ntmps108 rfl fun E hE => ?_
  refine r_sr ?_
  refine r_box rfl rfl rfl (fun b1 => ?_)
  refine r_ev rfl rfl <| r_nn ?_
  refine r_cutG (ι := Unit) (fun _ => [(1, ptr b1 0)]) (fun _ => g) (fun _ => [.blk b1 51 [.int .i64 e.kind, .int .i64 e.pos, str e.name, .int .i64 e.num, .slice a1 e.kids.length c1, .slice a2 e.arms.length c2, .int .i64 e.ty.kind, str e.ty.name, .int .i64 e.ty.id, .int .i64 e.ty.home, .slice a3 m3 c3]]) (fun _ => decide (40 < depthT e.ty) = false) ?_ ?_
  ·rintro _ hb
   rw [hb, Bool.false_or]
   refine r_sr <| r_loadB 0 rfl rfl rfl (by rfl) ?_
   refine r_callN rfl rfl (Children_spec g _ e hv0 hsz) ?_
   rintro w g1 ⟨xs, hs1, hx1⟩ hle1
   obtain ⟨sa, sc, rfl⟩ := slForm2 hs1
   refine r_ev rfl rfl <| r_nn <| r_seq <| r_sr <| r_ev rfl rfl <| r_nn <| r_block ?_
   refine r_drop (own' := []) (List.nil_sublist _) ?_
   refine r_loop (ι := Nat) (fun i => [(3, .slice sa (childE e).length sc), (4, .int .i64 i)]) (fun _ => g1) (fun _ => []) (fun i => i ≤ (childE e).length ∧ deepTys (childE e) = deepTys ((childE e).drop i)) (fun i => (childE e).length - i) 0 ⟨Nat.zero_le _, by rw [List.drop_zero]⟩ ⟨rfl, rfl, trivial⟩ rfl rfl ?_
   rintro i ⟨hi, hj⟩
   refine r_seq <| r_sr <| r_ev rfl rfl <| r_ev rfl rfl <| r_len_sl rfl rfl <| r_ev rfl rfl <| r_nn ?_
   refine r_cond rfl (fun hlt => ?_) (fun hlt => ?_)
   ·have hlt' : i < (childE e).length := by omega
    obtain ⟨b, off, cap, hsl, hxc⟩ := hs1.held hlt'
    cases hsl
    obtain ⟨cs, k1, hr⟩ := exs_rdA hx1 hxc hlt'
    have hsz2 := childE_size (List.getElem_mem hlt')
    rw [deepTys_drop hlt'] at hj
    refine r_skip <| r_then_normal <| r_seq <| r_block <| r_sr <| r_ev rfl rfl <| r_ev rfl rfl <| r_indexAddr rfl rfl rfl rfl (by omega) ?_
    refine r_load rfl rfl (hr _) k1.one.1 ?_
    refine r_callP rfl rfl (ih g1 (childE e)[i] _ (by omega) (by omega) (hwf.p3 _ (List.getElem_mem hlt')) ⟨_, rfl, k1⟩) ?_
    cases hd : deepTy (childE e)[i] with
    | true =>
     rw [hd, Bool.true_or] at hj
     rw [hj]
     refine r_nn <| r_cond_true rfl <| r_sr <| r_ev rfl rfl <| r_nn <| r_retc <| r_in_ret <| r_then_ret <| r_then_ret <| r_in_ret <| r_then_ret ?_
     refine r_shrink hE hle1 ?_
     exact r_ret1 [] rfl rfl (by simp) ⟨rfl, rfl, rfl⟩
    | false =>
     rw [hd, Bool.false_or] at hj
     refine r_nn <| r_cond_false rfl <| r_skip <| r_in_normal <| r_then_normal <| r_region <| r_ev rfl rfl <| r_add rfl rfl rfl (by omega) ?_; refine r_ev rfl rfl <| r_nn ?_
     exact r_again (i + 1) ⟨by omega, hj⟩ (by omega) ⟨rfl, rfl, trivial⟩ rfl rfl
   ·have hil : i = (childE e).length := by omega
    rw [hil, List.drop_length] at hj
    rw [hj]
    refine r_exit <| r_then_exit <| r_then_exit <| r_in_exit <| r_then_normal <| r_sr <| r_ev rfl rfl <| r_nn <| r_retc ?_
    refine r_shrink hE hle1 ?_
    exact r_ret1 [] rfl rfl (by simp) ⟨by simp [deepTys], rfl, rfl⟩
  ·intro K hK
   refine r_sr <| r_fieldAddr rfl rfl <| r_loadB1 0 rfl rfl rfl rfl <| r_ev rfl rfl <| r_ev rfl rfl ?_
   refine r_gdec rfl rfl (fun h9 => ?_) (fun h9 => ?_)
   ·refine r_take rfl <| r_fieldAddr rfl rfl <| r_take rfl <| r_loadB 0 rfl rfl rfl (by rfl) ?_; refine r_take rfl ?_
    refine r_callP rfl rfl (Depth3_spec g e.ty _ (by omega) ⟨_, rfl, h5⟩) ?_
    refine r_tev rfl rfl rfl <| r_ev rfl rfl <| r_nn ?_
    refine r_cond rfl (fun hd => ?_) (fun hd => ?_)
    ·have hb : decide (40 < depthT e.ty) = true := decide_eq_true (by omega)
     rw [hb]
     refine r_sr <| r_ev rfl rfl <| r_nn <| r_retc <| r_then_ret ?_
     exact r_ret1 [] rfl rfl (by simp) ⟨rfl, rfl, rfl⟩
    ·refine r_skip <| r_then_normal ?_
     exact hK () _ (decide_eq_false (by omega)) ⟨rfl, trivial⟩
   ·have := hp1 h9
    refine r_pass rfl rfl rfl <| r_pass rfl rfl rfl <| r_pass rfl rfl rfl <| r_pass rfl rfl rfl <| r_ev rfl rfl <| r_nn <| r_cond_false rfl <| r_skip <| r_then_normal ?_
    exact hK () _ (decide_eq_false (by omega)) ⟨rfl, trivial⟩
theorem deepEx7_spec {M : Nat} (hM : M ≤ 1000000) (g : Ghost) (e : Ex) (v : Value) (hsz : sizeE e ≤ 1000000) (hwf : WfE M e) (hv : ExV g v e) : Pure Tryz.prog 57 [v] g (.bool (deepEx e)) := by
 have hv0 := hv
 obtain ⟨a1, c1, a2, c2, a3, m3, c3, xk, xa, rfl, h1, h2, h3, h4, h5⟩ := hv.open
 unfold deepEx
 refine spec_of_run Tryz.func57 rfl Tryz.ntmps57 rfl fun E hE => ?_
 refine r_sr ?_
 refine r_box rfl rfl rfl (fun b1 => ?_)
 refine r_ev rfl rfl <| r_nn <| r_sr <| r_loadB 0 rfl rfl rfl (by rfl) ?_
 refine r_callP rfl rfl (Depth4_spec g e _ hsz hv0) ?_
 refine r_ev rfl rfl <| r_ev rfl rfl ?_
 refine r_gdec rfl rfl (fun hd => ?_) (fun hd => ?_)
 ·have hb : decide (40 < depthE e) = true := decide_eq_true (by omega)
  rw [hb]
  refine r_pass rfl rfl rfl <| r_pass rfl rfl rfl <| r_ev rfl rfl <| r_ev rfl rfl <| r_nn <| r_retc ?_
  exact r_ret1 [] rfl rfl (by simp) ⟨rfl, rfl, rfl⟩
 ·have hb : decide (40 < depthE e) = false := decide_eq_false (by omega)
  rw [hb]
  refine r_take rfl <| r_loadB 0 rfl rfl rfl (by rfl) ?_; refine r_take rfl ?_
  refine r_callP rfl rfl (deepTy7_aux M hM _ g e _ (Nat.lt_succ_self _) hsz hwf hv0) ?_
  refine r_ev rfl rfl <| r_ev rfl rfl <| r_nn <| r_retc ?_
  exact r_ret1 [] rfl rfl (by simp) ⟨by rw [Bool.false_or], rfl, rfl⟩
theorem wide7_aux : ∀ (N : Nat) (g : Ghost) (e : Ex) (v : Value), sizeE e < N → sizeE e ≤ 1000000 → ExV g v e → Pure Tryz.prog 58 [v] g (.tuple #[.int .i64 ((wideE e).getD 0), .bool (wideE e).isSome])
 | 0, _, _, _, h, _, _ => by omega
 | N + 1, g, e, v, h, hsz, hv => by
  have ih := wide7_aux N
  have hv0 := hv
  have hcl := childE_len e
  obtain ⟨a1, c1, a2, c2, a3, m3, c3, xk, xa, rfl, h1, h2, h3, h4, h5⟩ := hv.open
  have hle3 := h3.le
  rw [wideE_child]
  refine spec_of_run Tryz.func58 rfl Tryz.ntmps58 rfl fun E hE => ?_
  refine r_sr ?_
  refine r_box rfl rfl rfl (fun b1 => ?_)
  refine r_ev rfl rfl <| r_ev rfl rfl <| r_nn <| r_seq <| r_sr <| r_ev rfl rfl <| r_nn <| r_block ?_
  refine r_loop (ι := Nat) (fun i => [(1, ptr b1 0), (4, .int .i64 i)]) (fun _ => g) (fun _ => [.blk b1 51 [.int .i64 e.kind, .int .i64 e.pos, str e.name, .int .i64 e.num, .slice a1 e.kids.length c1, .slice a2 e.arms.length c2, .int .i64 e.ty.kind, str e.ty.name, .int .i64 e.ty.id, .int .i64 e.ty.home, .slice a3 m3 c3]]) (fun i => i ≤ e.arms.length ∧ firstW e.arms = firstW (e.arms.drop i)) (fun i => e.arms.length - i) 0 ⟨Nat.zero_le _, by rw [List.drop_zero]⟩ ⟨rfl, rfl, trivial⟩ rfl rfl ?_
  rintro i ⟨hi, hj⟩
  refine r_seq <| r_sr <| r_ev rfl rfl <| r_fieldAddr rfl rfl <| r_loadB1 0 rfl rfl rfl rfl <| r_len_sl rfl rfl <| r_ev rfl rfl <| r_nn ?_
  refine r_cond rfl (fun hlt => ?_) (fun hlt => ?_)
  ·have hlt' : i < e.arms.length := by omega
   obtain ⟨b, off, cap, hsl, hxx⟩ := h3.held hlt'
   cases hsl
   obtain ⟨slv, bc, hv1, hb2, hr⟩ := ars_rdA h4 hxx hlt'
   obtain ⟨va, vc, rfl⟩ := slForm2 hv1
   rw [firstW_drop hlt'] at hj
   refine r_skip <| r_then_normal <| r_seq <| r_block <| r_sr <| r_fieldAddr rfl rfl <| r_loadB1 0 rfl rfl rfl rfl <| r_ev rfl rfl <| r_indexAddr rfl rfl rfl rfl (by omega) ?_; refine r_fieldAddr rfl rfl ?_
   refine r_load1 rfl rfl ((hr _).at1 2 rfl) ?_
   refine r_len_sl rfl rfl <| r_ev rfl rfl <| r_nn ?_
   refine r_cond rfl (fun hw => ?_) (fun hw => ?_)
   ·rw [if_pos (by omega)] at hj
    rw [hj]
    refine r_sr <| r_fieldAddr rfl rfl <| r_loadB1 0 rfl rfl rfl rfl <| r_ev rfl rfl <| r_indexAddr rfl rfl rfl rfl (by omega) ?_; refine r_fieldAddr rfl rfl ?_
    refine r_load1 rfl rfl ((hr _).at1 0 rfl) ?_
    refine r_ev rfl rfl <| r_ev rfl rfl <| r_nn <| r_retc <| r_in_ret <| r_then_ret <| r_then_ret <| r_in_ret <| r_then_ret ?_
    exact r_ret2 [] rfl (.tmp rfl) (.tmp rfl) (by simp) ⟨rfl, rfl, rfl⟩
   ·rw [if_neg (by omega)] at hj
    refine r_skip <| r_in_normal <| r_then_normal <| r_region <| r_ev rfl rfl <| r_add rfl rfl rfl (by omega) ?_; refine r_ev rfl rfl <| r_nn ?_
    exact r_again (i + 1) ⟨by omega, hj⟩ (by omega) ⟨rfl, rfl, trivial⟩ rfl rfl
  ·have hil : i = e.arms.length := by omega
   rw [hil, List.drop_length] at hj
   rw [hj, show firstW [] = none from rfl, Option.none_or]
   refine r_exit <| r_then_exit <| r_then_exit <| r_in_exit <| r_then_normal <| r_sr <| r_loadB 0 rfl rfl rfl (by rfl) ?_
   refine r_callN rfl rfl (Children_spec g _ e hv0 hsz) ?_
   rintro w g1 ⟨xs, hs1, hx1⟩ hle1
   obtain ⟨sa, sc, rfl⟩ := slForm2 hs1
   refine r_ev rfl rfl <| r_nn <| r_seq <| r_sr <| r_ev rfl rfl <| r_nn <| r_block ?_
   refine r_drop (own' := []) (List.nil_sublist _) ?_
   refine r_loop (ι := Nat) (fun i => [(5, .slice sa (childE e).length sc), (6, .int .i64 i)]) (fun _ => g1) (fun _ => []) (fun i => i ≤ (childE e).length ∧ wideEs (childE e) = wideEs ((childE e).drop i)) (fun i => (childE e).length - i) 0 ⟨Nat.zero_le _, by rw [List.drop_zero]⟩ ⟨rfl, rfl, trivial⟩ rfl rfl ?_
   rintro i ⟨hi, hj⟩
   refine r_seq <| r_sr <| r_ev rfl rfl <| r_ev rfl rfl <| r_len_sl rfl rfl <| r_ev rfl rfl <| r_nn ?_
   refine r_cond rfl (fun hlt2 => ?_) (fun hlt2 => ?_)
   ·have hlt' : i < (childE e).length := by omega
    obtain ⟨b, off, cap, hsl, hxc⟩ := hs1.held hlt'
    cases hsl
    obtain ⟨cs, k1, hr⟩ := exs_rdA hx1 hxc hlt'
    have hsz2 := childE_size (List.getElem_mem hlt')
    rw [wideEs_drop hlt'] at hj
    refine r_skip <| r_then_normal <| r_seq <| r_block <| r_sr <| r_ev rfl rfl <| r_ev rfl rfl <| r_indexAddr rfl rfl rfl rfl (by omega) ?_
    refine r_load rfl rfl (hr _) k1.one.1 ?_
    refine r_callP rfl rfl (ih g1 (childE e)[i] _ (by omega) (by omega) ⟨_, rfl, k1⟩) ?_
    generalize wideE (childE e)[i] = o at hj
    cases o with
    | some q =>
     rw [hj]
     refine r_ev rfl rfl <| r_ev rfl rfl <| r_ev rfl rfl <| r_ev rfl rfl <| r_ev rfl rfl <| r_nn <| r_sr <| r_ev rfl rfl <| r_nn <| r_cond_true rfl <| r_sr <| r_ev rfl rfl <| r_ev rfl rfl <| r_ev rfl rfl ?_; refine r_nn <| r_retc <| r_in_ret <| r_then_ret <| r_then_ret <| r_in_ret <| r_then_ret ?_
     refine r_shrink hE hle1 ?_
     exact r_ret2 [] rfl (.tmp rfl) (.tmp rfl) (by simp) ⟨rfl, rfl, rfl⟩
    | none =>
     rw [Option.none_or] at hj
     refine r_ev rfl rfl <| r_ev rfl rfl <| r_ev rfl rfl <| r_ev rfl rfl <| r_ev rfl rfl <| r_nn <| r_sr <| r_ev rfl rfl <| r_nn <| r_cond_false rfl <| r_skip <| r_in_normal <| r_then_normal <| r_region ?_; refine r_ev rfl rfl <| r_add rfl rfl rfl (by omega) ?_; refine r_ev rfl rfl <| r_nn ?_
     exact r_again (i + 1) ⟨by omega, hj⟩ (by omega) ⟨rfl, rfl, trivial⟩ rfl rfl
   ·have hil : i = (childE e).length := by omega
    rw [hil, List.drop_length] at hj
    rw [hj, show wideEs [] = none from by simp [wideEs]]
    refine r_exit <| r_then_exit <| r_then_exit <| r_in_exit <| r_then_normal <| r_sr <| r_ev rfl rfl <| r_ev rfl rfl <| r_nn <| r_retc ?_
    refine r_shrink hE hle1 ?_
    exact r_ret2 [] rfl (.tmp rfl) (.tmp rfl) (by simp) ⟨rfl, rfl, rfl⟩
theorem wide7_spec (g : Ghost) (e : Ex) (v : Value) (hsz : sizeE e ≤ 1000000) (hv : ExV g v e) : Pure Tryz.prog 58 [v] g (.tuple #[.int .i64 ((wideE e).getD 0), .bool (wideE e).isSome]) := wide7_aux _ g e v (Nat.lt_succ_self _) hsz hv
end Go.Proofs.YtpjehhnaojjanaaGreatDoor
-- sum bf6e985a7d93f8a2

/- The walk of typedholesref7.Deep at any program. -/
namespace Go.Proofs.YtpjehhnaojjanaaGreatDoor
open Go Go.Eng Go.Th Go.Proofs
set_option maxRecDepth 10000
set_option maxHeartbeats 4000000
attribute [local irreducible] wpList Code.wp Run bodyPost Go.Eng.Ends Exit.then Exit.inBlock Again Wq Kq
theorem deepR_many {p : Pg} {q : Int} (h : manyP p = some q) : deepR p = (5, q) := by unfold deepR; rw [h]
theorem Deep7_spec (g : Ghost) (p : Pg) (v : Value) (hw : WfP p) (hv : PgV g v p) : Pure Tryz.prog 17 [v] g (fltV (deepR p)) := by
 obtain ⟨cs, rfl, sd, xd, sb, xb, rfl, h1, h2, h3, h4⟩ := hv
 obtain ⟨da, dc, rfl⟩ := slForm2 h1
 obtain ⟨ba, bc, rfl⟩ := slForm2 h3
 have hl1 := h1.le
 have hl3 := h3.le
 refine spec_of_run Tryz.func17 rfl Tryz.ntmps17 rfl fun E hE => ?_
 refine r_sr ?_
 refine r_box rfl rfl rfl (fun b1 => ?_)
 refine r_alloc rfl (fun b2 => ?_)
 refine r_nn <| r_seq <| r_sr <| r_ev rfl rfl <| r_nn <| r_block ?_
 refine r_loop (ι := Nat) (fun i => [(1, ptr b1 0), (2, ptr b2 0), (3, .int .i64 i)]) (fun _ => g) (fun _ => [.blk b2 32 [.int .i64 0, .int .i64 0], .blk b1 29 [.slice da p.datas.length dc, .slice ba p.binds.length bc]]) (fun i => i ≤ p.datas.length ∧ manyD 0 p.datas = manyD i (p.datas.drop i)) (fun i => p.datas.length - i) 0 ⟨Nat.zero_le _, by rw [List.drop_zero]⟩ ⟨rfl, rfl, rfl, trivial⟩ rfl rfl ?_
 rintro i ⟨hi, hj⟩
 refine r_seq <| r_sr <| r_ev rfl rfl <| r_fieldAddr rfl rfl <| r_loadB1 1 rfl rfl rfl rfl <| r_len_sl rfl rfl <| r_ev rfl rfl <| r_nn ?_
 refine r_cond rfl (fun hlt => ?_) (fun hlt => ?_)
 ·have hlt' : i < p.datas.length := by omega
  obtain ⟨b, off, cap, hsl, hx⟩ := h1.held hlt'
  cases hsl
  obtain ⟨c, e1, hr⟩ := all_rd (fun _ _ h => h.one.1) h2 hx hlt'
  obtain ⟨a1, c1, a2, c2, xc, rfl, _, e3, e4⟩ := e1.form
  have hle3 := e3.le
  rw [manyD_drop hlt'] at hj
  have found : (8 ≤ i ∨ 4 < p.datas[i].params.length ∨ 6 < p.datas[i].cons.length) → deepR p = (5, p.datas[i].pos) := fun h => by
   rw [if_pos h] at hj
   exact deepR_many (by unfold manyP; rw [hj]; rfl)
  refine r_skip <| r_then_normal <| r_seq <| r_block <| r_sr <| r_fieldAddr rfl rfl <| r_loadB1 1 rfl rfl rfl rfl <| r_ev rfl rfl <| r_indexAddr rfl rfl rfl rfl (by omega) ?_
  refine r_load rfl rfl (hr _) rfl ?_
  refine r_alloc rfl (fun b4 => ?_)
  refine r_storeA 0 rfl rfl rfl rfl (by rfl) (by repeat' (first | exact rfl | assumption | refine all_cons ?_ ?_)) rfl ?_; refine r_nn <| r_seq <| r_sr <| r_ev rfl rfl <| r_ev rfl rfl <| r_ev rfl rfl ?_
  refine r_gdec rfl rfl (fun h8 => ?_) (fun h8 => ?_)
  ·rw [found (by omega)]
   refine r_pass rfl rfl rfl <| r_pass rfl rfl rfl <| r_pass rfl rfl rfl <| r_pass rfl rfl rfl <| r_ev rfl rfl <| r_ev rfl rfl <| r_pass rfl rfl rfl <| r_pass rfl rfl rfl <| r_pass rfl rfl rfl <| r_pass rfl rfl rfl <| r_ev rfl rfl <| r_nn <| r_cond_true rfl <| r_sr ?_; refine r_fieldAddr rfl rfl <| r_loadB1 0 rfl rfl rfl rfl <| r_build rfl rfl (by rfl) ?_; refine r_storeA 1 rfl rfl rfl rfl (by rfl) (by repeat' (first | exact rfl | assumption | refine all_cons ?_ ?_)) rfl ?_; refine r_nn <| r_retc <| r_then_ret <| r_in_ret <| r_then_ret <| r_then_ret <| r_in_ret <| r_then_ret ?_
   exact r_retA [] rfl (res_blk 1 rfl rfl (by rfl)) (by simp) ⟨rfl, rfl, rfl⟩
  ·refine r_take rfl <| r_fieldAddr rfl rfl <| r_take rfl <| r_loadB1 0 rfl rfl rfl rfl <| r_take rfl <| r_len_sl rfl rfl <| r_tev rfl rfl rfl <| r_ev rfl rfl <| r_ev rfl rfl ?_
   refine r_gdec rfl rfl (fun hp => ?_) (fun hp => ?_)
   ·rw [found (by omega)]
    refine r_pass rfl rfl rfl <| r_pass rfl rfl rfl <| r_pass rfl rfl rfl <| r_pass rfl rfl rfl <| r_ev rfl rfl <| r_nn <| r_cond_true rfl <| r_sr <| r_fieldAddr rfl rfl <| r_loadB1 0 rfl rfl rfl rfl <| r_build rfl rfl (by rfl) ?_; refine r_storeA 1 rfl rfl rfl rfl (by rfl) (by repeat' (first | exact rfl | assumption | refine all_cons ?_ ?_)) rfl ?_; refine r_nn <| r_retc <| r_then_ret <| r_in_ret <| r_then_ret <| r_then_ret <| r_in_ret <| r_then_ret ?_
    exact r_retA [] rfl (res_blk 1 rfl rfl (by rfl)) (by simp) ⟨rfl, rfl, rfl⟩
   ·refine r_take rfl <| r_fieldAddr rfl rfl <| r_take rfl <| r_loadB1 0 rfl rfl rfl rfl <| r_take rfl <| r_len_sl rfl rfl <| r_tev rfl rfl rfl <| r_ev rfl rfl <| r_nn ?_
    refine r_cond rfl (fun hc => ?_) (fun hc => ?_)
    ·rw [found (by omega)]
     refine r_sr <| r_fieldAddr rfl rfl <| r_loadB1 0 rfl rfl rfl rfl <| r_build rfl rfl (by rfl) ?_; refine r_storeA 1 rfl rfl rfl rfl (by rfl) (by repeat' (first | exact rfl | assumption | refine all_cons ?_ ?_)) rfl ?_; refine r_nn <| r_retc <| r_then_ret <| r_in_ret <| r_then_ret <| r_then_ret <| r_in_ret <| r_then_ret ?_
     exact r_retA [] rfl (res_blk 1 rfl rfl (by rfl)) (by simp) ⟨rfl, rfl, rfl⟩
    ·rw [if_neg (by omega)] at hj
     refine r_skip <| r_then_normal <| r_sr <| r_ev rfl rfl <| r_nn <| r_block ?_
     refine r_loop (ι := Nat) (fun k => [(1, ptr b1 0), (2, ptr b2 0), (3, .int .i64 i), (4, ptr b4 0), (5, .int .i64 k)]) (fun _ => g) (fun _ => [.blk b4 86 [.int .i64 p.datas[i].pos, str p.datas[i].name, .slice a1 p.datas[i].params.length c1, .slice a2 p.datas[i].cons.length c2], .blk b2 32 [.int .i64 0, .int .i64 0], .blk b1 29 [.slice (some ⟨b, off, none⟩) p.datas.length dc, .slice ba p.binds.length bc]]) (fun k => k ≤ p.datas[i].cons.length ∧ manyC p.datas[i].cons = manyC (p.datas[i].cons.drop k)) (fun k => p.datas[i].cons.length - k) 0 ⟨Nat.zero_le _, by rw [List.drop_zero]⟩ ⟨rfl, rfl, rfl, rfl, rfl, trivial⟩ rfl rfl ?_
     rintro k ⟨hk, hjc⟩
     refine r_seq <| r_sr <| r_ev rfl rfl <| r_fieldAddr rfl rfl <| r_loadB1 0 rfl rfl rfl rfl <| r_len_sl rfl rfl <| r_ev rfl rfl <| r_nn ?_
     refine r_cond rfl (fun hlt2 => ?_) (fun hlt2 => ?_)
     ·have hlt2' : k < p.datas[i].cons.length := by omega
      obtain ⟨b', off', cap', hsl', hx'⟩ := e3.held hlt2'
      cases hsl'
      obtain ⟨cc, f1, hr'⟩ := all_rd (fun _ _ h => h.one.1) e4 hx' hlt2'
      obtain ⟨a3, c3, xf, rfl, _, _⟩ := f1.form
      rw [manyC_drop hlt2'] at hjc
      refine r_skip <| r_then_normal <| r_seq <| r_block <| r_sr <| r_fieldAddr rfl rfl <| r_loadB1 0 rfl rfl rfl rfl <| r_ev rfl rfl <| r_indexAddr rfl rfl rfl rfl (by omega) ?_; refine r_fieldAddr rfl rfl ?_
      refine r_load1 rfl rfl ((hr' _).at1 2 rfl) ?_
      refine r_len_sl rfl rfl <| r_ev rfl rfl <| r_nn ?_
      refine r_cond rfl (fun hf => ?_) (fun hf => ?_)
      ·have hres : deepR p = (5, p.datas[i].cons[k].pos) := by
        rw [if_pos (by omega)] at hjc
        exact deepR_many (by unfold manyP; rw [hj, hjc]; rfl)
       rw [hres]
       refine r_sr <| r_fieldAddr rfl rfl <| r_loadB1 0 rfl rfl rfl rfl <| r_ev rfl rfl <| r_indexAddr rfl rfl rfl rfl (by omega) ?_; refine r_fieldAddr rfl rfl ?_
       refine r_load1 rfl rfl ((hr' _).at1 0 rfl) ?_
       refine r_build rfl rfl (by rfl) ?_; refine r_storeA 1 rfl rfl rfl rfl (by rfl) (by repeat' (first | exact rfl | assumption | refine all_cons ?_ ?_)) rfl ?_; refine r_nn <| r_retc <| r_in_ret <| r_then_ret <| r_then_ret <| r_in_ret <| r_in_ret <| r_then_ret <| r_then_ret <| r_in_ret <| r_then_ret ?_
       exact r_retA [] rfl (res_blk 1 rfl rfl (by rfl)) (by simp) ⟨rfl, rfl, rfl⟩
      ·rw [if_neg (by omega)] at hjc
       refine r_skip <| r_in_normal <| r_then_normal <| r_region <| r_ev rfl rfl <| r_add rfl rfl rfl (by omega) ?_; refine r_ev rfl rfl <| r_nn ?_
       exact r_again (k + 1) ⟨by omega, hjc⟩ (by omega) ⟨rfl, rfl, rfl, rfl, rfl, trivial⟩ rfl rfl
     ·have hkl : k = p.datas[i].cons.length := by omega
      rw [hkl, List.drop_length] at hjc
      rw [hjc, show manyC [] = none from rfl, Option.none_or] at hj
      refine r_exit <| r_then_exit <| r_then_exit <| r_in_exit <| r_in_normal <| r_then_normal <| r_region <| r_ev rfl rfl <| r_add rfl rfl rfl (by omega) ?_; refine r_ev rfl rfl <| r_nn ?_
      refine r_drop (own' := [_, _]) (.cons _ (List.Sublist.refl _)) ?_
      exact r_again (i + 1) ⟨by omega, hj⟩ (by omega) ⟨rfl, rfl, rfl, trivial⟩ rfl rfl
 ·have hil : i = p.datas.length := by omega
  rw [hil, List.drop_length] at hj
  have hj' : manyD 0 p.datas = none := hj
  refine r_exit <| r_then_exit <| r_then_exit <| r_in_exit <| r_then_normal <| r_seq <| r_sr <| r_fieldAddr rfl rfl <| r_loadB1 1 rfl rfl rfl rfl <| r_len_sl rfl rfl <| r_ev rfl rfl <| r_nn ?_
  refine r_cond rfl (fun h16 => ?_) (fun h16 => ?_)
  ·have h16' : 16 < p.binds.length := by omega
   obtain ⟨b, off, cap, hsl, hx⟩ := h3.held h16'
   cases hsl
   obtain ⟨c, e1, hr⟩ := all_rd (fun _ _ h => h.one.1) h4 hx h16'
   obtain ⟨y1, y2, y3, y4, y5, y6, y7, y8, y9, y10, y11, y12, rfl, _⟩ := e1.form
   have hres : deepR p = ((5 : Int), p.binds[16].pos) := deepR_many (by
    unfold manyP
    rw [hj', Option.none_or, if_pos h16', bindPos_at h16'])
   rw [hres]
   refine r_sr <| r_fieldAddr rfl rfl <| r_loadB1 1 rfl rfl rfl rfl <| r_indexAddr rfl rfl rfl rfl (by omega) ?_; refine r_fieldAddr rfl rfl ?_
   refine r_load1 rfl rfl ((hr _).at1 0 rfl) ?_
   refine r_build rfl rfl (by rfl) ?_; refine r_storeA 0 rfl rfl rfl rfl (by rfl) (by repeat' (first | exact rfl | assumption | refine all_cons ?_ ?_)) rfl ?_; refine r_nn <| r_retc <| r_then_ret ?_
   exact r_retA [] rfl (res_blk 0 rfl rfl (by rfl)) (by simp) ⟨rfl, rfl, rfl⟩
  ·have hm : manyP p = none := by
    unfold manyP
    rw [hj', Option.none_or, if_neg (by omega)]
   have e2 := deepR_at hm
   clear hj hj'
   refine r_skip <| r_then_normal <| r_seq <| r_sr <| r_ev rfl rfl <| r_nn <| r_block ?_
   refine r_loop (ι := Nat) (fun i => [(1, ptr b1 0), (2, ptr b2 0), (6, .int .i64 i)]) (fun _ => g) (fun _ => [.blk b2 32 [.int .i64 0, .int .i64 0], .blk b1 29 [.slice da p.datas.length dc, .slice ba p.binds.length bc]]) (fun i => i ≤ p.datas.length ∧ deepDs p.datas = deepDs (p.datas.drop i)) (fun i => p.datas.length - i) 0 ⟨Nat.zero_le _, by rw [List.drop_zero]⟩ ⟨rfl, rfl, rfl, trivial⟩ rfl rfl ?_
   rintro i ⟨hi, hj⟩
   refine r_seq <| r_sr <| r_ev rfl rfl <| r_fieldAddr rfl rfl <| r_loadB1 1 rfl rfl rfl rfl <| r_len_sl rfl rfl <| r_ev rfl rfl <| r_nn ?_
   refine r_cond rfl (fun hlt3 => ?_) (fun hlt3 => ?_)
   ·have hlt' : i < p.datas.length := by omega
    obtain ⟨b, off, cap, hsl, hx⟩ := h1.held hlt'
    cases hsl
    obtain ⟨c, e1', hr⟩ := all_rd (fun _ _ h => h.one.1) h2 hx hlt'
    obtain ⟨a1, c1, a2, c2, xc, rfl, _, e3, e4⟩ := e1'.form
    have hle3 := e3.le
    have hwd := hw.d _ (List.getElem_mem hlt')
    rw [deepDs_drop hlt'] at hj
    refine r_skip <| r_then_normal <| r_seq <| r_block <| r_sr <| r_fieldAddr rfl rfl <| r_loadB1 1 rfl rfl rfl rfl <| r_ev rfl rfl <| r_indexAddr rfl rfl rfl rfl (by omega) ?_
    refine r_load rfl rfl (hr _) rfl ?_
    refine r_alloc rfl (fun b7 => ?_)
    refine r_storeA 0 rfl rfl rfl rfl (by rfl) (by repeat' (first | exact rfl | assumption | refine all_cons ?_ ?_)) rfl ?_; refine r_nn <| r_sr <| r_ev rfl rfl <| r_nn <| r_block ?_
    refine r_loop (ι := Nat) (fun k => [(1, ptr b1 0), (2, ptr b2 0), (6, .int .i64 i), (7, ptr b7 0), (8, .int .i64 k)]) (fun _ => g) (fun _ => [.blk b7 86 [.int .i64 p.datas[i].pos, str p.datas[i].name, .slice a1 p.datas[i].params.length c1, .slice a2 p.datas[i].cons.length c2], .blk b2 32 [.int .i64 0, .int .i64 0], .blk b1 29 [.slice (some ⟨b, off, none⟩) p.datas.length dc, .slice ba p.binds.length bc]]) (fun k => k ≤ p.datas[i].cons.length ∧ deepCs p.datas[i].cons = deepCs (p.datas[i].cons.drop k)) (fun k => p.datas[i].cons.length - k) 0 ⟨Nat.zero_le _, by rw [List.drop_zero]⟩ ⟨rfl, rfl, rfl, rfl, rfl, trivial⟩ rfl rfl ?_
    rintro k ⟨hk, hjc⟩
    refine r_seq <| r_sr <| r_ev rfl rfl <| r_fieldAddr rfl rfl <| r_loadB1 0 rfl rfl rfl rfl <| r_len_sl rfl rfl <| r_ev rfl rfl <| r_nn ?_
    refine r_cond rfl (fun hlt4 => ?_) (fun hlt4 => ?_)
    ·have hlt2' : k < p.datas[i].cons.length := by omega
     obtain ⟨b', off', cap', hsl', hx'⟩ := e3.held hlt2'
     cases hsl'
     obtain ⟨cc, f1, hr'⟩ := all_rd (fun _ _ h => h.one.1) e4 hx' hlt2'
     obtain ⟨a3, c3, xf, rfl, f2, f3⟩ := f1.form
     have hlf := f2.le
     have hwc := hwd _ (List.getElem_mem hlt2')
     rw [deepCs_drop hlt2'] at hjc
     refine r_skip <| r_then_normal <| r_seq <| r_block <| r_sr <| r_ev rfl rfl <| r_nn <| r_block ?_
     refine r_loop (ι := Nat) (fun j => [(1, ptr b1 0), (2, ptr b2 0), (6, .int .i64 i), (7, ptr b7 0), (8, .int .i64 k), (9, .int .i64 j)]) (fun _ => g) (fun _ => [.blk b7 86 [.int .i64 p.datas[i].pos, str p.datas[i].name, .slice a1 p.datas[i].params.length c1, .slice (some ⟨b', off', none⟩) p.datas[i].cons.length c2], .blk b2 32 [.int .i64 0, .int .i64 0], .blk b1 29 [.slice (some ⟨b, off, none⟩) p.datas.length dc, .slice ba p.binds.length bc]]) (fun j => j ≤ p.datas[i].cons[k].fields.length ∧ deepTl p.datas[i].cons[k].fields = deepTl (p.datas[i].cons[k].fields.drop j)) (fun j => p.datas[i].cons[k].fields.length - j) 0 ⟨Nat.zero_le _, by rw [List.drop_zero]⟩ ⟨rfl, rfl, rfl, rfl, rfl, rfl, trivial⟩ rfl rfl ?_
     rintro j ⟨hjl, hjf⟩
     refine r_seq <| r_sr <| r_ev rfl rfl <| r_fieldAddr rfl rfl <| r_loadB1 0 rfl rfl rfl rfl <| r_ev rfl rfl <| r_indexAddr rfl rfl rfl rfl (by omega) ?_; refine r_fieldAddr rfl rfl ?_
     refine r_load1 rfl rfl ((hr' _).at1 2 rfl) ?_
     refine r_len_sl rfl rfl <| r_ev rfl rfl <| r_nn ?_
     refine r_cond rfl (fun hlt5 => ?_) (fun hlt5 => ?_)
     ·have hlt3' : j < p.datas[i].cons[k].fields.length := by omega
      have hdj := hwc _ (List.getElem_mem hlt3')
      obtain ⟨b'', off'', cap'', hsl'', hx''⟩ := f2.held hlt3'
      cases hsl''
      obtain ⟨sl', t2, hr''⟩ := tys_rdA f3 hx'' hlt3'
      rw [deepTl_drop hlt3'] at hjf
      refine r_skip <| r_then_normal <| r_seq <| r_block <| r_sr <| r_fieldAddr rfl rfl <| r_loadB1 0 rfl rfl rfl rfl <| r_ev rfl rfl <| r_indexAddr rfl rfl rfl rfl (by omega) ?_; refine r_fieldAddr rfl rfl ?_
      refine r_load1 rfl rfl ((hr' _).at1 2 rfl) ?_
      refine r_ev rfl rfl <| r_indexAddr rfl rfl rfl rfl (by omega) ?_
      refine r_load rfl rfl (hr'' _) rfl ?_
      refine r_callP rfl rfl (Depth3_spec g _ _ hdj ⟨sl', rfl, t2⟩) ?_
      refine r_ev rfl rfl <| r_nn ?_
      refine r_cond rfl (fun hd => ?_) (fun hd => ?_)
      ·rw [decide_eq_true (by omega), Bool.true_or] at hjf
       rw [hjf, Bool.true_or] at hjc
       rw [hjc, if_pos rfl] at hj
       rw [hj] at e2
       rw [e2]
       refine r_sr <| r_fieldAddr rfl rfl <| r_loadB1 0 rfl rfl rfl rfl <| r_build rfl rfl (by rfl) ?_; refine r_storeA 1 rfl rfl rfl rfl (by rfl) (by repeat' (first | exact rfl | assumption | refine all_cons ?_ ?_)) rfl ?_; refine r_nn <| r_retc <| r_in_ret <| r_then_ret <| r_then_ret <| r_in_ret <| r_in_ret <| r_then_ret <| r_then_ret <| r_in_ret <| r_in_ret <| r_then_ret <| r_then_ret <| r_in_ret ?_; refine r_then_ret ?_
       exact r_retA [] rfl (res_blk 1 rfl rfl (by rfl)) (by simp) ⟨rfl, rfl, rfl⟩
      ·rw [decide_eq_false (by omega), Bool.false_or] at hjf
       refine r_skip <| r_in_normal <| r_then_normal <| r_region <| r_ev rfl rfl <| r_add rfl rfl rfl (by omega) ?_; refine r_ev rfl rfl <| r_nn ?_
       exact r_again (j + 1) ⟨by omega, hjf⟩ (by omega) ⟨rfl, rfl, rfl, rfl, rfl, rfl, trivial⟩ rfl rfl
     ·have hjl' : j = p.datas[i].cons[k].fields.length := by omega
      rw [hjl', List.drop_length] at hjf
      rw [hjf, show deepTl [] = false from rfl, Bool.false_or] at hjc
      refine r_exit <| r_then_exit <| r_then_exit <| r_in_exit <| r_in_normal <| r_then_normal <| r_region <| r_ev rfl rfl <| r_add rfl rfl rfl (by omega) ?_; refine r_ev rfl rfl <| r_nn ?_
      exact r_again (k + 1) ⟨by omega, hjc⟩ (by omega) ⟨rfl, rfl, rfl, rfl, rfl, trivial⟩ rfl rfl
    ·have hkl : k = p.datas[i].cons.length := by omega
     rw [hkl, List.drop_length] at hjc
     rw [hjc, if_neg (by simp [deepCs])] at hj
     refine r_exit <| r_then_exit <| r_then_exit <| r_in_exit <| r_in_normal <| r_then_normal <| r_region <| r_ev rfl rfl <| r_add rfl rfl rfl (by omega) ?_; refine r_ev rfl rfl <| r_nn ?_
     refine r_drop (own' := [_, _]) (.cons _ (List.Sublist.refl _)) ?_
     exact r_again (i + 1) ⟨by omega, hj⟩ (by omega) ⟨rfl, rfl, rfl, trivial⟩ rfl rfl
   ·have hil : i = p.datas.length := by omega
    rw [hil, List.drop_length] at hj
    have hj' : deepDs p.datas = none := hj
    rw [hj'] at e2
    simp only at e2
    clear hj hj'
    refine r_exit <| r_then_exit <| r_then_exit <| r_in_exit <| r_then_normal <| r_seq <| r_sr <| r_ev rfl rfl <| r_nn <| r_block ?_
    refine r_loop (ι := Nat) (fun i => [(1, ptr b1 0), (2, ptr b2 0), (10, .int .i64 i)]) (fun _ => g) (fun _ => [.blk b2 32 [.int .i64 0, .int .i64 0], .blk b1 29 [.slice da p.datas.length dc, .slice ba p.binds.length bc]]) (fun i => i ≤ p.binds.length ∧ deepBs p.binds = deepBs (p.binds.drop i)) (fun i => p.binds.length - i) 0 ⟨Nat.zero_le _, by rw [List.drop_zero]⟩ ⟨rfl, rfl, rfl, trivial⟩ rfl rfl ?_
    rintro i ⟨hi, hjb⟩
    refine r_seq <| r_sr <| r_ev rfl rfl <| r_fieldAddr rfl rfl <| r_loadB1 1 rfl rfl rfl rfl <| r_len_sl rfl rfl <| r_ev rfl rfl <| r_nn ?_
    refine r_cond rfl (fun hltb => ?_) (fun hltb => ?_)
    ·have hlt' : i < p.binds.length := by omega
     obtain ⟨b, off, cap, hsl, hx⟩ := h3.held hlt'
     cases hsl
     obtain ⟨c, e1', hr⟩ := all_rd (fun _ _ h => h.one.1) h4 hx hlt'
     obtain ⟨y1, y2, y3, y4, y5, y6, y7, y8, y9, y10, y11, y12, rfl, e3, e4⟩ := e1'.form
     obtain ⟨w1, w2, w3, w4⟩ := hw.b _ (List.getElem_mem hlt')
     rw [deepBs_drop hlt'] at hjb
     have sigDeep : (40 < depthT p.binds[i].sig) → deepR p = (4, p.binds[i].pos) := fun hd => by
      rw [if_pos (by rw [decide_eq_true hd, Bool.true_or])] at hjb
      rw [hjb] at e2
      exact e2
     have sigFlat : ¬ (40 < depthT p.binds[i].sig) → deepBs p.binds = if deepEx p.binds[i].body = true then some (4, p.binds[i].pos) else ((wideE p.binds[i].body).map fun q => (5, q)).or (deepBs (p.binds.drop (i + 1))) := fun hd => by
      rw [decide_eq_false hd, Bool.false_or] at hjb
      exact hjb
     refine r_skip <| r_then_normal <| r_seq <| r_block <| r_sr <| r_fieldAddr rfl rfl <| r_loadB1 1 rfl rfl rfl rfl <| r_ev rfl rfl <| r_indexAddr rfl rfl rfl rfl (by omega) ?_
     refine r_load rfl rfl (hr _) rfl ?_
     refine r_alloc rfl (fun b11 => ?_)
     refine r_storeA 0 rfl rfl rfl rfl (by rfl) (by repeat' (first | exact rfl | assumption | refine all_cons ?_ ?_)) rfl ?_; refine r_nn <| r_seq <| r_sr <| r_fieldAddr rfl rfl <| r_loadB1 0 rfl rfl rfl rfl <| r_ev rfl rfl ?_
     cases hs : p.binds[i].hasSig with
     | true =>
      refine r_take rfl <| r_fieldAddr rfl rfl <| r_take rfl <| r_loadB 0 rfl rfl rfl (by rfl) ?_; refine r_take rfl ?_
      refine r_callP rfl rfl (Depth3_spec g p.binds[i].sig _ w2 ⟨_, rfl, e3⟩) ?_
      refine r_tev rfl rfl rfl <| r_ev rfl rfl <| r_ev rfl rfl ?_
      refine r_gdec rfl rfl (fun hd => ?_) (fun hd => ?_)
      ·rw [sigDeep (by omega)]
       refine r_pass rfl rfl rfl <| r_pass rfl rfl rfl <| r_pass rfl rfl rfl <| r_ev rfl rfl <| r_nn <| r_cond_true rfl <| r_sr <| r_fieldAddr rfl rfl <| r_loadB1 0 rfl rfl rfl rfl <| r_build rfl rfl (by rfl) ?_; refine r_storeA 1 rfl rfl rfl rfl (by rfl) (by repeat' (first | exact rfl | assumption | refine all_cons ?_ ?_)) rfl ?_; refine r_nn <| r_retc <| r_then_ret <| r_in_ret <| r_then_ret <| r_then_ret <| r_in_ret <| r_then_ret ?_
       exact r_retA [] rfl (res_blk 1 rfl rfl (by rfl)) (by simp) ⟨rfl, rfl, rfl⟩
      ·replace hjb := sigFlat (by omega)
       refine r_take rfl <| r_fieldAddr rfl rfl <| r_take rfl <| r_loadB 0 rfl rfl rfl (by rfl) ?_; refine r_take rfl ?_
       refine r_callP rfl rfl (deepEx7_spec (Nat.le_refl _) g p.binds[i].body _ w3 w4 ⟨_, rfl, e4⟩) ?_
       cases hdx : deepEx p.binds[i].body with
       | true =>
        rw [hdx, if_pos rfl] at hjb
        rw [hjb] at e2
        rw [e2]
        refine r_ev rfl rfl <| r_nn <| r_cond_true rfl <| r_sr <| r_fieldAddr rfl rfl <| r_loadB1 0 rfl rfl rfl rfl <| r_build rfl rfl (by rfl) ?_; refine r_storeA 1 rfl rfl rfl rfl (by rfl) (by repeat' (first | exact rfl | assumption | refine all_cons ?_ ?_)) rfl ?_; refine r_nn <| r_retc <| r_then_ret <| r_in_ret <| r_then_ret <| r_then_ret <| r_in_ret <| r_then_ret ?_
        exact r_retA [] rfl (res_blk 1 rfl rfl (by rfl)) (by simp) ⟨rfl, rfl, rfl⟩
       | false =>
        rw [hdx, if_neg (by decide)] at hjb
        refine r_ev rfl rfl <| r_nn <| r_cond_false rfl <| r_skip <| r_then_normal <| r_sr <| r_fieldAddr rfl rfl <| r_loadB 0 rfl rfl rfl (by rfl) ?_
        refine r_callP rfl rfl (wide7_spec g p.binds[i].body _ w3 ⟨_, rfl, e4⟩) ?_
        generalize wideE p.binds[i].body = o at hjb
        cases o with
        | some q' =>
         rw [hjb] at e2
         rw [e2]
         refine r_ev rfl rfl <| r_ev rfl rfl <| r_ev rfl rfl <| r_ev rfl rfl <| r_ev rfl rfl <| r_nn <| r_sr <| r_ev rfl rfl <| r_nn <| r_cond_true rfl <| r_sr <| r_ev rfl rfl <| r_build rfl rfl (by rfl) ?_; refine r_storeA 1 rfl rfl rfl rfl (by rfl) (by repeat' (first | exact rfl | assumption | refine all_cons ?_ ?_)) rfl ?_; refine r_nn <| r_retc <| r_in_ret <| r_then_ret <| r_then_ret <| r_in_ret <| r_then_ret ?_
         exact r_retA [] rfl (res_blk 1 rfl rfl (by rfl)) (by simp) ⟨rfl, rfl, rfl⟩
        | none =>
         rw [Option.map_none, Option.none_or] at hjb
         refine r_ev rfl rfl <| r_ev rfl rfl <| r_ev rfl rfl <| r_ev rfl rfl <| r_ev rfl rfl <| r_nn <| r_sr <| r_ev rfl rfl <| r_nn <| r_cond_false rfl <| r_skip <| r_in_normal <| r_then_normal <| r_region ?_; refine r_ev rfl rfl <| r_add rfl rfl rfl (by omega) ?_; refine r_ev rfl rfl <| r_nn ?_
         refine r_drop (own' := [_, _]) (.cons _ (List.Sublist.refl _)) ?_
         exact r_again (i + 1) ⟨by omega, hjb⟩ (by omega) ⟨rfl, rfl, rfl, trivial⟩ rfl rfl
     | false =>
      have hd := w1 hs
      replace hjb := sigFlat (by omega)
      refine r_pass rfl rfl rfl <| r_pass rfl rfl rfl <| r_pass rfl rfl rfl <| r_pass rfl rfl rfl <| r_ev rfl rfl <| r_ev rfl rfl <| r_take rfl <| r_fieldAddr rfl rfl <| r_take rfl <| r_loadB 0 rfl rfl rfl (by rfl) ?_; refine r_take rfl ?_
      skip
      refine r_callP rfl rfl (deepEx7_spec (Nat.le_refl _) g p.binds[i].body _ w3 w4 ⟨_, rfl, e4⟩) ?_
      cases hdx : deepEx p.binds[i].body with
      | true =>
       rw [hdx, if_pos rfl] at hjb
       rw [hjb] at e2
       rw [e2]
       refine r_ev rfl rfl <| r_nn <| r_cond_true rfl <| r_sr <| r_fieldAddr rfl rfl <| r_loadB1 0 rfl rfl rfl rfl <| r_build rfl rfl (by rfl) ?_; refine r_storeA 1 rfl rfl rfl rfl (by rfl) (by repeat' (first | exact rfl | assumption | refine all_cons ?_ ?_)) rfl ?_; refine r_nn <| r_retc <| r_then_ret <| r_in_ret <| r_then_ret <| r_then_ret <| r_in_ret <| r_then_ret ?_
       exact r_retA [] rfl (res_blk 1 rfl rfl (by rfl)) (by simp) ⟨rfl, rfl, rfl⟩
      | false =>
       rw [hdx, if_neg (by decide)] at hjb
       refine r_ev rfl rfl <| r_nn <| r_cond_false rfl <| r_skip <| r_then_normal <| r_sr <| r_fieldAddr rfl rfl <| r_loadB 0 rfl rfl rfl (by rfl) ?_
       refine r_callP rfl rfl (wide7_spec g p.binds[i].body _ w3 ⟨_, rfl, e4⟩) ?_
       generalize wideE p.binds[i].body = o at hjb
       cases o with
       | some q' =>
        rw [hjb] at e2
        rw [e2]
        refine r_ev rfl rfl <| r_ev rfl rfl <| r_ev rfl rfl <| r_ev rfl rfl <| r_ev rfl rfl <| r_nn <| r_sr <| r_ev rfl rfl <| r_nn <| r_cond_true rfl <| r_sr <| r_ev rfl rfl <| r_build rfl rfl (by rfl) ?_; refine r_storeA 1 rfl rfl rfl rfl (by rfl) (by repeat' (first | exact rfl | assumption | refine all_cons ?_ ?_)) rfl ?_; refine r_nn <| r_retc <| r_in_ret <| r_then_ret <| r_then_ret <| r_in_ret <| r_then_ret ?_
        exact r_retA [] rfl (res_blk 1 rfl rfl (by rfl)) (by simp) ⟨rfl, rfl, rfl⟩
       | none =>
        rw [Option.map_none, Option.none_or] at hjb
        refine r_ev rfl rfl <| r_ev rfl rfl <| r_ev rfl rfl <| r_ev rfl rfl <| r_ev rfl rfl <| r_nn <| r_sr <| r_ev rfl rfl <| r_nn <| r_cond_false rfl <| r_skip <| r_in_normal <| r_then_normal <| r_region ?_; refine r_ev rfl rfl <| r_add rfl rfl rfl (by omega) ?_; refine r_ev rfl rfl <| r_nn ?_
        refine r_drop (own' := [_, _]) (.cons _ (List.Sublist.refl _)) ?_
        exact r_again (i + 1) ⟨by omega, hjb⟩ (by omega) ⟨rfl, rfl, rfl, trivial⟩ rfl rfl
    ·have hil : i = p.binds.length := by omega
     rw [hil, List.drop_length] at hjb
     have hjb' : deepBs p.binds = none := hjb
     rw [hjb'] at e2
     rw [e2]
     refine r_exit <| r_then_exit <| r_then_exit <| r_in_exit <| r_then_normal <| r_sr <| r_build rfl rfl (by rfl) ?_; refine r_storeA 0 rfl rfl rfl rfl (by rfl) (by repeat' (first | exact rfl | assumption | refine all_cons ?_ ?_)) rfl ?_; refine r_nn <| r_retc ?_
     exact r_retA [] rfl (res_blk 0 rfl rfl (by rfl)) (by simp) ⟨rfl, rfl, rfl⟩
end Go.Proofs.YtpjehhnaojjanaaGreatDoor
-- sum 01a557e32966ab48

/- The walk of the reference's binding (typedholesref7). Printed by mkprh.py. -/
namespace Go.Proofs.YtpjehhnaojjanaaGreatDoor
open Go Go.Eng Go.Th Go.Proofs
set_option maxRecDepth 10000
set_option maxHeartbeats 4000000
attribute [local irreducible] wpList Code.wp Run bodyPost Go.Eng.Ends Exit.then Exit.inBlock Again Wq Kq
def postB (mk : RS → Res) (l : List Tok) (i : Nat) (r : Except Int (Bi × Nat)) (v : Value) (g' : Ghost) (r' : Res) : Prop := match r with
 | .ok (x, j) => BiV g' v x ∧ r' = mk (.good j) ∧ i < j ∧ j ≤ l.length
 | .error p => (∃ x, BiV g' v x) ∧ ∃ j, j ≤ l.length ∧ r' = mk (.bad j p)
theorem postB_fin {mk : RS → Res} {l : List Tok} {i : Nat} {R : Except Int (Bi × Nat)} {x : Bi} {s : RS} {v : Value} {g' : Ghost} (h : FinB l i x s R) (hv : BiV g' v x) : postB mk l i R v g' (mk s) := by
 cases R with
 | error p =>
  obtain ⟨j, h1, rfl⟩ := h
  exact ⟨⟨_, hv⟩, j, h1, rfl⟩
 | ok q =>
  obtain ⟨y, j⟩ := q
  obtain ⟨rfl, rfl, h3, h4⟩ := h
  exact ⟨hv, rfl, h3, h4⟩
end Go.Proofs.YtpjehhnaojjanaaGreatDoor
-- sum 36498aef85604cd5


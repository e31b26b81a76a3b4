/- The walks of readprogram's wide, annotated, deep, of slices.ContainsFunc at its uses, and of many. -/
import Derived.Test.YtpjehhnaojjanaaGreatDoorK11
namespace Go.Th
def idxF {α : Type} (P : α → Bool) : Nat → List α → Int
 | _, [] => -1
 | i, a :: r => if P a then i else idxF P (i + 1) r
theorem idxF_iff {α : Type} (P : α → Bool) : ∀ (l : List α) (i : Nat), 0 ≤ idxF P i l ↔ l.any P = true
 | [], i => by simp [idxF]
 | a :: r, i => by
  have e : idxF P i (a :: r) = if P a then (i : Int) else idxF P (i + 1) r := rfl
  rw [e, List.any_cons]
  by_cases h : P a = true
  ·rw [if_pos h, h]; simp
  ·rw [if_neg h, idxF_iff P r (i + 1)]
   simp only [Bool.not_eq_true] at h
   rw [h, Bool.false_or]
theorem idxF_any {α : Type} (P : α → Bool) (l : List α) (i : Nat) : decide (0 ≤ idxF P i l) = l.any P := by
 rw [Bool.eq_iff_iff, decide_eq_true_eq]
 exact idxF_iff P l i
theorem idxF_drop {α : Type} (P : α → Bool) {l : List α} {i : Nat} (h : i < l.length) : idxF P i (l.drop i) = if P l[i] then (i : Int) else idxF P (i + 1) (l.drop (i + 1)) := by
 rw [List.drop_eq_getElem_cons h, idxF]
theorem deepTys_any : ∀ l : List Ex, deepTys l = l.any deepTy
 | [] => rfl
 | a :: r => by simp only [deepTys, List.any_cons, deepTys_any r]
end Go.Th
namespace Go.Proofs.YtpjehhnaojjanaaGreatDoor
open Go Go.Eng Go.Th Go.Proofs
set_option maxRecDepth 10000
set_option maxHeartbeats 4000000
attribute [local irreducible] wpList Code.wp Run bodyPost Go.Eng.Ends Exit.then Exit.inBlock Again Wq Kq
abbrev fnV (f : FuncId) : Value := .func (.func f) #[] #[]
theorem IndexT_spec (g : Ghost) (l : List Ty) (v : Value) (xs : List Value) (hs : SlAt g 5 v l.length xs) (ht : TysAt g l xs) (P : Ty → Bool) (hP : ∀ t ∈ l, ∀ u, TyV g u t → Pure Tryz.prog 63 [u] g (.bool (P t))) :
  Pure Tryz.prog 109 [v, fnV 63] g (.int .i64 (idxF P 0 l)) := by
 have hle := hs.le
 obtain ⟨a, c, rfl⟩ := slForm2 hs
 refine spec_of_run Tryz.func109 rfl Tryz.ntmps109 rfl fun E hE => ?_
 refine r_sr ?_
 refine r_ev rfl rfl <| r_nn <| r_seq <| r_sr <| r_ev rfl rfl <| r_len_sl rfl rfl <| r_ev rfl rfl <| r_nn <| r_block ?_
 refine r_loop (ι := Nat) (fun i => [(0, .slice a l.length c), (1, fnV 63), (7, .int .i64 l.length), (8, .int .i64 i)]) (fun _ => g) (fun _ => []) (fun i => i ≤ l.length ∧ idxF P 0 l = idxF P i (l.drop i)) (fun i => l.length - i) 0 ⟨Nat.zero_le _, by rw [List.drop_zero]⟩ ⟨rfl, rfl, rfl, rfl, trivial⟩ rfl rfl ?_
 rintro i ⟨hi, hj⟩
 refine r_sr <| r_ev rfl rfl <| r_nn <| r_seq ?_
 refine r_cond rfl (fun hlt => ?_) (fun hlt => ?_)
 ·have hlt' : i < l.length := by omega
  obtain ⟨b, off, cap, hsl, hx⟩ := hs.held hlt'
  cases hsl
  obtain ⟨sl', h2, hr⟩ := tys_rdA ht hx hlt'
  rw [idxF_drop P hlt'] at hj
  refine r_skip <| r_then_normal <| r_seq <| r_block <| r_sr <| r_ev rfl rfl <| r_ev rfl rfl <| r_nn <| r_sr <| r_ev rfl rfl <| r_ev rfl rfl <| r_ev rfl rfl <| r_indexAddr rfl rfl rfl rfl (by omega) ?_
  refine r_load rfl rfl (hr _) rfl ?_
  refine r_callF' (us := []) (cs := []) (lent := []) (kept := _) rfl rfl rfl (List.Perm.refl _) (hP _ (List.getElem_mem hlt') _ ⟨_, rfl, h2⟩) ?_
  rintro w g1 own' ⟨rfl, rfl, rfl⟩ _
  cases hk : P l[i] with
  | true =>
   rw [hk] at hj
   refine r_nn <| r_cond_true rfl <| r_sr <| r_ev rfl rfl <| r_ev rfl rfl <| r_nn <| r_retc <| r_in_ret <| r_then_ret <| r_then_ret <| r_in_ret <| r_then_ret ?_
   exact r_ret1 [] rfl rfl (by simp) ⟨by rw [hj]; rfl, rfl, rfl⟩
  | false =>
   rw [hk] at hj
   refine r_nn <| r_cond_false rfl <| r_skip <| r_in_normal <| r_then_normal <| r_region <| r_add rfl rfl rfl (by omega) ?_; refine r_ev rfl rfl <| r_nn ?_
   exact r_again (i + 1) ⟨by omega, hj⟩ (by omega) ⟨rfl, rfl, rfl, rfl, trivial⟩ rfl rfl
 ·have hil : i = l.length := by omega
  rw [hil, List.drop_length] at hj
  refine r_exit <| r_then_exit <| r_then_exit <| r_in_exit <| r_then_normal <| r_sr <| r_ev rfl rfl <| r_nn <| r_retc ?_
  exact r_ret1 [] rfl rfl (by simp) ⟨by rw [hj]; rfl, rfl, rfl⟩
theorem ContainsT_spec (g : Ghost) (l : List Ty) (v : Value) (xs : List Value) (hs : SlAt g 5 v l.length xs) (ht : TysAt g l xs) (P : Ty → Bool) (hP : ∀ t ∈ l, ∀ u, TyV g u t → Pure Tryz.prog 63 [u] g (.bool (P t))) :
  Pure Tryz.prog 62 [v, fnV 63] g (.bool (l.any P)) := by
 obtain ⟨a, c, rfl⟩ := slForm2 hs
 refine spec_of_run Tryz.func62 rfl Tryz.ntmps62 rfl fun E hE => ?_
 refine r_sr ?_
 refine r_ev rfl rfl <| r_nn <| r_sr <| r_ev rfl rfl <| r_ev rfl rfl ?_
 refine r_callP rfl rfl (IndexT_spec g l _ xs hs ht P hP) ?_
 refine r_ev rfl rfl <| r_ev rfl rfl <| r_nn <| r_retc ?_
 exact r_ret1 [] rfl rfl (by simp) ⟨by rw [← idxF_any P l 0], rfl, rfl⟩
theorem IndexE_spec (g : Ghost) (l : List Ex) (v : Value) (xs : List Value) (hs : SlAt g 11 v l.length xs) (ht : ExsAt g l xs) (P : Ex → Bool) (hP : ∀ t ∈ l, ∀ u, ExV g u t → Pure Tryz.prog 111 [u] g (.bool (P t))) :
  Pure Tryz.prog 180 [v, fnV 111] g (.int .i64 (idxF P 0 l)) := by
 have hle := hs.le
 obtain ⟨a, c, rfl⟩ := slForm2 hs
 refine spec_of_run Tryz.func180 rfl Tryz.ntmps180 rfl fun E hE => ?_
 refine r_sr ?_
 refine r_ev rfl rfl <| r_nn <| r_seq <| r_sr <| r_ev rfl rfl <| r_len_sl rfl rfl <| r_ev rfl rfl <| r_nn <| r_block ?_
 refine r_loop (ι := Nat) (fun i => [(0, .slice a l.length c), (1, fnV 111), (7, .int .i64 l.length), (8, .int .i64 i)]) (fun _ => g) (fun _ => []) (fun i => i ≤ l.length ∧ idxF P 0 l = idxF P i (l.drop i)) (fun i => l.length - i) 0 ⟨Nat.zero_le _, by rw [List.drop_zero]⟩ ⟨rfl, rfl, rfl, rfl, trivial⟩ rfl rfl ?_
 rintro i ⟨hi, hj⟩
 refine r_sr <| r_ev rfl rfl <| r_nn <| r_seq ?_
 refine r_cond rfl (fun hlt => ?_) (fun hlt => ?_)
 ·have hlt' : i < l.length := by omega
  obtain ⟨b, off, cap, hsl, hx⟩ := hs.held hlt'
  cases hsl
  obtain ⟨cs, h2, hr⟩ := exs_rdA ht hx hlt'
  rw [idxF_drop P hlt'] at hj
  refine r_skip <| r_then_normal <| r_seq <| r_block <| r_sr <| r_ev rfl rfl <| r_ev rfl rfl <| r_nn <| r_sr <| r_ev rfl rfl <| r_ev rfl rfl <| r_ev rfl rfl <| r_indexAddr rfl rfl rfl rfl (by omega) ?_
  refine r_load rfl rfl (hr _) h2.one.1 ?_
  refine r_callF' (us := []) (cs := []) (lent := []) (kept := _) rfl rfl rfl (List.Perm.refl _) (hP _ (List.getElem_mem hlt') _ ⟨_, rfl, h2⟩) ?_
  rintro w g1 own' ⟨rfl, rfl, rfl⟩ _
  cases hk : P l[i] with
  | true =>
   rw [hk] at hj
   refine r_nn <| r_cond_true rfl <| r_sr <| r_ev rfl rfl <| r_ev rfl rfl <| r_nn <| r_retc <| r_in_ret <| r_then_ret <| r_then_ret <| r_in_ret <| r_then_ret ?_
   exact r_ret1 [] rfl rfl (by simp) ⟨by rw [hj]; rfl, rfl, rfl⟩
  | false =>
   rw [hk] at hj
   refine r_nn <| r_cond_false rfl <| r_skip <| r_in_normal <| r_then_normal <| r_region <| r_add rfl rfl rfl (by omega) ?_; refine r_ev rfl rfl <| r_nn ?_
   exact r_again (i + 1) ⟨by omega, hj⟩ (by omega) ⟨rfl, rfl, rfl, rfl, trivial⟩ rfl rfl
 ·have hil : i = l.length := by omega
  rw [hil, List.drop_length] at hj
  refine r_exit <| r_then_exit <| r_then_exit <| r_in_exit <| r_then_normal <| r_sr <| r_ev rfl rfl <| r_nn <| r_retc ?_
  exact r_ret1 [] rfl rfl (by simp) ⟨by rw [hj]; rfl, rfl, rfl⟩
theorem ContainsE_spec (g : Ghost) (l : List Ex) (v : Value) (xs : List Value) (hs : SlAt g 11 v l.length xs) (ht : ExsAt g l xs) (P : Ex → Bool) (hP : ∀ t ∈ l, ∀ u, ExV g u t → Pure Tryz.prog 111 [u] g (.bool (P t))) :
  Pure Tryz.prog 146 [v, fnV 111] g (.bool (l.any P)) := by
 obtain ⟨a, c, rfl⟩ := slForm2 hs
 refine spec_of_run Tryz.func146 rfl Tryz.ntmps146 rfl fun E hE => ?_
 refine r_sr ?_
 refine r_ev rfl rfl <| r_nn <| r_sr <| r_ev rfl rfl <| r_ev rfl rfl ?_
 refine r_callP rfl rfl (IndexE_spec g l _ xs hs ht P hP) ?_
 refine r_ev rfl rfl <| r_ev rfl rfl <| r_nn <| r_retc ?_
 exact r_ret1 [] rfl rfl (by simp) ⟨by rw [← idxF_any P l 0], rfl, rfl⟩
theorem deepF_spec (g : Ghost) (t : Ty) (v : Value) (hd : depthT t ≤ 1000000) (hv : TyV g v t) : Pure Tryz.prog 63 [v] g (.bool (decide (40 < depthT t))) := by
 have hv0 := hv
 obtain ⟨sl, rfl, h1⟩ := hv
 obtain ⟨xs, hs1, _⟩ := h1.args
 obtain ⟨a, c, rfl⟩ := slForm2 hs1
 refine spec_of_run Tryz.func63 rfl Tryz.ntmps63 rfl fun E hE => ?_
 refine r_sr ?_
 refine r_box rfl rfl rfl (fun b1 => ?_)
 refine r_ev rfl rfl <| r_nn <| r_sr <| r_loadB 0 rfl rfl rfl (by rfl) ?_
 refine r_callP rfl rfl (tDepth_spec g t _ hd hv0) ?_
 refine r_ev rfl rfl <| r_ev rfl rfl <| r_nn <| r_retc ?_
 exact r_ret1 [] rfl rfl (by simp) ⟨by congr 1; rw [decide_eq_decide]; omega, rfl, rfl⟩
theorem annotated_aux (M : Nat) (hM : M ≤ 1000000) : ∀ (N : Nat) (g : Ghost) (e : Ex) (v : Value), sizeE e < N → sizeE e ≤ 1000000 → WfE M e → ExV g v e → Pure Tryz.prog 111 [v] g (.bool (deepTy e))
 | 0, _, _, _, h, _, _, _ => by omega
 | N + 1, g, e, v, h, hsz, hwf, hv => by
  have ih := annotated_aux M hM N
  have hv0 := hv
  have hp2 := hwf.p2
  obtain ⟨a1, c1, a2, c2, a3, m3, c3, xk, xa, rfl, h1, h2, h3, h4, h5⟩ := hv.open
  rw [deepTy_child, deepTys_any]
  refine spec_of_run Tryz.func111 rfl Tryz.ntmps111 rfl fun E hE => ?_
  refine r_sr ?_
  refine r_box rfl rfl rfl (fun b1 => ?_)
  refine r_ev rfl rfl <| r_nn <| r_sr <| r_fieldAddr rfl rfl <| r_loadB 0 rfl rfl rfl (by rfl) ?_
  refine r_callP rfl rfl (tDepth_spec g e.ty _ (by omega) ⟨_, rfl, h5⟩) ?_
  refine r_ev rfl rfl <| r_ev rfl rfl ?_
  refine r_gdec rfl rfl (fun hd => ?_) (fun hd => ?_)
  ·have hb : decide (40 < depthT e.ty) = true := decide_eq_true (by omega)
   rw [hb]
   refine r_pass rfl rfl rfl <| r_pass rfl rfl rfl <| r_pass rfl rfl rfl <| r_ev rfl rfl <| r_ev rfl rfl <| r_nn <| r_retc ?_
   exact r_ret1 [] rfl rfl (by simp) ⟨rfl, rfl, rfl⟩
  ·have hb : decide (40 < depthT e.ty) = false := decide_eq_false (by omega)
   rw [hb]
   refine r_take rfl <| r_loadB 0 rfl rfl rfl (by rfl) ?_; refine r_take rfl ?_
   refine r_callN rfl rfl (tChildren_spec g _ e hv0 hsz) ?_
   rintro w g1 ⟨xs, hs1, hx1⟩ hle1
   obtain ⟨sa, sc, rfl⟩ := slForm2 hs1
   refine r_take rfl ?_
   refine r_callP rfl rfl (ContainsE_spec g1 (childE e) _ xs hs1 hx1 deepTy (fun t ht u hu => ih g1 t u (by have := childE_size ht; omega) (by have := childE_size ht; omega) (hwf.p3 t ht) hu)) ?_
   refine r_ev rfl rfl <| r_ev rfl rfl <| r_nn <| r_retc ?_
   refine r_shrink hE hle1 ?_
   exact r_ret1 [] rfl rfl (by simp) ⟨by rw [Bool.false_or], rfl, rfl⟩
theorem annotated_spec {M : Nat} (hM : M ≤ 1000000) (g : Ghost) (e : Ex) (v : Value) (hsz : sizeE e ≤ 1000000) (hwf : WfE M e) (hv : ExV g v e) : Pure Tryz.prog 111 [v] g (.bool (deepTy e)) := annotated_aux M hM _ g e v (Nat.lt_succ_self _) hsz hwf hv
theorem pdeep_spec {M : Nat} (hM : M ≤ 1000000) (g : Ghost) (e : Ex) (v : Value) (hsz : sizeE e ≤ 1000000) (hwf : WfE M e) (hv : ExV g v e) : Pure Tryz.prog 65 [v] g (.bool (deepEx e)) := by
 have hv0 := hv
 obtain ⟨a1, c1, a2, c2, a3, m3, c3, xk, xa, rfl, h1, h2, h3, h4, h5⟩ := hv.open
 unfold deepEx
 refine spec_of_run Tryz.func65 rfl Tryz.ntmps65 rfl fun E hE => ?_
 refine r_sr ?_
 refine r_box rfl rfl rfl (fun b1 => ?_)
 refine r_ev rfl rfl <| r_nn <| r_sr <| r_loadB 0 rfl rfl rfl (by rfl) ?_
 refine r_callP rfl rfl (treeDepth_spec g e _ hsz hv0) ?_
 refine r_ev rfl rfl <| r_ev rfl rfl ?_
 refine r_gdec rfl rfl (fun hd => ?_) (fun hd => ?_)
 ·have hb : decide (40 < depthE e) = true := decide_eq_true (by omega)
  rw [hb]
  refine r_pass rfl rfl rfl <| r_pass rfl rfl rfl <| r_ev rfl rfl <| r_ev rfl rfl <| r_nn <| r_retc ?_
  exact r_ret1 [] rfl rfl (by simp) ⟨rfl, rfl, rfl⟩
 ·have hb : decide (40 < depthE e) = false := decide_eq_false (by omega)
  rw [hb]
  refine r_take rfl <| r_loadB 0 rfl rfl rfl (by rfl) ?_; refine r_take rfl ?_
  refine r_callP rfl rfl (annotated_spec hM g e _ hsz hwf hv0) ?_
  refine r_ev rfl rfl <| r_ev rfl rfl <| r_nn <| r_retc ?_
  exact r_ret1 [] rfl rfl (by simp) ⟨by rw [Bool.false_or], rfl, rfl⟩
def ArmV (p : Int) (v : Value) : Prop := ∃ (c : Bytes) (a : Option Addr) (m k : Nat) (y1 y2 : Int) (y3 : Bytes) (y4 : Int) (a1 : Option Addr) (m1 c1 : Nat) (a2 : Option Addr) (m2 c2 : Nat) (z1 : Int) (z2 : Bytes) (z3 z4 : Int) (a3 : Option Addr) (m3 c3 : Nat),
 v = .agg #[.int .i64 p, str c, .slice a m k, .int .i64 y1, .int .i64 y2, str y3, .int .i64 y4, .slice a1 m1 c1, .slice a2 m2 c2, .int .i64 z1, str z2, .int .i64 z3, .int .i64 z4, .slice a3 m3 c3]
def WideV (o : Option Int) (v : Value) : Prop := ∃ p av, ArmV p av ∧ v = .tuple #[av, .bool o.isSome] ∧ ∀ q, o = some q → p = q
theorem wide_aux : ∀ (N : Nat) (g : Ghost) (e : Ex) (v : Value), sizeE e < N → sizeE e ≤ 1000000 → ExV g v e → SpecN Tryz.prog 66 [v] g fun w g' => g' = g ∧ WideV (wideE e) w
 | 0, _, _, _, h, _, _ => by omega
 | N + 1, g, e, v, h, hsz, hv => by
  have ih := wide_aux N
  have hv0 := hv
  have hcl := childE_len e
  obtain ⟨a1, c1, a2, c2, a3, m3, c3, xk, xa, rfl, h1, h2, h3, h4, h5⟩ := hv.open
  have hle3 := h3.le
  rw [wideE_child]
  refine spec_of_run Tryz.func66 rfl Tryz.ntmps66 rfl fun E hE => ?_
  refine r_sr ?_
  refine r_box rfl rfl rfl (fun b1 => ?_)
  refine r_alloc rfl (fun b2 => ?_)
  refine r_ev rfl rfl <| r_nn <| r_seq <| r_sr <| r_fieldAddr rfl rfl <| r_loadB1 1 rfl rfl rfl rfl <| r_len_sl rfl rfl <| r_ev rfl rfl <| r_nn <| r_block ?_
  refine r_loop (ι := Nat) (fun i => [(1, ptr b1 0), (2, ptr b2 0), (11, .slice a2 e.arms.length c2), (12, .int .i64 e.arms.length), (13, .int .i64 i)]) (fun _ => g) (fun _ => [.blk b2 110 (arCells 0 [] (.slice none 0 0) noEc), .blk b1 51 [.int .i64 e.kind, .int .i64 e.pos, str e.name, .int .i64 e.num, .slice a1 e.kids.length c1, .slice a2 e.arms.length c2, .int .i64 e.ty.kind, str e.ty.name, .int .i64 e.ty.id, .int .i64 e.ty.home, .slice a3 m3 c3]]) (fun i => i ≤ e.arms.length ∧ firstW e.arms = firstW (e.arms.drop i)) (fun i => e.arms.length - i) 0 ⟨Nat.zero_le _, by rw [List.drop_zero]⟩ ⟨rfl, rfl, rfl, rfl, rfl, trivial⟩ rfl rfl ?_
  rintro i ⟨hi, hj⟩
  refine r_sr <| r_ev rfl rfl <| r_nn <| r_seq ?_
  refine r_cond rfl (fun hlt => ?_) (fun hlt => ?_)
  ·have hlt' : i < e.arms.length := by omega
   obtain ⟨b, off, cap, hsl, hxx⟩ := h3.held hlt'
   cases hsl
   obtain ⟨slv, bc, hv1, hb2, hr⟩ := ars_rdA h4 hxx hlt'
   obtain ⟨va, vc, rfl⟩ := slForm2 hv1
   obtain ⟨d1, n1, o1, d2, n2, o2, d3, n3, o3, yk, ya, rfl, _⟩ := hb2.form
   rw [firstW_drop hlt'] at hj
   refine r_skip <| r_then_normal <| r_seq <| r_block <| r_sr <| r_indexAddr rfl rfl rfl rfl (by omega) ?_
   refine r_load rfl rfl (hr _) rfl ?_
   refine r_alloc rfl (fun b5 => ?_)
   refine r_storeA 0 rfl rfl rfl rfl (by rfl) (by repeat' (first | exact rfl | assumption | refine all_cons ?_ ?_)) rfl ?_; refine r_nn <| r_sr <| r_fieldAddr rfl rfl <| r_loadB1 0 rfl rfl rfl rfl <| r_len_sl rfl rfl <| r_ev rfl rfl <| r_nn ?_
   refine r_cond rfl (fun hw => ?_) (fun hw => ?_)
   ·rw [if_pos (by omega)] at hj
    rw [hj]
    refine r_sr <| r_loadB 0 rfl rfl rfl (by rfl) ?_; refine r_storeA 1 rfl rfl rfl rfl (by rfl) (by repeat' (first | exact rfl | assumption | refine all_cons ?_ ?_)) rfl ?_; refine r_ev rfl rfl <| r_nn <| r_retc <| r_in_ret <| r_then_ret <| r_then_ret <| r_in_ret <| r_then_ret ?_
    exact r_ret2 [] rfl (res_blk 1 rfl rfl (by rfl)) (.tmp rfl) (by simp) ⟨⟨rfl, _, _, ⟨_, _, _, _, _, _, _, _, _, _, _, _, _, _, _, _, _, _, _, _, _, rfl⟩, rfl, fun q hq => by simpa using hq⟩, rfl⟩
   ·rw [if_neg (by omega)] at hj
    refine r_skip <| r_in_normal <| r_then_normal <| r_region <| r_add rfl rfl rfl (by omega) ?_; refine r_ev rfl rfl <| r_nn ?_
    refine r_drop (own' := [_, _]) (.cons _ (List.Sublist.refl _)) ?_
    exact r_again (i + 1) ⟨by omega, hj⟩ (by omega) ⟨rfl, rfl, rfl, rfl, rfl, trivial⟩ rfl rfl
  ·have hil : i = e.arms.length := by omega
   rw [hil, List.drop_length] at hj
   rw [hj, show firstW [] = none from rfl, Option.none_or]
   refine r_exit <| r_then_exit <| r_then_exit <| r_in_exit <| r_then_normal <| r_seq <| r_sr <| r_loadB 1 rfl rfl rfl (by rfl) ?_
   refine r_callN rfl rfl (tChildren_spec g _ e hv0 hsz) ?_
   rintro w g1 ⟨xs, hs1, hx1⟩ hle1
   obtain ⟨sa, sc, rfl⟩ := slForm2 hs1
   refine r_len_sl rfl rfl <| r_ev rfl rfl <| r_nn <| r_block ?_
   refine r_drop (own' := [_]) (.cons_cons _ (List.nil_sublist _)) ?_
   refine r_loop (ι := Nat) (fun i => [(2, ptr b2 0), (24, .slice sa (childE e).length sc), (25, .int .i64 (childE e).length), (26, .int .i64 i)]) (fun _ => g1) (fun _ => [.blk b2 110 (arCells 0 [] (.slice none 0 0) noEc)]) (fun i => i ≤ (childE e).length ∧ wideEs (childE e) = wideEs ((childE e).drop i)) (fun i => (childE e).length - i) 0 ⟨Nat.zero_le _, by rw [List.drop_zero]⟩ ⟨rfl, rfl, rfl, rfl, trivial⟩ rfl rfl ?_
   rintro i ⟨hi, hj⟩
   refine r_sr <| r_ev rfl rfl <| r_nn <| r_seq ?_
   refine r_cond rfl (fun hlt2 => ?_) (fun hlt2 => ?_)
   ·have hlt' : i < (childE e).length := by omega
    obtain ⟨b, off, cap, hsl, hxc⟩ := hs1.held hlt'
    cases hsl
    obtain ⟨cs, k1, hr⟩ := exs_rdA hx1 hxc hlt'
    have hsz2 := childE_size (List.getElem_mem hlt')
    have k2 := k1
    obtain ⟨d1, n1, o1, d2, n2, o2, d3, n3, o3, yk, ya, rfl, _⟩ := k1.form
    rw [wideEs_drop hlt'] at hj
    refine r_skip <| r_then_normal <| r_seq <| r_block <| r_sr <| r_indexAddr rfl rfl rfl rfl (by omega) ?_
    refine r_load rfl rfl (hr _) rfl ?_
    refine r_alloc rfl (fun b7 => ?_)
    refine r_storeA 0 rfl rfl rfl rfl (by rfl) (by repeat' (first | exact rfl | assumption | refine all_cons ?_ ?_)) rfl ?_; refine r_nn <| r_sr <| r_loadB 0 rfl rfl rfl (by rfl) ?_
    refine r_callN rfl rfl (ih g1 (childE e)[i] _ (by omega) (by omega) ⟨_, rfl, k2⟩) ?_
    rintro w g2 ⟨rfl, p, av, hav, rfl, hpq⟩ _
    obtain ⟨u1, u2, u3, u4, u5, u6, u7, u8, u9, u10, u11, u12, u13, u14, u15, u16, u17, u18, u19, u20, u21, rfl⟩ := hav
    refine r_ev rfl rfl <| r_ev rfl rfl <| r_ev rfl rfl ?_
    refine r_alloc rfl (fun b8 => ?_)
    refine r_storeA 0 rfl rfl rfl rfl (by rfl) (by repeat' (first | exact rfl | assumption | refine all_cons ?_ ?_)) rfl ?_; refine r_ev rfl rfl <| r_nn <| r_sr <| r_ev rfl rfl <| r_nn ?_
    generalize wideE (childE e)[i] = o at hj hpq
    cases o with
    | some q =>
     obtain rfl := hpq q rfl
     rw [hj]
     refine r_cond_true rfl <| r_sr <| r_loadB 0 rfl rfl rfl (by rfl) ?_; refine r_storeA 2 rfl rfl rfl rfl (by rfl) (by repeat' (first | exact rfl | assumption | refine all_cons ?_ ?_)) rfl ?_; refine r_ev rfl rfl <| r_nn <| r_retc <| r_in_ret <| r_then_ret <| r_then_ret <| r_in_ret <| r_then_ret ?_
     refine r_shrink hE hle1 ?_
     exact r_ret2 [] rfl (res_blk 2 rfl rfl (by rfl)) (.tmp rfl) (by simp) ⟨⟨rfl, _, _, ⟨_, _, _, _, _, _, _, _, _, _, _, _, _, _, _, _, _, _, _, _, _, rfl⟩, rfl, fun q hq => by simpa using hq⟩, rfl⟩
    | none =>
     rw [Option.none_or] at hj
     refine r_cond_false rfl <| r_skip <| r_in_normal <| r_then_normal <| r_region <| r_add rfl rfl rfl (by omega) ?_; refine r_ev rfl rfl <| r_nn ?_
     refine r_drop (own' := [_]) (.cons _ (.cons _ (List.Sublist.refl _))) ?_
     exact r_again (i + 1) ⟨by omega, hj⟩ (by omega) ⟨rfl, rfl, rfl, rfl, trivial⟩ rfl rfl
   ·have hil : i = (childE e).length := by omega
    rw [hil, List.drop_length] at hj
    rw [hj, show wideEs [] = none from by simp [wideEs]]
    refine r_exit <| r_then_exit <| r_then_exit <| r_in_exit <| r_then_normal <| r_sr <| r_build rfl rfl (by rfl) ?_; refine r_storeA 0 rfl rfl rfl rfl (by rfl) (by repeat' (first | exact rfl | assumption | refine all_cons ?_ ?_)) rfl ?_; refine r_ev rfl rfl <| r_nn <| r_retc ?_
    refine r_shrink hE hle1 ?_
    exact r_ret2 [] rfl (res_blk 0 rfl rfl (by rfl)) (.tmp rfl) (by simp) ⟨⟨rfl, _, _, ⟨_, _, _, _, _, _, _, _, _, _, _, _, _, _, _, _, _, _, _, _, _, rfl⟩, rfl, fun q hq => by cases hq⟩, rfl⟩
theorem wide_spec (g : Ghost) (e : Ex) (v : Value) (hsz : sizeE e ≤ 1000000) (hv : ExV g v e) : SpecN Tryz.prog 66 [v] g fun w g' => g' = g ∧ WideV (wideE e) w := wide_aux _ g e v (Nat.lt_succ_self _) hsz hv
end Go.Proofs.YtpjehhnaojjanaaGreatDoor
-- sum b496f0e6e65e7325

/- The walks of readprogram's many and Deep. -/
namespace Go.Proofs.YtpjehhnaojjanaaGreatDoor
open Go Go.Eng Go.Th Go.Proofs
set_option maxRecDepth 10000
set_option maxHeartbeats 4000000
attribute [local irreducible] wpList Code.wp Run bodyPost Go.Eng.Ends Exit.then Exit.inBlock Again Wq Kq
abbrev fltV (x : Int × Int) : Value := .agg #[.int .i64 x.1, .int .i64 x.2]
def manyR (p : Pg) : Int × Int := match manyP p with
 | some q => (5, q)
 | none => (0, 0)
theorem BiAt.form {g : Ghost} {x : Bi} {cs : List Value} (h : BiAt g x cs) : ∃ (a : Option Addr) (m c : Nat) (a1 : Option Addr) (m1 c1 : Nat) (a2 : Option Addr) (m2 c2 : Nat) (a3 : Option Addr) (m3 c3 : Nat),
  cs = [.int .i64 x.pos, .bool x.isRec, str x.name, .bool x.hasSig, .int .i64 x.sig.kind, str x.sig.name, .int .i64 x.sig.id, .int .i64 x.sig.home, .slice a m c, .int .i64 x.body.kind, .int .i64 x.body.pos, str x.body.name, .int .i64 x.body.num, .slice a1 m1 c1, .slice a2 m2 c2, .int .i64 x.body.ty.kind, str x.body.ty.name, .int .i64 x.body.ty.id, .int .i64 x.body.ty.home, .slice a3 m3 c3] ∧
  TyAt g x.sig (tyCells x.sig (.slice a m c)) ∧ ExAt g x.body [.int .i64 x.body.kind, .int .i64 x.body.pos, str x.body.name, .int .i64 x.body.num, .slice a1 m1 c1, .slice a2 m2 c2, .int .i64 x.body.ty.kind, str x.body.ty.name, .int .i64 x.body.ty.id, .int .i64 x.body.ty.home, .slice a3 m3 c3] := by
 obtain ⟨tc, ec, rfl, h1, h2⟩ := h
 have h3 := h2
 obtain ⟨a1, m1, c1, a2, m2, c2, a3, m3, c3, xk, xa, rfl, _⟩ := h2.form
 obtain ⟨sl, rfl⟩ := h1.cells
 obtain ⟨_, hq, _⟩ := h1.args
 obtain ⟨u, w, rfl⟩ := slForm2 hq
 exact ⟨_, _, _, _, _, _, _, _, _, _, _, _, rfl, h1, h3⟩
theorem bindPos_at {l : List Bi} {i : Nat} (h : i < l.length) : bindPos l i = l[i].pos := by unfold bindPos; rw [List.getElem?_eq_getElem h]
structure WfP (p : Pg) : Prop where
 d : ∀ d ∈ p.datas, ∀ c ∈ d.cons, ∀ t ∈ c.fields, depthT t ≤ 1000000
 b : ∀ b ∈ p.binds, (b.hasSig = false → depthT b.sig ≤ 40) ∧ depthT b.sig ≤ 1000000 ∧ sizeE b.body ≤ 1000000 ∧ WfE 1000000 b.body
theorem many_spec (g : Ghost) (p : Pg) (v : Value) (hv : PgV g v p) : Pure Tryz.prog 61 [v] g (fltV (manyR p)) := by
 obtain ⟨cs, rfl, sd, xd, sb, xb, rfl, h1, h2, h3, h4⟩ := hv
 obtain ⟨da, dc, rfl⟩ := slForm2 h1
 obtain ⟨ba, bc, rfl⟩ := slForm2 h3
 have hl1 := h1.le
 refine spec_of_run Tryz.func61 rfl Tryz.ntmps61 rfl fun E hE => ?_
 refine r_sr ?_
 refine r_box rfl rfl rfl (fun b1 => ?_)
 refine r_alloc rfl (fun b2 => ?_)
 refine r_nn <| r_seq <| r_sr <| r_fieldAddr rfl rfl <| r_loadB1 1 rfl rfl rfl rfl <| r_len_sl rfl rfl <| r_ev rfl rfl <| r_nn <| r_block ?_
 refine r_loop (ι := Nat) (fun i => [(1, ptr b1 0), (2, ptr b2 0), (8, .slice da p.datas.length dc), (9, .int .i64 p.datas.length), (10, .int .i64 i)]) (fun _ => g) (fun _ => [.blk b2 32 [.int .i64 0, .int .i64 0], .blk b1 29 [.slice da p.datas.length dc, .slice ba p.binds.length bc]]) (fun i => i ≤ p.datas.length ∧ i ≤ 8 ∧ manyD 0 p.datas = manyD i (p.datas.drop i)) (fun i => p.datas.length - i) 0 ⟨Nat.zero_le _, by omega, by rw [List.drop_zero]⟩ ⟨rfl, rfl, rfl, rfl, rfl, trivial⟩ rfl rfl ?_
 rintro i ⟨hi, hi8, hj⟩
 refine r_sr <| r_ev rfl rfl <| r_nn <| r_seq ?_
 refine r_cond rfl (fun hlt => ?_) (fun hlt => ?_)
 ·have hlt' : i < p.datas.length := by omega
  obtain ⟨b, off, cap, hsl, hx⟩ := h1.held hlt'
  cases hsl
  obtain ⟨c, e1, hr⟩ := all_rd (fun _ _ h => h.one.1) h2 hx hlt'
  obtain ⟨a1, c1, a2, c2, xc, rfl, _, e3, e4⟩ := e1.form
  have hl3 := e3.le
  rw [manyD_drop hlt'] at hj
  have found : (8 ≤ i ∨ 4 < p.datas[i].params.length ∨ 6 < p.datas[i].cons.length) → manyR p = (5, p.datas[i].pos) := fun h => by
   rw [if_pos h] at hj
   unfold manyR manyP
   rw [hj]; rfl
  refine r_skip <| r_then_normal <| r_seq <| r_block <| r_sr <| r_ev rfl rfl <| r_indexAddr rfl rfl rfl rfl (by omega) ?_
  refine r_load rfl rfl (hr _) rfl ?_
  refine r_alloc rfl (fun b4 => ?_)
  refine r_ev rfl rfl <| r_storeA 0 rfl rfl rfl rfl (by rfl) (by repeat' (first | exact rfl | assumption | refine all_cons ?_ ?_)) rfl ?_; refine r_nn <| r_seq <| r_sr <| r_ev rfl rfl <| r_ev rfl rfl <| r_ev rfl rfl ?_
  refine r_gdec rfl rfl (fun h8 => ?_) (fun h8 => ?_)
  ·rw [found (by omega)]
   refine r_pass rfl rfl rfl <| r_pass rfl rfl rfl <| r_pass rfl rfl rfl <| r_pass rfl rfl rfl <| r_ev rfl rfl <| r_ev rfl rfl <| r_pass rfl rfl rfl <| r_pass rfl rfl rfl <| r_pass rfl rfl rfl <| r_pass rfl rfl rfl <| r_ev rfl rfl <| r_nn <| r_cond_true rfl <| r_sr ?_; refine r_fieldAddr rfl rfl <| r_loadB1 0 rfl rfl rfl rfl <| r_build rfl rfl (by rfl) ?_; refine r_storeA 1 rfl rfl rfl rfl (by rfl) (by repeat' (first | exact rfl | assumption | refine all_cons ?_ ?_)) rfl ?_; refine r_nn <| r_retc <| r_then_ret <| r_in_ret <| r_then_ret <| r_then_ret <| r_in_ret <| r_then_ret ?_
   exact r_retA [] rfl (res_blk 1 rfl rfl (by rfl)) (by simp) ⟨rfl, rfl, rfl⟩
  ·refine r_take rfl <| r_fieldAddr rfl rfl <| r_take rfl <| r_loadB1 0 rfl rfl rfl rfl <| r_take rfl <| r_len_sl rfl rfl <| r_tev rfl rfl rfl <| r_ev rfl rfl <| r_ev rfl rfl ?_
   refine r_gdec rfl rfl (fun hp => ?_) (fun hp => ?_)
   ·rw [found (by omega)]
    refine r_pass rfl rfl rfl <| r_pass rfl rfl rfl <| r_pass rfl rfl rfl <| r_pass rfl rfl rfl <| r_ev rfl rfl <| r_nn <| r_cond_true rfl <| r_sr <| r_fieldAddr rfl rfl <| r_loadB1 0 rfl rfl rfl rfl <| r_build rfl rfl (by rfl) ?_; refine r_storeA 1 rfl rfl rfl rfl (by rfl) (by repeat' (first | exact rfl | assumption | refine all_cons ?_ ?_)) rfl ?_; refine r_nn <| r_retc <| r_then_ret <| r_in_ret <| r_then_ret <| r_then_ret <| r_in_ret <| r_then_ret ?_
    exact r_retA [] rfl (res_blk 1 rfl rfl (by rfl)) (by simp) ⟨rfl, rfl, rfl⟩
   ·refine r_take rfl <| r_fieldAddr rfl rfl <| r_take rfl <| r_loadB1 0 rfl rfl rfl rfl <| r_take rfl <| r_len_sl rfl rfl <| r_tev rfl rfl rfl <| r_ev rfl rfl <| r_nn ?_
    refine r_cond rfl (fun hc => ?_) (fun hc => ?_)
    ·rw [found (by omega)]
     refine r_sr <| r_fieldAddr rfl rfl <| r_loadB1 0 rfl rfl rfl rfl <| r_build rfl rfl (by rfl) ?_; refine r_storeA 1 rfl rfl rfl rfl (by rfl) (by repeat' (first | exact rfl | assumption | refine all_cons ?_ ?_)) rfl ?_; refine r_nn <| r_retc <| r_then_ret <| r_in_ret <| r_then_ret <| r_then_ret <| r_in_ret <| r_then_ret ?_
     exact r_retA [] rfl (res_blk 1 rfl rfl (by rfl)) (by simp) ⟨rfl, rfl, rfl⟩
    ·rw [if_neg (by omega)] at hj
     refine r_skip <| r_then_normal <| r_sr <| r_fieldAddr rfl rfl <| r_loadB1 0 rfl rfl rfl rfl <| r_len_sl rfl rfl <| r_ev rfl rfl <| r_nn <| r_block ?_
     refine r_loop (ι := Nat) (fun k => [(1, ptr b1 0), (2, ptr b2 0), (8, .slice (some ⟨b, off, none⟩) p.datas.length dc), (9, .int .i64 p.datas.length), (10, .int .i64 i), (33, .slice a2 p.datas[i].cons.length c2), (34, .int .i64 p.datas[i].cons.length), (35, .int .i64 k)]) (fun _ => g) (fun _ => [.blk b4 86 [.int .i64 p.datas[i].pos, str p.datas[i].name, .slice a1 p.datas[i].params.length c1, .slice a2 p.datas[i].cons.length c2], .blk b2 32 [.int .i64 0, .int .i64 0], .blk b1 29 [.slice (some ⟨b, off, none⟩) p.datas.length dc, .slice ba p.binds.length bc]]) (fun k => k ≤ p.datas[i].cons.length ∧ manyC p.datas[i].cons = manyC (p.datas[i].cons.drop k)) (fun k => p.datas[i].cons.length - k) 0 ⟨Nat.zero_le _, by rw [List.drop_zero]⟩ ⟨rfl, rfl, rfl, rfl, rfl, rfl, rfl, rfl, trivial⟩ rfl rfl ?_
     rintro k ⟨hk, hjc⟩
     refine r_sr <| r_ev rfl rfl <| r_nn <| r_seq ?_
     refine r_cond rfl (fun hlt2 => ?_) (fun hlt2 => ?_)
     ·have hlt2' : k < p.datas[i].cons.length := by omega
      obtain ⟨b', off', cap', hsl', hx'⟩ := e3.held hlt2'
      cases hsl'
      obtain ⟨cc, f1, hr'⟩ := all_rd (fun _ _ h => h.one.1) e4 hx' hlt2'
      obtain ⟨a3, c3, xf, rfl, _, _⟩ := f1.form
      rw [manyC_drop hlt2'] at hjc
      refine r_skip <| r_then_normal <| r_seq <| r_block <| r_sr <| r_indexAddr rfl rfl rfl rfl (by omega) ?_
      refine r_load rfl rfl (hr' _) rfl ?_
      refine r_alloc rfl (fun b6 => ?_)
      refine r_storeA 0 rfl rfl rfl rfl (by rfl) (by repeat' (first | exact rfl | assumption | refine all_cons ?_ ?_)) rfl ?_; refine r_nn <| r_sr <| r_fieldAddr rfl rfl <| r_loadB1 0 rfl rfl rfl rfl <| r_len_sl rfl rfl <| r_ev rfl rfl <| r_nn ?_
      refine r_cond rfl (fun hf => ?_) (fun hf => ?_)
      ·have hres : manyR p = (5, p.datas[i].cons[k].pos) := by
        rw [if_pos (by omega)] at hjc
        unfold manyR manyP
        rw [hj, hjc]; rfl
       rw [hres]
       refine r_sr <| r_fieldAddr rfl rfl <| r_loadB1 0 rfl rfl rfl rfl <| r_build rfl rfl (by rfl) ?_; refine r_storeA 2 rfl rfl rfl rfl (by rfl) (by repeat' (first | exact rfl | assumption | refine all_cons ?_ ?_)) rfl ?_; refine r_nn <| r_retc <| r_in_ret <| r_then_ret <| r_then_ret <| r_in_ret <| r_in_ret <| r_then_ret <| r_then_ret <| r_in_ret <| r_then_ret ?_
       exact r_retA [] rfl (res_blk 2 rfl rfl (by rfl)) (by simp) ⟨rfl, rfl, rfl⟩
      ·rw [if_neg (by omega)] at hjc
       refine r_skip <| r_in_normal <| r_then_normal <| r_region <| r_add rfl rfl rfl (by omega) ?_; refine r_ev rfl rfl <| r_nn ?_
       refine r_drop (own' := [_, _, _]) (.cons _ (List.Sublist.refl _)) ?_
       exact r_again (k + 1) ⟨by omega, hjc⟩ (by omega) ⟨rfl, rfl, rfl, rfl, rfl, rfl, rfl, rfl, trivial⟩ rfl rfl
     ·have hkl : k = p.datas[i].cons.length := by omega
      rw [hkl, List.drop_length] at hjc
      rw [hjc, show manyC [] = none from rfl, Option.none_or] at hj
      refine r_exit <| r_then_exit <| r_then_exit <| r_in_exit <| r_in_normal <| r_then_normal <| r_region <| r_add rfl rfl rfl (by omega) ?_; refine r_ev rfl rfl <| r_nn ?_
      refine r_drop (own' := [_, _]) (.cons _ (List.Sublist.refl _)) ?_
      exact r_again (i + 1) ⟨by omega, by omega, hj⟩ (by omega) ⟨rfl, rfl, rfl, rfl, rfl, trivial⟩ rfl rfl
 ·have hil : i = p.datas.length := by omega
  rw [hil, List.drop_length] at hj
  have hj' : manyD 0 p.datas = none := hj
  refine r_exit <| r_then_exit <| r_then_exit <| r_in_exit <| r_then_normal <| r_seq <| r_sr <| r_fieldAddr rfl rfl <| r_loadB1 1 rfl rfl rfl rfl <| r_len_sl rfl rfl <| r_ev rfl rfl <| r_nn ?_
  refine r_cond rfl (fun h16 => ?_) (fun h16 => ?_)
  ·have h16' : 16 < p.binds.length := by omega
   obtain ⟨b, off, cap, hsl, hx⟩ := h3.held h16'
   cases hsl
   obtain ⟨c, e1, hr⟩ := all_rd (fun _ _ h => h.one.1) h4 hx h16'
   obtain ⟨y1, y2, y3, y4, y5, y6, y7, y8, y9, y10, y11, y12, rfl, _⟩ := e1.form
   have hres : manyR p = ((5 : Int), p.binds[16].pos) := by
    unfold manyR manyP
    rw [hj', Option.none_or, if_pos h16', bindPos_at h16']
   rw [hres]
   refine r_sr <| r_fieldAddr rfl rfl <| r_loadB1 1 rfl rfl rfl rfl <| r_indexAddr rfl rfl rfl rfl (by omega) ?_; refine r_fieldAddr rfl rfl ?_
   refine r_load1 rfl rfl ((hr _).at1 0 rfl) ?_
   refine r_build rfl rfl (by rfl) ?_; refine r_storeA 0 rfl rfl rfl rfl (by rfl) (by repeat' (first | exact rfl | assumption | refine all_cons ?_ ?_)) rfl ?_; refine r_nn <| r_retc <| r_then_ret ?_
   exact r_retA [] rfl (res_blk 0 rfl rfl (by rfl)) (by simp) ⟨rfl, rfl, rfl⟩
  ·have hres : manyR p = (0, 0) := by
    unfold manyR manyP
    rw [hj', Option.none_or, if_neg (by omega)]
   rw [hres]
   refine r_skip <| r_then_normal <| r_sr <| r_build rfl rfl (by rfl) ?_; refine r_storeA 0 rfl rfl rfl rfl (by rfl) (by repeat' (first | exact rfl | assumption | refine all_cons ?_ ?_)) rfl ?_; refine r_nn <| r_retc ?_
   exact r_retA [] rfl (res_blk 0 rfl rfl (by rfl)) (by simp) ⟨rfl, rfl, rfl⟩
theorem deepR_at {p : Pg} (h : manyP p = none) : deepR p = match deepDs p.datas with
  | some q => (4, q)
  | none => (deepBs p.binds).getD (0, 0) := by unfold deepR; rw [h]; rfl
theorem Deep_spec (g : Ghost) (p : Pg) (v : Value) (hw : WfP p) (hv : PgV g v p) : Pure Tryz.prog 20 [v] g (fltV (deepR p)) := by
 have hv0 := hv
 obtain ⟨cs, rfl, sd, xd, sb, xb, rfl, h1, h2, h3, h4⟩ := hv
 obtain ⟨da, dc, rfl⟩ := slForm2 h1
 obtain ⟨ba, bc, rfl⟩ := slForm2 h3
 have hl1 := h1.le
 have hl3 := h3.le
 refine spec_of_run Tryz.func20 rfl Tryz.ntmps20 rfl fun E hE => ?_
 refine r_sr ?_
 refine r_box rfl rfl rfl (fun b1 => ?_)
 refine r_alloc rfl (fun b2 => ?_)
 refine r_nn <| r_seq <| r_sr <| r_loadB 1 rfl rfl rfl (by rfl) ?_
 refine r_callP rfl rfl (many_spec g p _ hv0) ?_
 skip
 refine r_alloc rfl (fun b3 => ?_)
 refine r_storeA 0 rfl rfl rfl rfl (by rfl) (by repeat' (first | exact rfl | assumption | refine all_cons ?_ ?_)) rfl ?_; refine r_nn <| r_sr <| r_fieldAddr rfl rfl <| r_loadB1 0 rfl rfl rfl rfl <| r_ev rfl rfl <| r_nn ?_
 cases hm : manyP p with
 | some q =>
  have e1 : manyR p = (5, q) := by unfold manyR; rw [hm]
  have e2 : deepR p = (5, q) := by unfold deepR; rw [hm]
  rw [e1, e2]
  refine r_cond_true rfl <| r_sr <| r_loadB 0 rfl rfl rfl (by rfl) ?_; refine r_storeA 1 rfl rfl rfl rfl (by rfl) (by repeat' (first | exact rfl | assumption | refine all_cons ?_ ?_)) rfl ?_; refine r_nn <| r_retc <| r_then_ret ?_
  exact r_retA [] rfl (res_blk 1 rfl rfl (by rfl)) (by simp) ⟨rfl, rfl, rfl⟩
 | none =>
  have e1 : manyR p = (0, 0) := by unfold manyR; rw [hm]
  have e2 := deepR_at hm
  rw [e1]
  refine r_cond_false rfl <| r_skip <| r_then_normal <| r_seq <| r_sr <| r_fieldAddr rfl rfl <| r_loadB1 2 rfl rfl rfl rfl <| r_len_sl rfl rfl <| r_ev rfl rfl <| r_nn <| r_block ?_
  refine r_drop (own' := [_, _]) (.cons _ (List.Sublist.refl _)) ?_
  refine r_loop (ι := Nat) (fun i => [(1, ptr b1 0), (2, ptr b2 0), (19, .slice da p.datas.length dc), (20, .int .i64 p.datas.length), (21, .int .i64 i)]) (fun _ => g) (fun _ => [.blk b2 32 [.int .i64 0, .int .i64 0], .blk b1 29 [.slice da p.datas.length dc, .slice ba p.binds.length bc]]) (fun i => i ≤ p.datas.length ∧ deepDs p.datas = deepDs (p.datas.drop i)) (fun i => p.datas.length - i) 0 ⟨Nat.zero_le _, by rw [List.drop_zero]⟩ ⟨rfl, rfl, rfl, rfl, rfl, trivial⟩ rfl rfl ?_
  rintro i ⟨hi, hj⟩
  refine r_sr <| r_ev rfl rfl <| r_nn <| r_seq ?_
  refine r_cond rfl (fun hlt => ?_) (fun hlt => ?_)
  ·have hlt' : i < p.datas.length := by omega
   obtain ⟨b, off, cap, hsl, hx⟩ := h1.held hlt'
   cases hsl
   obtain ⟨c, e1', hr⟩ := all_rd (fun _ _ h => h.one.1) h2 hx hlt'
   obtain ⟨a1, c1, a2, c2, xc, rfl, _, e3, e4⟩ := e1'.form
   have hl3 := e3.le
   have hwd := hw.d _ (List.getElem_mem hlt')
   rw [deepDs_drop hlt'] at hj
   refine r_skip <| r_then_normal <| r_seq <| r_block <| r_sr <| r_indexAddr rfl rfl rfl rfl (by omega) ?_
   refine r_load rfl rfl (hr _) rfl ?_
   refine r_alloc rfl (fun b5 => ?_)
   refine r_storeA 0 rfl rfl rfl rfl (by rfl) (by repeat' (first | exact rfl | assumption | refine all_cons ?_ ?_)) rfl ?_; refine r_nn <| r_sr <| r_fieldAddr rfl rfl <| r_loadB1 0 rfl rfl rfl rfl <| r_len_sl rfl rfl <| r_ev rfl rfl <| r_nn <| r_block ?_
   refine r_loop (ι := Nat) (fun k => [(1, ptr b1 0), (2, ptr b2 0), (5, ptr b5 0), (19, .slice (some ⟨b, off, none⟩) p.datas.length dc), (20, .int .i64 p.datas.length), (21, .int .i64 i), (26, .slice a2 p.datas[i].cons.length c2), (27, .int .i64 p.datas[i].cons.length), (28, .int .i64 k)]) (fun _ => g) (fun _ => [.blk b5 86 [.int .i64 p.datas[i].pos, str p.datas[i].name, .slice a1 p.datas[i].params.length c1, .slice a2 p.datas[i].cons.length c2], .blk b2 32 [.int .i64 0, .int .i64 0], .blk b1 29 [.slice (some ⟨b, off, none⟩) p.datas.length dc, .slice ba p.binds.length bc]]) (fun k => k ≤ p.datas[i].cons.length ∧ deepCs p.datas[i].cons = deepCs (p.datas[i].cons.drop k)) (fun k => p.datas[i].cons.length - k) 0 ⟨Nat.zero_le _, by rw [List.drop_zero]⟩ ⟨rfl, rfl, rfl, rfl, rfl, rfl, rfl, rfl, rfl, trivial⟩ rfl rfl ?_
   rintro k ⟨hk, hjc⟩
   refine r_sr <| r_ev rfl rfl <| r_nn <| r_seq ?_
   refine r_cond rfl (fun hlt2 => ?_) (fun hlt2 => ?_)
   ·have hlt2' : k < p.datas[i].cons.length := by omega
    obtain ⟨b', off', cap', hsl', hx'⟩ := e3.held hlt2'
    cases hsl'
    obtain ⟨cc, f1, hr'⟩ := all_rd (fun _ _ h => h.one.1) e4 hx' hlt2'
    obtain ⟨a3, c3, xf, rfl, f2, f3⟩ := f1.form
    have hwc := hwd _ (List.getElem_mem hlt2')
    rw [deepCs_drop hlt2'] at hjc
    refine r_skip <| r_then_normal <| r_seq <| r_block <| r_sr <| r_indexAddr rfl rfl rfl rfl (by omega) ?_
    refine r_load rfl rfl (hr' _) rfl ?_
    refine r_alloc rfl (fun b7 => ?_)
    refine r_storeA 0 rfl rfl rfl rfl (by rfl) (by repeat' (first | exact rfl | assumption | refine all_cons ?_ ?_)) rfl ?_; refine r_nn <| r_sr <| r_fieldAddr rfl rfl <| r_loadB1 0 rfl rfl rfl rfl ?_
    refine r_callP rfl rfl (ContainsT_spec g p.datas[i].cons[k].fields _ xf f2 f3 (fun t => decide (40 < depthT t)) (fun t ht u hu => deepF_spec g t u (hwc t ht) hu)) ?_
    rw [show (p.datas[i].cons[k].fields.any fun t => decide (40 < depthT t)) = deepTl p.datas[i].cons[k].fields from rfl]
    cases hd : deepTl p.datas[i].cons[k].fields with
    | true =>
     rw [hd, Bool.true_or] at hjc
     rw [hjc, if_pos rfl] at hj
     rw [hj] at e2
     rw [e2]
     refine r_nn <| r_cond_true rfl <| r_sr <| r_fieldAddr rfl rfl <| r_loadB1 1 rfl rfl rfl rfl <| r_build rfl rfl (by rfl) ?_; refine r_storeA 2 rfl rfl rfl rfl (by rfl) (by repeat' (first | exact rfl | assumption | refine all_cons ?_ ?_)) rfl ?_; refine r_nn <| r_retc <| r_in_ret <| r_then_ret <| r_then_ret <| r_in_ret <| r_in_ret <| r_then_ret <| r_then_ret <| r_in_ret <| r_then_ret ?_
     exact r_retA [] rfl (res_blk 2 rfl rfl (by rfl)) (by simp) ⟨rfl, rfl, rfl⟩
    | false =>
     rw [hd, Bool.false_or] at hjc
     refine r_nn <| r_cond_false rfl <| r_skip <| r_in_normal <| r_then_normal <| r_region <| r_add rfl rfl rfl (by omega) ?_; refine r_ev rfl rfl <| r_nn ?_
     refine r_drop (own' := [_, _, _]) (.cons _ (List.Sublist.refl _)) ?_
     exact r_again (k + 1) ⟨by omega, hjc⟩ (by omega) ⟨rfl, rfl, rfl, rfl, rfl, rfl, rfl, rfl, rfl, trivial⟩ rfl rfl
   ·have hkl : k = p.datas[i].cons.length := by omega
    rw [hkl, List.drop_length] at hjc
    rw [hjc, if_neg (by simp [deepCs])] at hj
    refine r_exit <| r_then_exit <| r_then_exit <| r_in_exit <| r_in_normal <| r_then_normal <| r_region <| r_add rfl rfl rfl (by omega) ?_; refine r_ev rfl rfl <| r_nn ?_
    refine r_drop (own' := [_, _]) (.cons _ (List.Sublist.refl _)) ?_
    exact r_again (i + 1) ⟨by omega, hj⟩ (by omega) ⟨rfl, rfl, rfl, rfl, rfl, trivial⟩ rfl rfl
  ·have hil : i = p.datas.length := by omega
   rw [hil, List.drop_length] at hj
   have hj' : deepDs p.datas = none := hj
   rw [hj'] at e2
   simp only at e2
   refine r_exit <| r_then_exit <| r_then_exit <| r_in_exit <| r_then_normal <| r_seq <| r_sr <| r_fieldAddr rfl rfl <| r_loadB1 1 rfl rfl rfl rfl <| r_len_sl rfl rfl <| r_ev rfl rfl <| r_nn <| r_block ?_
   refine r_drop (own' := [_]) (.cons_cons _ (List.nil_sublist _)) ?_
   refine r_loop (ι := Nat) (fun i => [(2, ptr b2 0), (41, .slice ba p.binds.length bc), (42, .int .i64 p.binds.length), (43, .int .i64 i)]) (fun _ => g) (fun _ => [.blk b2 32 [.int .i64 0, .int .i64 0]]) (fun i => i ≤ p.binds.length ∧ deepBs p.binds = deepBs (p.binds.drop i)) (fun i => p.binds.length - i) 0 ⟨Nat.zero_le _, by rw [List.drop_zero]⟩ ⟨rfl, rfl, rfl, rfl, trivial⟩ rfl rfl ?_
   rintro i ⟨hi, hjb⟩
   refine r_sr <| r_ev rfl rfl <| r_nn <| r_seq ?_
   refine r_cond rfl (fun hltb => ?_) (fun hltb => ?_)
   ·have hlt' : i < p.binds.length := by omega
    obtain ⟨b, off, cap, hsl, hx⟩ := h3.held hlt'
    cases hsl
    obtain ⟨c, e1', hr⟩ := all_rd (fun _ _ h => h.one.1) h4 hx hlt'
    obtain ⟨y1, y2, y3, y4, y5, y6, y7, y8, y9, y10, y11, y12, rfl, e3, e4⟩ := e1'.form
    obtain ⟨w1, w2, w3, w4⟩ := hw.b _ (List.getElem_mem hlt')
    rw [deepBs_drop hlt'] at hjb
    refine r_skip <| r_then_normal <| r_seq <| r_block <| r_sr <| r_indexAddr rfl rfl rfl rfl (by omega) ?_
    refine r_load rfl rfl (hr _) rfl ?_
    refine r_alloc rfl (fun b9 => ?_)
    refine r_storeA 0 rfl rfl rfl rfl (by rfl) (by repeat' (first | exact rfl | assumption | refine all_cons ?_ ?_)) rfl ?_; refine r_nn <| r_seq <| r_sr <| r_fieldAddr rfl rfl <| r_loadB 0 rfl rfl rfl (by rfl) ?_
    refine r_callP rfl rfl (tDepth_spec g p.binds[i].sig _ w2 ⟨_, rfl, e3⟩) ?_
    refine r_ev rfl rfl <| r_ev rfl rfl ?_
    refine r_gdec rfl rfl (fun hd => ?_) (fun hd => ?_)
    ·have hb : (decide (40 < depthT p.binds[i].sig) || deepEx p.binds[i].body) = true := by rw [decide_eq_true (by omega), Bool.true_or]
     rw [if_pos hb] at hjb
     rw [hjb] at e2
     rw [e2]
     refine r_pass rfl rfl rfl <| r_pass rfl rfl rfl <| r_pass rfl rfl rfl <| r_ev rfl rfl <| r_nn <| r_cond_true rfl <| r_sr <| r_fieldAddr rfl rfl <| r_loadB1 0 rfl rfl rfl rfl <| r_build rfl rfl (by rfl) ?_; refine r_storeA 1 rfl rfl rfl rfl (by rfl) (by repeat' (first | exact rfl | assumption | refine all_cons ?_ ?_)) rfl ?_; refine r_nn <| r_retc <| r_then_ret <| r_in_ret <| r_then_ret <| r_then_ret <| r_in_ret <| r_then_ret ?_
     exact r_retA [] rfl (res_blk 1 rfl rfl (by rfl)) (by simp) ⟨rfl, rfl, rfl⟩
    ·have hb : (decide (40 < depthT p.binds[i].sig) || deepEx p.binds[i].body) = deepEx p.binds[i].body := by rw [decide_eq_false (by omega), Bool.false_or]
     rw [hb] at hjb
     refine r_take rfl <| r_fieldAddr rfl rfl <| r_take rfl <| r_loadB 0 rfl rfl rfl (by rfl) ?_; refine r_take rfl ?_
     refine r_callP rfl rfl (pdeep_spec (Nat.le_refl _) g p.binds[i].body _ w3 w4 ⟨_, rfl, e4⟩) ?_
     cases hdx : deepEx p.binds[i].body with
     | true =>
      rw [hdx, if_pos rfl] at hjb
      rw [hjb] at e2
      rw [e2]
      refine r_ev rfl rfl <| r_nn <| r_cond_true rfl <| r_sr <| r_fieldAddr rfl rfl <| r_loadB1 0 rfl rfl rfl rfl <| r_build rfl rfl (by rfl) ?_; refine r_storeA 1 rfl rfl rfl rfl (by rfl) (by repeat' (first | exact rfl | assumption | refine all_cons ?_ ?_)) rfl ?_; refine r_nn <| r_retc <| r_then_ret <| r_in_ret <| r_then_ret <| r_then_ret <| r_in_ret <| r_then_ret ?_
      exact r_retA [] rfl (res_blk 1 rfl rfl (by rfl)) (by simp) ⟨rfl, rfl, rfl⟩
     | false =>
      rw [hdx, if_neg (by decide)] at hjb
      refine r_ev rfl rfl <| r_nn <| r_cond_false rfl <| r_skip <| r_then_normal <| r_sr <| r_fieldAddr rfl rfl <| r_loadB 0 rfl rfl rfl (by rfl) ?_
      refine r_callN rfl rfl (wide_spec g p.binds[i].body _ w3 ⟨_, rfl, e4⟩) ?_
      rintro w g2 ⟨rfl, q, av, hav, rfl, hpq⟩ _
      obtain ⟨u1, u2, u3, u4, u5, u6, u7, u8, u9, u10, u11, u12, u13, u14, u15, u16, u17, u18, u19, u20, u21, rfl⟩ := hav
      generalize wideE p.binds[i].body = o at hjb hpq
      refine r_ev rfl rfl <| r_ev rfl rfl <| r_ev rfl rfl ?_
      refine r_alloc rfl (fun b10 => ?_)
      refine r_storeA 0 rfl rfl rfl rfl (by rfl) (by repeat' (first | exact rfl | assumption | refine all_cons ?_ ?_)) rfl ?_; refine r_ev rfl rfl <| r_nn <| r_sr <| r_ev rfl rfl <| r_nn ?_
      cases o with
      | some q' =>
       obtain rfl := hpq q' rfl
       rw [hjb] at e2
       rw [e2]
       refine r_cond_true rfl <| r_sr <| r_fieldAddr rfl rfl <| r_loadB1 0 rfl rfl rfl rfl <| r_build rfl rfl (by rfl) ?_; refine r_storeA 2 rfl rfl rfl rfl (by rfl) (by repeat' (first | exact rfl | assumption | refine all_cons ?_ ?_)) rfl ?_; refine r_nn <| r_retc <| r_in_ret <| r_then_ret <| r_then_ret <| r_in_ret <| r_then_ret ?_
       exact r_retA [] rfl (res_blk 2 rfl rfl (by rfl)) (by simp) ⟨rfl, rfl, rfl⟩
      | none =>
       rw [Option.map_none, Option.none_or] at hjb
       refine r_cond_false rfl <| r_skip <| r_in_normal <| r_then_normal <| r_region <| r_add rfl rfl rfl (by omega) ?_; refine r_ev rfl rfl <| r_nn ?_
       refine r_drop (own' := [_]) (.cons _ (.cons _ (List.Sublist.refl _))) ?_
       exact r_again (i + 1) ⟨by omega, hjb⟩ (by omega) ⟨rfl, rfl, rfl, rfl, trivial⟩ rfl rfl
   ·have hil : i = p.binds.length := by omega
    rw [hil, List.drop_length] at hjb
    have hjb' : deepBs p.binds = none := hjb
    rw [hjb'] at e2
    rw [e2]
    refine r_exit <| r_then_exit <| r_then_exit <| r_in_exit <| r_then_normal <| r_sr <| r_build rfl rfl (by rfl) ?_; refine r_storeA 0 rfl rfl rfl rfl (by rfl) (by repeat' (first | exact rfl | assumption | refine all_cons ?_ ?_)) rfl ?_; refine r_nn <| r_retc ?_
    exact r_retA [] rfl (res_blk 0 rfl rfl (by rfl)) (by simp) ⟨rfl, rfl, rfl⟩
end Go.Proofs.YtpjehhnaojjanaaGreatDoor
-- sum 7500fdf2dd4bdb72


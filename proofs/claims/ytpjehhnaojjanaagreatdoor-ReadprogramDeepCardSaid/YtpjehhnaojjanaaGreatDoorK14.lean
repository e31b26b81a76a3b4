/- The walks of the program's depth and width of types and expressions: types.Depth, tree.Children, tree.Depth; readprogram's wide, annotated, deep. -/
import Derived.Test.YtpjehhnaojjanaaGreatDoorK8
import Derived.Test.YtpjehhnaojjanaaGreatDoorK13
namespace Go.Proofs.YtpjehhnaojjanaaGreatDoor
open Go Go.Eng Go.Th Go.Proofs
set_option maxRecDepth 10000
set_option maxHeartbeats 4000000
attribute [local irreducible] wpList Code.wp Run bodyPost Go.Eng.Ends Exit.then Exit.inBlock Again Wq Kq
theorem tDepth_aux (g : Ghost) : ∀ (N : Nat) (t : Ty) (v : Value), SizeOf.sizeOf t < N → depthT t ≤ 1000000 → TyV g v t → Pure Tryz.prog 64 [v] g (.int .i64 (depthT t))
 | 0, _, _, h, _, _ => by omega
 | N + 1, t, v, h, hd, hv => by
  have ih := tDepth_aux g N
  obtain ⟨sl, rfl, h1⟩ := hv
  obtain ⟨xs, hs1, ht1⟩ := h1.args
  obtain ⟨a, c, rfl⟩ := slForm2 hs1
  have hle := hs1.le
  rw [depthT_eq] at hd ⊢
  refine spec_of_run Tryz.func64 rfl Tryz.ntmps64 rfl fun E hE => ?_
  refine r_sr ?_
  refine r_box rfl rfl rfl (fun b1 => ?_)
  refine r_ev rfl rfl <| r_nn <| r_sr <| r_ev rfl rfl <| r_nn <| r_seq <| r_sr <| r_fieldAddr rfl rfl <| r_loadB1 0 rfl rfl rfl rfl <| r_len_sl rfl rfl <| r_ev rfl rfl <| r_nn <| r_block ?_
  refine r_drop (own' := []) (List.nil_sublist _) ?_
  refine r_loop (ι := Nat) (fun i => [(3, .int .i64 (depthTs (t.args.take i))), (7, .slice a t.args.length c), (8, .int .i64 t.args.length), (9, .int .i64 i)]) (fun _ => g) (fun _ => []) (fun i => i ≤ t.args.length) (fun i => t.args.length - i) 0 (Nat.zero_le _) ⟨rfl, rfl, rfl, rfl, trivial⟩ rfl rfl ?_
  intro i hi
  refine r_sr <| r_ev rfl rfl <| r_nn <| r_seq ?_
  refine r_cond rfl (fun hlt => ?_) (fun hlt => ?_)
  ·have hlt' : i < t.args.length := by omega
   obtain ⟨b, off, cap, hsl, hx⟩ := hs1.held hlt'
   cases hsl
   obtain ⟨sl', h2, hr⟩ := tys_rdA ht1 hx hlt'
   obtain ⟨_, hq, _⟩ := h2.args
   obtain ⟨u1, w1, rfl⟩ := slForm2 hq
   have hm := depthTs_mem (List.getElem_mem hlt')
   have hsz : SizeOf.sizeOf t.args[i] < N := by
    have := List.sizeOf_lt_of_mem (List.getElem_mem hlt')
    cases t with
    | mk k n i hh ta => simp only [Ty.args] at this ⊢; simp at h; omega
   have hsu := depthTs_succ hlt'
   have hdi : depthTs (t.args.take i) ≤ depthTs t.args := by
    have := depthTs_app (t.args.take i) (t.args.drop i)
    rw [List.take_append_drop] at this
    omega
   refine r_skip <| r_then_normal <| r_seq <| r_block <| r_sr <| r_indexAddr rfl rfl rfl rfl (by omega) ?_
   refine r_load rfl rfl (hr _) rfl ?_
   refine r_alloc rfl (fun b5 => ?_)
   refine r_storeA 0 rfl rfl rfl rfl (by rfl) (by repeat' (first | exact rfl | assumption | refine all_cons ?_ ?_)) rfl ?_; refine r_nn <| r_region <| r_ev rfl rfl <| r_loadB 0 rfl rfl rfl (by rfl) ?_
   refine r_callP rfl rfl (ih t.args[i] _ hsz (by omega) ⟨_, rfl, h2⟩) ?_
   refine r_add rfl rfl rfl (by omega) ?_; refine r_max rfl rfl rfl <| r_ev rfl rfl <| r_nil <| r_in_normal <| r_then_normal <| r_region <| r_add rfl rfl rfl (by omega) ?_; refine r_ev rfl rfl <| r_nn ?_
   refine r_drop (own' := []) (List.nil_sublist _) ?_
   refine r_again (i + 1) (by omega) (by omega) ⟨?_, rfl, rfl, rfl, trivial⟩ rfl rfl
   rw [hsu]
   refine lkInt rfl ?_
   omega
  ·have hil : i = t.args.length := by omega
   subst hil
   refine r_exit <| r_then_exit <| r_then_exit <| r_in_exit <| r_then_normal <| r_sr <| r_ev rfl rfl <| r_ev rfl rfl <| r_nn <| r_retc ?_
   exact r_ret1 [] rfl rfl (by simp) ⟨by rw [List.take_length], rfl, rfl⟩
theorem tDepth_spec (g : Ghost) (t : Ty) (v : Value) (hd : depthT t ≤ 1000000) (hv : TyV g v t) : Pure Tryz.prog 64 [v] g (.int .i64 (depthT t)) := tDepth_aux g _ t v (Nat.lt_succ_self _) hd hv
theorem CloneE_spec (g : Ghost) (v : Value) (n : Nat) (xs : List Value) (hs : SlAt g 11 v n xs) (h1 : ∀ u ∈ xs, oneC u = true) (hn : n ≤ 1000000) : Eng.Spec Tryz.prog 147 [v] g [] fun w g' own' => g' = g ∧ own' = [.row 51 11 w n xs] := by
 obtain ⟨a, m, c, rfl⟩ := SlAt.form hs
 refine spec_of_run Tryz.func147 rfl Tryz.ntmps147 rfl fun E hE => ?_
 refine r_sr <| r_ev rfl rfl <| r_nn <| r_seq <| r_sr <| r_ev rfl rfl ?_
 refine r_v rfl (val_eql_slnil rfl rfl) ?_
 refine r_nn ?_
 cases a with
 | none =>
  have h0 : n = 0 ∧ xs = [] := by
   rcases hs.2 with ⟨_, h0⟩ | ⟨b, off, cap, he, _⟩
   ·have hl := hs.1
    rw [h0, Nat.zero_mul] at hl
    exact ⟨h0, List.eq_nil_of_length_eq_zero hl⟩
   ·simp at he
  obtain ⟨rfl, rfl⟩ := h0
  refine r_cond_true rfl <| r_sr <| r_ev rfl rfl <| r_nn <| r_retc <| r_then_ret ?_
  refine r_nilRow 51 11 ?_
  exact r_ret1 [_] rfl rfl (List.Sublist.refl _) ⟨rfl, rfl⟩
 | some ad =>
  refine r_cond_false rfl <| r_skip <| r_then_normal <| r_sr ?_
  refine r_buildSlice rfl rfl (by rfl) (by rfl) (by rfl) (by rfl) (by rfl) (fun b2 => ?_)
  refine r_ev rfl rfl ?_
  refine r_appendAt 0 rfl rfl rfl rfl hs (by rfl) (by rfl) h1 (by unfold maxLen; omega) (by omega) (fun v' _ => ?_)
  rw [Nat.zero_add]
  refine r_ev rfl rfl <| r_nn <| r_retc ?_
  exact r_ret1 [_] rfl rfl (List.Sublist.refl _) ⟨rfl, rfl⟩
theorem tChildren_spec (g : Ghost) (v : Value) (e : Ex) (hv : ExV g v e) (hsz : sizeE e ≤ 1000000) : SpecN Tryz.prog 112 [v] g fun w g' => ∃ xs, SlAt g' 11 w (childE e).length xs ∧ ExsAt g' (childE e) xs := by
 obtain ⟨a1, c1, a2, c2, a3, m3, c3, xk, xa, rfl, h1, h2, h3, h4, h5⟩ := hv.open
 have hlen := childE_len e
 have hcl : (childE e).length = e.kids.length + e.arms.length := by simp [childE]
 refine spec_of_run Tryz.func112 rfl Tryz.ntmps112 rfl fun E hE => ?_
 refine r_sr ?_
 refine r_box rfl rfl rfl (fun b1 => ?_)
 refine r_ev rfl rfl <| r_nn <| r_sr <| r_fieldAddr rfl rfl <| r_loadB1 0 rfl rfl rfl rfl ?_
 refine r_call' (lent := []) (kept := _) rfl rfl (List.Perm.refl _) (CloneE_spec g _ _ _ h1 (exs_one h2).2 (by omega)) ?_
 rintro w g1 own' ⟨rfl, rfl⟩ _
 refine r_ev rfl rfl <| r_nn <| r_seq <| r_sr <| r_fieldAddr rfl rfl <| r_loadB1 1 rfl rfl rfl rfl <| r_len_sl rfl rfl <| r_ev rfl rfl <| r_nn <| r_block ?_
 refine r_drop (own' := [_]) (.cons_cons _ (List.nil_sublist _)) ?_
 refine r_loop (ι := Nat × Value × List Value) (fun p => [(3, p.2.1), (10, .slice a2 e.arms.length c2), (11, .int .i64 e.arms.length), (12, .int .i64 p.1)]) (fun _ => g1) (fun p => [.row 51 11 p.2.1 (e.kids.length + p.1) p.2.2])
  (fun p => p.1 ≤ e.arms.length ∧ ExsAt g1 (e.kids ++ (e.arms.take p.1).map Ar.body) p.2.2) (fun p => e.arms.length - p.1) (0, w, xk) ⟨Nat.zero_le _, by simpa using h2⟩ ⟨rfl, rfl, rfl, rfl, trivial⟩ rfl (by simp) ?_
 rintro ⟨i, sv, xs⟩ ⟨hi, hx⟩
 simp only at hi hx
 show Run E _ [(3, sv), (10, .slice a2 e.arms.length c2), (11, .int .i64 e.arms.length), (12, .int .i64 i)] g1 [.row 51 11 sv (e.kids.length + i) xs] _
 refine r_sr <| r_ev rfl rfl <| r_nn <| r_seq ?_
 refine r_cond rfl (fun hlt => ?_) (fun hlt => ?_)
 ·have hlt' : i < e.arms.length := by omega
  obtain ⟨b, off, cap, hsl, hxx⟩ := h3.held hlt'
  cases hsl
  obtain ⟨slv, bc, hv1, hb2, hr⟩ := ars_rdA h4 hxx hlt'
  obtain ⟨va, vc, rfl⟩ := slForm2 hv1
  obtain ⟨d1, n1, o1, d2, n2, o2, d3, n3, o3, yk, ya, rfl, _⟩ := hb2.form
  refine r_skip <| r_then_normal <| r_seq <| r_block <| r_sr <| r_indexAddr rfl rfl rfl rfl (by omega) ?_
  refine r_load rfl rfl (hr _) rfl ?_
  refine r_alloc rfl (fun b5 => ?_)
  refine r_storeA 0 rfl rfl rfl rfl (by rfl) (by repeat' (first | exact rfl | assumption | refine all_cons ?_ ?_)) rfl ?_; refine r_nn <| r_region <| r_ev rfl rfl <| r_fieldAddr rfl rfl <| r_loadB 0 rfl rfl rfl (by rfl) ?_
  refine r_buildSlice rfl rfl (by rfl) (by rfl) (by rfl) (by rfl) (by rfl) (fun b22 => ?_)
  refine r_appendRow 2 0 rfl rfl rfl rfl rfl (by rfl) (by rfl) rfl (by unfold maxLen; omega) (by omega) (fun w' _ => ?_)
  refine r_drop (own' := [_]) (.cons _ (.cons _ (List.Sublist.refl _))) ?_
  refine r_ev rfl rfl <| r_nil <| r_in_normal <| r_then_normal <| r_region <| r_add rfl rfl rfl (by omega) ?_; refine r_ev rfl rfl <| r_nn ?_
  refine r_again (i + 1, w', xs ++ [.int .i64 e.arms[i].body.kind, .int .i64 e.arms[i].body.pos, str e.arms[i].body.name, .int .i64 e.arms[i].body.num, .slice d1 n1 o1, .slice d2 n2 o2, .int .i64 e.arms[i].body.ty.kind, str e.arms[i].body.ty.name, .int .i64 e.arms[i].body.ty.id, .int .i64 e.arms[i].body.ty.home, .slice d3 n3 o3]) ⟨hlt', ?_⟩ (by simp only; omega) ⟨rfl, rfl, rfl, rfl, trivial⟩ rfl ?_
  ·simp only
   rw [take_snoc hlt', List.map_append, ← List.append_assoc]
   exact exs_snoc hx hb2
  ·simp [repN, Nat.add_assoc]
 ·have hil : i = e.arms.length := by omega
  subst hil
  rw [List.take_length] at hx
  refine r_publishRow (fun g2 hg2 hs2 => ?_)
  refine r_exit <| r_then_exit <| r_then_exit <| r_in_exit <| r_then_normal <| r_sr <| r_ev rfl rfl <| r_ev rfl rfl <| r_nn <| r_retc ?_
  exact r_ret1 [] rfl rfl (by simp) ⟨⟨_, by rw [hcl]; exact hs2, ExsAt.mono hg2 _ _ hx⟩, rfl⟩
theorem treeDepth_aux : ∀ (N : Nat) (g : Ghost) (e : Ex) (v : Value), sizeE e < N → sizeE e ≤ 1000000 → ExV g v e → Pure Tryz.prog 110 [v] g (.int .i64 (depthE e))
 | 0, _, _, _, h, _, _ => by omega
 | N + 1, g, e, v, h, hsz, hv => by
  have ih := treeDepth_aux N
  have hcl := childE_len e
  have hds := depthE_size e
  have hv0 := hv
  obtain ⟨a1, c1, a2, c2, a3, m3, c3, xk, xa, rfl, h1, h2, h3, h4, h5⟩ := hv.open
  rw [depthE_child] at hds ⊢
  refine spec_of_run Tryz.func110 rfl Tryz.ntmps110 rfl fun E hE => ?_
  refine r_sr ?_
  refine r_box rfl rfl rfl (fun b1 => ?_)
  refine r_ev rfl rfl <| r_nn <| r_sr <| r_ev rfl rfl <| r_nn <| r_seq <| r_sr <| r_loadB 0 rfl rfl rfl (by rfl) ?_
  refine r_callN rfl rfl (tChildren_spec g _ e hv0 hsz) ?_
  rintro w g1 ⟨xs, hs1, hx1⟩ hle1
  obtain ⟨sa, sc, rfl⟩ := slForm2 hs1
  refine r_len_sl rfl rfl <| r_ev rfl rfl <| r_nn <| r_block ?_
  refine r_drop (own' := []) (List.nil_sublist _) ?_
  refine r_loop (ι := Nat) (fun i => [(3, .int .i64 (depthEs ((childE e).take i))), (7, .slice sa (childE e).length sc), (8, .int .i64 (childE e).length), (9, .int .i64 i)]) (fun _ => g1) (fun _ => []) (fun i => i ≤ (childE e).length) (fun i => (childE e).length - i) 0 (Nat.zero_le _) ⟨rfl, rfl, rfl, rfl, trivial⟩ rfl rfl ?_
  intro i hi
  refine r_sr <| r_ev rfl rfl <| r_nn <| r_seq ?_
  refine r_cond rfl (fun hlt => ?_) (fun hlt => ?_)
  ·have hlt' : i < (childE e).length := by omega
   obtain ⟨b, off, cap, hsl, hxc⟩ := hs1.held hlt'
   cases hsl
   obtain ⟨cs, k1, hr⟩ := exs_rdA hx1 hxc hlt'
   have hsz2 := childE_size (List.getElem_mem hlt')
   have hsu := depthEs_succ hlt'
   have hdt := depthEs_take (childE e) (i + 1)
   have k2 := k1
   obtain ⟨d1, n1, o1, d2, n2, o2, d3, n3, o3, yk, ya, rfl, _⟩ := k1.form
   refine r_skip <| r_then_normal <| r_seq <| r_block <| r_sr <| r_indexAddr rfl rfl rfl rfl (by omega) ?_
   refine r_load rfl rfl (hr _) rfl ?_
   refine r_alloc rfl (fun b5 => ?_)
   refine r_storeA 0 rfl rfl rfl rfl (by rfl) (by repeat' (first | exact rfl | assumption | refine all_cons ?_ ?_)) rfl ?_; refine r_nn <| r_region <| r_ev rfl rfl <| r_loadB 0 rfl rfl rfl (by rfl) ?_
   refine r_callP rfl rfl (ih g1 (childE e)[i] _ (by omega) (by omega) ⟨_, rfl, k2⟩) ?_
   refine r_add rfl rfl rfl (by omega) ?_; refine r_max rfl rfl rfl <| r_ev rfl rfl <| r_nil <| r_in_normal <| r_then_normal <| r_region <| r_add rfl rfl rfl (by omega) ?_; refine r_ev rfl rfl <| r_nn ?_
   refine r_drop (own' := []) (List.nil_sublist _) ?_
   refine r_again (i + 1) (by omega) (by omega) ⟨?_, rfl, rfl, rfl, trivial⟩ rfl rfl
   rw [hsu]
   refine lkInt rfl ?_
   omega
  ·have hil : i = (childE e).length := by omega
   subst hil
   refine r_exit <| r_then_exit <| r_then_exit <| r_in_exit <| r_then_normal <| r_sr <| r_ev rfl rfl <| r_ev rfl rfl <| r_nn <| r_retc ?_
   refine r_shrink hE hle1 ?_
   exact r_ret1 [] rfl rfl (by simp) ⟨by rw [List.take_length], rfl, rfl⟩
theorem treeDepth_spec (g : Ghost) (e : Ex) (v : Value) (hsz : sizeE e ≤ 1000000) (hv : ExV g v e) : Pure Tryz.prog 110 [v] g (.int .i64 (depthE e)) := treeDepth_aux _ g e v (Nat.lt_succ_self _) hsz hv
end Go.Proofs.YtpjehhnaojjanaaGreatDoor
-- sum 90623d9c6dcc471b

/- The walks of readprogram's wide, annotated, deep, of slices.ContainsFunc at its uses, and of many. -/
namespace Go.Th
def idxF {α : Type} (P : α → Bool) : Nat → List α → Int
 | _, [] => -1
 | i, a :: r => if P a then i else idxF P (i + 1) r
theorem idxF_iff {α : Type} (P : α → Bool) : ∀ (l : List α) (i : Nat), 0 ≤ idxF P i l ↔ l.any P = true
 | [], i => by simp [idxF]
 | a :: r, i => by
  have e : idxF P i (a :: r) = if P a then (i : Int) else idxF P (i + 1) r := rfl
  rw [e, List.any_cons]
  by_cases h : P a = true
  ·rw [if_pos h, h]; simp
  ·rw [if_neg h, idxF_iff P r (i + 1)]
   simp only [Bool.not_eq_true] at h
   rw [h, Bool.false_or]
theorem idxF_any {α : Type} (P : α → Bool) (l : List α) (i : Nat) : decide (0 ≤ idxF P i l) = l.any P := by
 rw [Bool.eq_iff_iff, decide_eq_true_eq]
 exact idxF_iff P l i
theorem idxF_drop {α : Type} (P : α → Bool) {l : List α} {i : Nat} (h : i < l.length) : idxF P i (l.drop i) = if P l[i] then (i : Int) else idxF P (i + 1) (l.drop (i + 1)) := by
 rw [List.drop_eq_getElem_cons h, idxF]
theorem deepTys_any : ∀ l : List Ex, deepTys l = l.any deepTy
 | [] => rfl
 | a :: r => by simp only [deepTys, List.any_cons, deepTys_any r]
end Go.Th
namespace Go.Proofs.YtpjehhnaojjanaaGreatDoor
open Go Go.Eng Go.Th Go.Proofs
set_option maxRecDepth 10000
set_option maxHeartbeats 4000000
attribute [local irreducible] wpList Code.wp Run bodyPost Go.Eng.Ends Exit.then Exit.inBlock Again Wq Kq
abbrev fnV (f : FuncId) : Value := .func (.func f) #[] #[]
theorem IndexT_spec (g : Ghost) (l : List Ty) (v : Value) (xs : List Value) (hs : SlAt g 5 v l.length xs) (ht : TysAt g l xs) (P : Ty → Bool) (hP : ∀ t ∈ l, ∀ u, TyV g u t → Pure Tryz.prog 63 [u] g (.bool (P t))) :
  Pure Tryz.prog 109 [v, fnV 63] g (.int .i64 (idxF P 0 l)) := by
 have hle := hs.le
 obtain ⟨a, c, rfl⟩ := slForm2 hs
 refine spec_of_run Tryz.func109 rfl Tryz.ntmps109 rfl fun E hE => ?_
 refine r_sr ?_
 refine r_ev rfl rfl <| r_nn <| r_seq <| r_sr <| r_ev rfl rfl <| r_len_sl rfl rfl <| r_ev rfl rfl <| r_nn <| r_block ?_
 refine r_loop (ι := Nat) (fun i => [(0, .slice a l.length c), (1, fnV 63), (7, .int .i64 l.length), (8, .int .i64 i)]) (fun _ => g) (fun _ => []) (fun i => i ≤ l.length ∧ idxF P 0 l = idxF P i (l.drop i)) (fun i => l.length - i) 0 ⟨Nat.zero_le _, by rw [List.drop_zero]⟩ ⟨rfl, rfl, rfl, rfl, trivial⟩ rfl rfl ?_
 rintro i ⟨hi, hj⟩
 refine r_sr <| r_ev rfl rfl <| r_nn <| r_seq ?_
 refine r_cond rfl (fun hlt => ?_) (fun hlt => ?_)
 ·have hlt' : i < l.length := by omega
  obtain ⟨b, off, cap, hsl, hx⟩ := hs.held hlt'
  cases hsl
  obtain ⟨sl', h2, hr⟩ := tys_rdA ht hx hlt'
  rw [idxF_drop P hlt'] at hj
  refine r_skip <| r_then_normal <| r_seq <| r_block <| r_sr <| r_ev rfl rfl <| r_ev rfl rfl <| r_nn <| r_sr <| r_ev rfl rfl <| r_ev rfl rfl <| r_ev rfl rfl <| r_indexAddr rfl rfl rfl rfl (by omega) ?_
  refine r_load rfl rfl (hr _) rfl ?_
  refine r_callF' (us := []) (cs := []) (lent := []) (kept := _) rfl rfl rfl (List.Perm.refl _) (hP _ (List.getElem_mem hlt') _ ⟨_, rfl, h2⟩) ?_
  rintro w g1 own' ⟨rfl, rfl, rfl⟩ _
  cases hk : P l[i] with
  | true =>
   rw [hk] at hj
   refine r_nn <| r_cond_true rfl <| r_sr <| r_ev rfl rfl <| r_ev rfl rfl <| r_nn <| r_retc <| r_in_ret <| r_then_ret <| r_then_ret <| r_in_ret <| r_then_ret ?_
   exact r_ret1 [] rfl rfl (by simp) ⟨by rw [hj]; rfl, rfl, rfl⟩
  | false =>
   rw [hk] at hj
   refine r_nn <| r_cond_false rfl <| r_skip <| r_in_normal <| r_then_normal <| r_region <| r_add rfl rfl rfl (by omega) ?_; refine r_ev rfl rfl <| r_nn ?_
   exact r_again (i + 1) ⟨by omega, hj⟩ (by omega) ⟨rfl, rfl, rfl, rfl, trivial⟩ rfl rfl
 ·have hil : i = l.length := by omega
  rw [hil, List.drop_length] at hj
  refine r_exit <| r_then_exit <| r_then_exit <| r_in_exit <| r_then_normal <| r_sr <| r_ev rfl rfl <| r_nn <| r_retc ?_
  exact r_ret1 [] rfl rfl (by simp) ⟨by rw [hj]; rfl, rfl, rfl⟩
theorem ContainsT_spec (g : Ghost) (l : List Ty) (v : Value) (xs : List Value) (hs : SlAt g 5 v l.length xs) (ht : TysAt g l xs) (P : Ty → Bool) (hP : ∀ t ∈ l, ∀ u, TyV g u t → Pure Tryz.prog 63 [u] g (.bool (P t))) :
  Pure Tryz.prog 62 [v, fnV 63] g (.bool (l.any P)) := by
 obtain ⟨a, c, rfl⟩ := slForm2 hs
 refine spec_of_run Tryz.func62 rfl Tryz.ntmps62 rfl fun E hE => ?_
 refine r_sr ?_
 refine r_ev rfl rfl <| r_nn <| r_sr <| r_ev rfl rfl <| r_ev rfl rfl ?_
 refine r_callP rfl rfl (IndexT_spec g l _ xs hs ht P hP) ?_
 refine r_ev rfl rfl <| r_ev rfl rfl <| r_nn <| r_retc ?_
 exact r_ret1 [] rfl rfl (by simp) ⟨by rw [← idxF_any P l 0], rfl, rfl⟩
theorem IndexE_spec (g : Ghost) (l : List Ex) (v : Value) (xs : List Value) (hs : SlAt g 11 v l.length xs) (ht : ExsAt g l xs) (P : Ex → Bool) (hP : ∀ t ∈ l, ∀ u, ExV g u t → Pure Tryz.prog 111 [u] g (.bool (P t))) :
  Pure Tryz.prog 180 [v, fnV 111] g (.int .i64 (idxF P 0 l)) := by
 have hle := hs.le
 obtain ⟨a, c, rfl⟩ := slForm2 hs
 refine spec_of_run Tryz.func180 rfl Tryz.ntmps180 rfl fun E hE => ?_
 refine r_sr ?_
 refine r_ev rfl rfl <| r_nn <| r_seq <| r_sr <| r_ev rfl rfl <| r_len_sl rfl rfl <| r_ev rfl rfl <| r_nn <| r_block ?_
 refine r_loop (ι := Nat) (fun i => [(0, .slice a l.length c), (1, fnV 111), (7, .int .i64 l.length), (8, .int .i64 i)]) (fun _ => g) (fun _ => []) (fun i => i ≤ l.length ∧ idxF P 0 l = idxF P i (l.drop i)) (fun i => l.length - i) 0 ⟨Nat.zero_le _, by rw [List.drop_zero]⟩ ⟨rfl, rfl, rfl, rfl, trivial⟩ rfl rfl ?_
 rintro i ⟨hi, hj⟩
 refine r_sr <| r_ev rfl rfl <| r_nn <| r_seq ?_
 refine r_cond rfl (fun hlt => ?_) (fun hlt => ?_)
 ·have hlt' : i < l.length := by omega
  obtain ⟨b, off, cap, hsl, hx⟩ := hs.held hlt'
  cases hsl
  obtain ⟨cs, h2, hr⟩ := exs_rdA ht hx hlt'
  rw [idxF_drop P hlt'] at hj
  refine r_skip <| r_then_normal <| r_seq <| r_block <| r_sr <| r_ev rfl rfl <| r_ev rfl rfl <| r_nn <| r_sr <| r_ev rfl rfl <| r_ev rfl rfl <| r_ev rfl rfl <| r_indexAddr rfl rfl rfl rfl (by omega) ?_
  refine r_load rfl rfl (hr _) h2.one.1 ?_
  refine r_callF' (us := []) (cs := []) (lent := []) (kept := _) rfl rfl rfl (List.Perm.refl _) (hP _ (List.getElem_mem hlt') _ ⟨_, rfl, h2⟩) ?_
  rintro w g1 own' ⟨rfl, rfl, rfl⟩ _
  cases hk : P l[i] with
  | true =>
   rw [hk] at hj
   refine r_nn <| r_cond_true rfl <| r_sr <| r_ev rfl rfl <| r_ev rfl rfl <| r_nn <| r_retc <| r_in_ret <| r_then_ret <| r_then_ret <| r_in_ret <| r_then_ret ?_
   exact r_ret1 [] rfl rfl (by simp) ⟨by rw [hj]; rfl, rfl, rfl⟩
  | false =>
   rw [hk] at hj
   refine r_nn <| r_cond_false rfl <| r_skip <| r_in_normal <| r_then_normal <| r_region <| r_add rfl rfl rfl (by omega) ?_; refine r_ev rfl rfl <| r_nn ?_
   exact r_again (i + 1) ⟨by omega, hj⟩ (by omega) ⟨rfl, rfl, rfl, rfl, trivial⟩ rfl rfl
 ·have hil : i = l.length := by omega
  rw [hil, List.drop_length] at hj
  refine r_exit <| r_then_exit <| r_then_exit <| r_in_exit <| r_then_normal <| r_sr <| r_ev rfl rfl <| r_nn <| r_retc ?_
  exact r_ret1 [] rfl rfl (by simp) ⟨by rw [hj]; rfl, rfl, rfl⟩
theorem ContainsE_spec (g : Ghost) (l : List Ex) (v : Value) (xs : List Value) (hs : SlAt g 11 v l.length xs) (ht : ExsAt g l xs) (P : Ex → Bool) (hP : ∀ t ∈ l, ∀ u, ExV g u t → Pure Tryz.prog 111 [u] g (.bool (P t))) :
  Pure Tryz.prog 146 [v, fnV 111] g (.bool (l.any P)) := by
 obtain ⟨a, c, rfl⟩ := slForm2 hs
 refine spec_of_run Tryz.func146 rfl Tryz.ntmps146 rfl fun E hE => ?_
 refine r_sr ?_
 refine r_ev rfl rfl <| r_nn <| r_sr <| r_ev rfl rfl <| r_ev rfl rfl ?_
 refine r_callP rfl rfl (IndexE_spec g l _ xs hs ht P hP) ?_
 refine r_ev rfl rfl <| r_ev rfl rfl <| r_nn <| r_retc ?_
 exact r_ret1 [] rfl rfl (by simp) ⟨by rw [← idxF_any P l 0], rfl, rfl⟩
theorem deepF_spec (g : Ghost) (t : Ty) (v : Value) (hd : depthT t ≤ 1000000) (hv : TyV g v t) : Pure Tryz.prog 63 [v] g (.bool (decide (40 < depthT t))) := by
 have hv0 := hv
 obtain ⟨sl, rfl, h1⟩ := hv
 obtain ⟨xs, hs1, _⟩ := h1.args
 obtain ⟨a, c, rfl⟩ := slForm2 hs1
 refine spec_of_run Tryz.func63 rfl Tryz.ntmps63 rfl fun E hE => ?_
 refine r_sr ?_
 refine r_box rfl rfl rfl (fun b1 => ?_)
 refine r_ev rfl rfl <| r_nn <| r_sr <| r_loadB 0 rfl rfl rfl (by rfl) ?_
 refine r_callP rfl rfl (tDepth_spec g t _ hd hv0) ?_
 refine r_ev rfl rfl <| r_ev rfl rfl <| r_nn <| r_retc ?_
 exact r_ret1 [] rfl rfl (by simp) ⟨by congr 1; rw [decide_eq_decide]; omega, rfl, rfl⟩
theorem annotated_aux (M : Nat) (hM : M ≤ 1000000) : ∀ (N : Nat) (g : Ghost) (e : Ex) (v : Value), sizeE e < N → sizeE e ≤ 1000000 → WfE M e → ExV g v e → Pure Tryz.prog 111 [v] g (.bool (deepTy e))
 | 0, _, _, _, h, _, _, _ => by omega
 | N + 1, g, e, v, h, hsz, hwf, hv => by
  have ih := annotated_aux M hM N
  have hv0 := hv
  have hp2 := hwf.p2
  obtain ⟨a1, c1, a2, c2, a3, m3, c3, xk, xa, rfl, h1, h2, h3, h4, h5⟩ := hv.open
  rw [deepTy_child, deepTys_any]
  refine spec_of_run Tryz.func111 rfl Tryz.ntmps111 rfl fun E hE => ?_
  refine r_sr ?_
  refine r_box rfl rfl rfl (fun b1 => ?_)
  refine r_ev rfl rfl <| r_nn <| r_sr <| r_fieldAddr rfl rfl <| r_loadB 0 rfl rfl rfl (by rfl) ?_
  refine r_callP rfl rfl (tDepth_spec g e.ty _ (by omega) ⟨_, rfl, h5⟩) ?_
  refine r_ev rfl rfl <| r_ev rfl rfl ?_
  refine r_gdec rfl rfl (fun hd => ?_) (fun hd => ?_)
  ·have hb : decide (40 < depthT e.ty) = true := decide_eq_true (by omega)
   rw [hb]
   refine r_pass rfl rfl rfl <| r_pass rfl rfl rfl <| r_pass rfl rfl rfl <| r_ev rfl rfl <| r_ev rfl rfl <| r_nn <| r_retc ?_
   exact r_ret1 [] rfl rfl (by simp) ⟨rfl, rfl, rfl⟩
  ·have hb : decide (40 < depthT e.ty) = false := decide_eq_false (by omega)
   rw [hb]
   refine r_take rfl <| r_loadB 0 rfl rfl rfl (by rfl) ?_; refine r_take rfl ?_
   refine r_callN rfl rfl (tChildren_spec g _ e hv0 hsz) ?_
   rintro w g1 ⟨xs, hs1, hx1⟩ hle1
   obtain ⟨sa, sc, rfl⟩ := slForm2 hs1
   refine r_take rfl ?_
   refine r_callP rfl rfl (ContainsE_spec g1 (childE e) _ xs hs1 hx1 deepTy (fun t ht u hu => ih g1 t u (by have := childE_size ht; omega) (by have := childE_size ht; omega) (hwf.p3 t ht) hu)) ?_
   refine r_ev rfl rfl <| r_ev rfl rfl <| r_nn <| r_retc ?_
   refine r_shrink hE hle1 ?_
   exact r_ret1 [] rfl rfl (by simp) ⟨by rw [Bool.false_or], rfl, rfl⟩
theorem annotated_spec {M : Nat} (hM : M ≤ 1000000) (g : Ghost) (e : Ex) (v : Value) (hsz : sizeE e ≤ 1000000) (hwf : WfE M e) (hv : ExV g v e) : Pure Tryz.prog 111 [v] g (.bool (deepTy e)) := annotated_aux M hM _ g e v (Nat.lt_succ_self _) hsz hwf hv
theorem pdeep_spec {M : Nat} (hM : M ≤ 1000000) (g : Ghost) (e : Ex) (v : Value) (hsz : sizeE e ≤ 1000000) (hwf : WfE M e) (hv : ExV g v e) : Pure Tryz.prog 65 [v] g (.bool (deepEx e)) := by
 have hv0 := hv
 obtain ⟨a1, c1, a2, c2, a3, m3, c3, xk, xa, rfl, h1, h2, h3, h4, h5⟩ := hv.open
 unfold deepEx
 refine spec_of_run Tryz.func65 rfl Tryz.ntmps65 rfl fun E hE => ?_
 refine r_sr ?_
 refine r_box rfl rfl rfl (fun b1 => ?_)
 refine r_ev rfl rfl <| r_nn <| r_sr <| r_loadB 0 rfl rfl rfl (by rfl) ?_
 refine r_callP rfl rfl (treeDepth_spec g e _ hsz hv0) ?_
 refine r_ev rfl rfl <| r_ev rfl rfl ?_
 refine r_gdec rfl rfl (fun hd => ?_) (fun hd => ?_)
 ·have hb : decide (40 < depthE e) = true := decide_eq_true (by omega)
  rw [hb]
  refine r_pass rfl rfl rfl <| r_pass rfl rfl rfl <| r_ev rfl rfl <| r_ev rfl rfl <| r_nn <| r_retc ?_
  exact r_ret1 [] rfl rfl (by simp) ⟨rfl, rfl, rfl⟩
 ·have hb : decide (40 < depthE e) = false := decide_eq_false (by omega)
  rw [hb]
  refine r_take rfl <| r_loadB 0 rfl rfl rfl (by rfl) ?_; refine r_take rfl ?_
  refine r_callP rfl rfl (annotated_spec hM g e _ hsz hwf hv0) ?_
  refine r_ev rfl rfl <| r_ev rfl rfl <| r_nn <| r_retc ?_
  exact r_ret1 [] rfl rfl (by simp) ⟨by rw [Bool.false_or], rfl, rfl⟩
def ArmV (p : Int) (v : Value) : Prop := ∃ (c : Bytes) (a : Option Addr) (m k : Nat) (y1 y2 : Int) (y3 : Bytes) (y4 : Int) (a1 : Option Addr) (m1 c1 : Nat) (a2 : Option Addr) (m2 c2 : Nat) (z1 : Int) (z2 : Bytes) (z3 z4 : Int) (a3 : Option Addr) (m3 c3 : Nat),
 v = .agg #[.int .i64 p, str c, .slice a m k, .int .i64 y1, .int .i64 y2, str y3, .int .i64 y4, .slice a1 m1 c1, .slice a2 m2 c2, .int .i64 z1, str z2, .int .i64 z3, .int .i64 z4, .slice a3 m3 c3]
def WideV (o : Option Int) (v : Value) : Prop := ∃ p av, ArmV p av ∧ v = .tuple #[av, .bool o.isSome] ∧ ∀ q, o = some q → p = q
theorem wide_aux : ∀ (N : Nat) (g : Ghost) (e : Ex) (v : Value), sizeE e < N → sizeE e ≤ 1000000 → ExV g v e → SpecN Tryz.prog 66 [v] g fun w g' => g' = g ∧ WideV (wideE e) w
 | 0, _, _, _, h, _, _ => by omega
 | N + 1, g, e, v, h, hsz, hv => by
  have ih := wide_aux N
  have hv0 := hv
  have hcl := childE_len e
  obtain ⟨a1, c1, a2, c2, a3, m3, c3, xk, xa, rfl, h1, h2, h3, h4, h5⟩ := hv.open
  have hle3 := h3.le
  rw [wideE_child]
  refine spec_of_run Tryz.func66 rfl Tryz.ntmps66 rfl fun E hE => ?_
  refine r_sr ?_
  refine r_box rfl rfl rfl (fun b1 => ?_)
  refine r_alloc rfl (fun b2 => ?_)
  refine r_ev rfl rfl <| r_nn <| r_seq <| r_sr <| r_fieldAddr rfl rfl <| r_loadB1 1 rfl rfl rfl rfl <| r_len_sl rfl rfl <| r_ev rfl rfl <| r_nn <| r_block ?_
  refine r_loop (ι := Nat) (fun i => [(1, ptr b1 0), (2, ptr b2 0), (11, .slice a2 e.arms.length c2), (12, .int .i64 e.arms.length), (13, .int .i64 i)]) (fun _ => g) (fun _ => [.blk b2 110 (arCells 0 [] (.slice none 0 0) noEc), .blk b1 51 [.int .i64 e.kind, .int .i64 e.pos, str e.name, .int .i64 e.num, .slice a1 e.kids.length c1, .slice a2 e.arms.length c2, .int .i64 e.ty.kind, str e.ty.name, .int .i64 e.ty.id, .int .i64 e.ty.home, .slice a3 m3 c3]]) (fun i => i ≤ e.arms.length ∧ firstW e.arms = firstW (e.arms.drop i)) (fun i => e.arms.length - i) 0 ⟨Nat.zero_le _, by rw [List.drop_zero]⟩ ⟨rfl, rfl, rfl, rfl, rfl, trivial⟩ rfl rfl ?_
  rintro i ⟨hi, hj⟩
  refine r_sr <| r_ev rfl rfl <| r_nn <| r_seq ?_
  refine r_cond rfl (fun hlt => ?_) (fun hlt => ?_)
  ·have hlt' : i < e.arms.length := by omega
   obtain ⟨b, off, cap, hsl, hxx⟩ := h3.held hlt'
   cases hsl
   obtain ⟨slv, bc, hv1, hb2, hr⟩ := ars_rdA h4 hxx hlt'
   obtain ⟨va, vc, rfl⟩ := slForm2 hv1
   obtain ⟨d1, n1, o1, d2, n2, o2, d3, n3, o3, yk, ya, rfl, _⟩ := hb2.form
   rw [firstW_drop hlt'] at hj
   refine r_skip <| r_then_normal <| r_seq <| r_block <| r_sr <| r_indexAddr rfl rfl rfl rfl (by omega) ?_
   refine r_load rfl rfl (hr _) rfl ?_
   refine r_alloc rfl (fun b5 => ?_)
   refine r_storeA 0 rfl rfl rfl rfl (by rfl) (by repeat' (first | exact rfl | assumption | refine all_cons ?_ ?_)) rfl ?_; refine r_nn <| r_sr <| r_fieldAddr rfl rfl <| r_loadB1 0 rfl rfl rfl rfl <| r_len_sl rfl rfl <| r_ev rfl rfl <| r_nn ?_
   refine r_cond rfl (fun hw => ?_) (fun hw => ?_)
   ·rw [if_pos (by omega)] at hj
    rw [hj]
    refine r_sr <| r_loadB 0 rfl rfl rfl (by rfl) ?_; refine r_storeA 1 rfl rfl rfl rfl (by rfl) (by repeat' (first | exact rfl | assumption | refine all_cons ?_ ?_)) rfl ?_; refine r_ev rfl rfl <| r_nn <| r_retc <| r_in_ret <| r_then_ret <| r_then_ret <| r_in_ret <| r_then_ret ?_
    exact r_ret2 [] rfl (res_blk 1 rfl rfl (by rfl)) (.tmp rfl) (by simp) ⟨⟨rfl, _, _, ⟨_, _, _, _, _, _, _, _, _, _, _, _, _, _, _, _, _, _, _, _, _, rfl⟩, rfl, fun q hq => by simpa using hq⟩, rfl⟩
   ·rw [if_neg (by omega)] at hj
    refine r_skip <| r_in_normal <| r_then_normal <| r_region <| r_add rfl rfl rfl (by omega) ?_; refine r_ev rfl rfl <| r_nn ?_
    refine r_drop (own' := [_, _]) (.cons _ (List.Sublist.refl _)) ?_
    exact r_again (i + 1) ⟨by omega, hj⟩ (by omega) ⟨rfl, rfl, rfl, rfl, rfl, trivial⟩ rfl rfl
  ·have hil : i = e.arms.length := by omega
   rw [hil, List.drop_length] at hj
   rw [hj, show firstW [] = none from rfl, Option.none_or]
   refine r_exit <| r_then_exit <| r_then_exit <| r_in_exit <| r_then_normal <| r_seq <| r_sr <| r_loadB 1 rfl rfl rfl (by rfl) ?_
   refine r_callN rfl rfl (tChildren_spec g _ e hv0 hsz) ?_
   rintro w g1 ⟨xs, hs1, hx1⟩ hle1
   obtain ⟨sa, sc, rfl⟩ := slForm2 hs1
   refine r_len_sl rfl rfl <| r_ev rfl rfl <| r_nn <| r_block ?_
   refine r_drop (own' := [_]) (.cons_cons _ (List.nil_sublist _)) ?_
   refine r_loop (ι := Nat) (fun i => [(2, ptr b2 0), (24, .slice sa (childE e).length sc), (25, .int .i64 (childE e).length), (26, .int .i64 i)]) (fun _ => g1) (fun _ => [.blk b2 110 (arCells 0 [] (.slice none 0 0) noEc)]) (fun i => i ≤ (childE e).length ∧ wideEs (childE e) = wideEs ((childE e).drop i)) (fun i => (childE e).length - i) 0 ⟨Nat.zero_le _, by rw [List.drop_zero]⟩ ⟨rfl, rfl, rfl, rfl, trivial⟩ rfl rfl ?_
   rintro i ⟨hi, hj⟩
   refine r_sr <| r_ev rfl rfl <| r_nn <| r_seq ?_
   refine r_cond rfl (fun hlt2 => ?_) (fun hlt2 => ?_)
   ·have hlt' : i < (childE e).length := by omega
    obtain ⟨b, off, cap, hsl, hxc⟩ := hs1.held hlt'
    cases hsl
    obtain ⟨cs, k1, hr⟩ := exs_rdA hx1 hxc hlt'
    have hsz2 := childE_size (List.getElem_mem hlt')
    have k2 := k1
    obtain ⟨d1, n1, o1, d2, n2, o2, d3, n3, o3, yk, ya, rfl, _⟩ := k1.form
    rw [wideEs_drop hlt'] at hj
    refine r_skip <| r_then_normal <| r_seq <| r_block <| r_sr <| r_indexAddr rfl rfl rfl rfl (by omega) ?_
    refine r_load rfl rfl (hr _) rfl ?_
    refine r_alloc rfl (fun b7 => ?_)
    refine r_storeA 0 rfl rfl rfl rfl (by rfl) (by repeat' (first | exact rfl | assumption | refine all_cons ?_ ?_)) rfl ?_; refine r_nn <| r_sr <| r_loadB 0 rfl rfl rfl (by rfl) ?_
    refine r_callN rfl rfl (ih g1 (childE e)[i] _ (by omega) (by omega) ⟨_, rfl, k2⟩) ?_
    rintro w g2 ⟨rfl, p, av, hav, rfl, hpq⟩ _
    obtain ⟨u1, u2, u3, u4, u5, u6, u7, u8, u9, u10, u11, u12, u13, u14, u15, u16, u17, u18, u19, u20, u21, rfl⟩ := hav
    refine r_ev rfl rfl <| r_ev rfl rfl <| r_ev rfl rfl ?_
    refine r_alloc rfl (fun b8 => ?_)
    refine r_storeA 0 rfl rfl rfl rfl (by rfl) (by repeat' (first | exact rfl | assumption | refine all_cons ?_ ?_)) rfl ?_; refine r_ev rfl rfl <| r_nn <| r_sr <| r_ev rfl rfl <| r_nn ?_
    generalize wideE (childE e)[i] = o at hj hpq
    cases o with
    | some q =>
     obtain rfl := hpq q rfl
     rw [hj]
     refine r_cond_true rfl <| r_sr <| r_loadB 0 rfl rfl rfl (by rfl) ?_; refine r_storeA 2 rfl rfl rfl rfl (by rfl) (by repeat' (first | exact rfl | assumption | refine all_cons ?_ ?_)) rfl ?_; refine r_ev rfl rfl <| r_nn <| r_retc <| r_in_ret <| r_then_ret <| r_then_ret <| r_in_ret <| r_then_ret ?_
     refine r_shrink hE hle1 ?_
     exact r_ret2 [] rfl (res_blk 2 rfl rfl (by rfl)) (.tmp rfl) (by simp) ⟨⟨rfl, _, _, ⟨_, _, _, _, _, _, _, _, _, _, _, _, _, _, _, _, _, _, _, _, _, rfl⟩, rfl, fun q hq => by simpa using hq⟩, rfl⟩
    | none =>
     rw [Option.none_or] at hj
     refine r_cond_false rfl <| r_skip <| r_in_normal <| r_then_normal <| r_region <| r_add rfl rfl rfl (by omega) ?_; refine r_ev rfl rfl <| r_nn ?_
     refine r_drop (own' := [_]) (.cons _ (.cons _ (List.Sublist.refl _))) ?_
     exact r_again (i + 1) ⟨by omega, hj⟩ (by omega) ⟨rfl, rfl, rfl, rfl, trivial⟩ rfl rfl
   ·have hil : i = (childE e).length := by omega
    rw [hil, List.drop_length] at hj
    rw [hj, show wideEs [] = none from by simp [wideEs]]
    refine r_exit <| r_then_exit <| r_then_exit <| r_in_exit <| r_then_normal <| r_sr <| r_build rfl rfl (by rfl) ?_; refine r_storeA 0 rfl rfl rfl rfl (by rfl) (by repeat' (first | exact rfl | assumption | refine all_cons ?_ ?_)) rfl ?_; refine r_ev rfl rfl <| r_nn <| r_retc ?_
    refine r_shrink hE hle1 ?_
    exact r_ret2 [] rfl (res_blk 0 rfl rfl (by rfl)) (.tmp rfl) (by simp) ⟨⟨rfl, _, _, ⟨_, _, _, _, _, _, _, _, _, _, _, _, _, _, _, _, _, _, _, _, _, rfl⟩, rfl, fun q hq => by cases hq⟩, rfl⟩
theorem wide_spec (g : Ghost) (e : Ex) (v : Value) (hsz : sizeE e ≤ 1000000) (hv : ExV g v e) : SpecN Tryz.prog 66 [v] g fun w g' => g' = g ∧ WideV (wideE e) w := wide_aux _ g e v (Nat.lt_succ_self _) hsz hv
end Go.Proofs.YtpjehhnaojjanaaGreatDoor
-- sum b496f0e6e65e7325


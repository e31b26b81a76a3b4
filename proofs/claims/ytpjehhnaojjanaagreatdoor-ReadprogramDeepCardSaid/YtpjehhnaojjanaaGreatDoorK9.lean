/- Texts of types: the walks of typedholesref3.IsArrow and of typedholesref8.Type and argument; small walks of typedholesmake. -/
import Derived.Test.YtpjehhnaojjanaaGreatDoorK8
import Derived.Test.YtpjehhnaojjanaaGreatDoorK2
import Derived.Lib.ItoaNum
import Derived.Test.YtpjehhnaojjanaaGreatDoorK7
namespace Go.Th
theorem showArgs_app : ∀ (x y : List Ty), showArgs (x ++ y) = showArgs x ++ showArgs y
 | [], y => by simp [showArgs]
 | a :: x, y => by rw [List.cons_append, showArgs_cons, showArgs_cons, showArgs_app x y]; simp
theorem showArgs_succ {ta : List Ty} {i : Nat} (h : i < ta.length) : showArgs (ta.take (i + 1)) = showArgs (ta.take i) ++ ([32] ++ showArg ta[i]) := by
 rw [List.take_succ_eq_append_getElem h, showArgs_app, showArgs_cons]
 simp [showArgs]
theorem showArgs_take (ta : List Ty) (i : Nat) : (showArgs (ta.take i)).length ≤ (showArgs ta).length := by
 have := congrArg List.length (showArgs_app (ta.take i) (ta.drop i))
 rw [List.take_append_drop, List.length_append] at this
 omega
theorem showArg_ge (t : Ty) : (showT t).length ≤ (showArg t).length := by
 unfold showArg
 split
 ·simp only [List.length_cons, List.length_append, List.length_nil]; omega
 ·exact Nat.le_refl _
theorem showFrom_ge (t : Ty) : (showT t).length ≤ (showFrom t).length := by
 unfold showFrom
 split
 ·simp only [List.length_cons, List.length_append, List.length_nil]; omega
 ·exact Nat.le_refl _
theorem isArrow_con {n : Bytes} (ta : List Ty) (h : kindOf n = 2) : isArrowT (conT n ta) = false := by
 simp [isArrowT, conT, Ty.kind, Ty.name, ne_arrow h]
theorem isArrow_name (n : Bytes) : isArrowT (nameT n) = false := rfl
end Go.Th
namespace Go.Proofs.YtpjehhnaojjanaaGreatDoor
open Go Go.Eng Go.Th Go.Proofs
set_option maxRecDepth 10000
set_option maxHeartbeats 4000000
attribute [local irreducible] wpList Code.wp Run bodyPost Go.Eng.Ends Exit.then Exit.inBlock Again Wq Kq
abbrev noA : Value := .agg (tyCells noT (.slice none 0 0)).toArray
theorem IsArrow_no (g : Ghost) {t : Ty} {v : Value} (h0 : isArrowT t = false) (hv : TyV g v t) : Pure Tryz.prog 69 [v] g (.tuple #[noA, noA, .bool false]) := by
 obtain ⟨sl, rfl, h1⟩ := hv
 obtain ⟨xs, hs1, ht1⟩ := h1.args
 obtain ⟨a, c, rfl⟩ := slForm2 hs1
 refine spec_of_run Tryz.func69 rfl Tryz.ntmps69 rfl fun E hE => ?_
 refine r_sr ?_
 refine r_box rfl rfl rfl (fun b1 => ?_)
 skip
 refine r_alloc rfl (fun b2 => ?_)
 skip
 refine r_alloc rfl (fun b3 => ?_)
 refine r_ev rfl rfl <| r_nn <| r_seq <| r_sr <| r_fieldAddr rfl rfl <| r_loadB1 2 rfl rfl rfl rfl <| r_ev rfl rfl <| r_ev rfl rfl ?_
 refine r_gdec rfl rfl (fun k1 => ?_) (fun k1 => ?_)
 ·refine r_take rfl <| r_fieldAddr rfl rfl <| r_take rfl <| r_loadB1 2 rfl rfl rfl rfl <| r_tev rfl rfl rfl <| r_ev rfl rfl <| r_ev rfl rfl ?_
  refine r_gdec rfl rfl (fun k2 => ?_) (fun k2 => ?_)
  ·refine r_take rfl <| r_fieldAddr rfl rfl <| r_take rfl <| r_loadB1 2 rfl rfl rfl rfl <| r_take rfl <| r_len_sl rfl rfl <| r_tev rfl rfl rfl <| r_ev rfl rfl <| r_nn ?_
   refine r_cond rfl (fun k3 => ?_) (fun k3 => ?_)
   ·have : t.args.length = 2 := by omega
    simp [isArrowT, k1, this, arrowB] at h0
    exact absurd k2 (of_decide_eq_false h0)
   ·refine r_skip <| r_then_normal <| r_sr <| r_build rfl rfl (by rfl) ?_; refine r_build rfl rfl (by rfl) ?_; refine r_storeA 1 rfl rfl rfl rfl (by rfl) (by repeat' (first | exact rfl | assumption | refine all_cons ?_ ?_)) rfl ?_; refine r_storeA 0 rfl rfl rfl rfl (by rfl) (by repeat' (first | exact rfl | assumption | refine all_cons ?_ ?_)) rfl ?_; refine r_ev rfl rfl <| r_nn <| r_retc ?_
    exact r_ret3 [] rfl (res_blk 1 rfl rfl (by rfl)) (res_blk 0 rfl rfl (by rfl)) (.tmp rfl) (by simp) ⟨rfl, rfl, rfl⟩
  ·refine r_pass rfl rfl rfl <| r_pass rfl rfl rfl <| r_pass rfl rfl rfl <| r_pass rfl rfl rfl <| r_ev rfl rfl <| r_nn <| r_cond_false rfl <| r_skip <| r_then_normal <| r_sr <| r_build rfl rfl (by rfl) ?_; refine r_build rfl rfl (by rfl) ?_; refine r_storeA 1 rfl rfl rfl rfl (by rfl) (by repeat' (first | exact rfl | assumption | refine all_cons ?_ ?_)) rfl ?_; refine r_storeA 0 rfl rfl rfl rfl (by rfl) (by repeat' (first | exact rfl | assumption | refine all_cons ?_ ?_)) rfl ?_; refine r_ev rfl rfl <| r_nn <| r_retc ?_
   exact r_ret3 [] rfl (res_blk 1 rfl rfl (by rfl)) (res_blk 0 rfl rfl (by rfl)) (.tmp rfl) (by simp) ⟨rfl, rfl, rfl⟩
 ·refine r_pass rfl rfl rfl <| r_pass rfl rfl rfl <| r_pass rfl rfl rfl <| r_ev rfl rfl <| r_ev rfl rfl <| r_pass rfl rfl rfl <| r_pass rfl rfl rfl <| r_pass rfl rfl rfl <| r_pass rfl rfl rfl <| r_ev rfl rfl <| r_nn <| r_cond_false rfl <| r_skip <| r_then_normal ?_; refine r_sr <| r_build rfl rfl (by rfl) ?_; refine r_build rfl rfl (by rfl) ?_; refine r_storeA 1 rfl rfl rfl rfl (by rfl) (by repeat' (first | exact rfl | assumption | refine all_cons ?_ ?_)) rfl ?_; refine r_storeA 0 rfl rfl rfl rfl (by rfl) (by repeat' (first | exact rfl | assumption | refine all_cons ?_ ?_)) rfl ?_; refine r_ev rfl rfl <| r_nn <| r_retc ?_
  exact r_ret3 [] rfl (res_blk 1 rfl rfl (by rfl)) (res_blk 0 rfl rfl (by rfl)) (.tmp rfl) (by simp) ⟨rfl, rfl, rfl⟩
theorem IsArrow_yes (g : Ghost) {a b : Ty} {v : Value} (hv : TyV g v (arrowT a b)) : ∃ va vb, TyV g va a ∧ TyV g vb b ∧ Pure Tryz.prog 69 [v] g (.tuple #[va, vb, .bool true]) := by
 obtain ⟨sl, rfl, h1⟩ := hv
 obtain ⟨xs, hs1, ht1⟩ := h1.args
 replace hs1 : SlAt g 5 sl 2 xs := hs1
 replace ht1 : TysAt g [a, b] xs := ht1
 obtain ⟨b0, off, cap, rfl, hx⟩ := hs1.held (show 0 < 2 by omega)
 obtain ⟨s1, a1, r1⟩ := tys_rdA ht1 hx (i := 0) (by simp)
 obtain ⟨s2, a2, r2⟩ := tys_rdA ht1 hx (i := 1) (by simp)
 replace a1 : TyAt g a (tyCells a s1) := a1
 replace a2 : TyAt g b (tyCells b s2) := a2
 replace r1 : ∀ own, Rd g own b0 (off + 0 * 5) (tyCells a s1) := r1
 replace r2 : ∀ own, Rd g own b0 (off + 1 * 5) (tyCells b s2) := r2
 obtain ⟨_, hq1, _⟩ := a1.args
 obtain ⟨u1, w1, rfl⟩ := slForm2 hq1
 obtain ⟨_, hq2, _⟩ := a2.args
 obtain ⟨u2, w2, rfl⟩ := slForm2 hq2
 refine ⟨_, _, ⟨_, rfl, a1⟩, ⟨_, rfl, a2⟩, ?_⟩
 refine spec_of_run Tryz.func69 rfl Tryz.ntmps69 rfl fun E hE => ?_
 refine r_sr ?_
 refine r_box rfl rfl rfl (fun b1 => ?_)
 skip
 refine r_alloc rfl (fun b2 => ?_)
 skip
 refine r_alloc rfl (fun b3 => ?_)
 refine r_ev rfl rfl <| r_nn <| r_seq <| r_sr <| r_fieldAddr rfl rfl <| r_loadB1 2 rfl rfl rfl rfl <| r_ev rfl rfl <| r_ev rfl rfl <| r_take rfl <| r_fieldAddr rfl rfl <| r_take rfl <| r_loadB1 2 rfl rfl rfl rfl <| r_tev rfl rfl rfl <| r_ev rfl rfl ?_; refine r_ev rfl rfl <| r_take rfl <| r_fieldAddr rfl rfl <| r_take rfl <| r_loadB1 2 rfl rfl rfl rfl <| r_take rfl <| r_len_sl rfl rfl <| r_tev rfl rfl rfl <| r_ev rfl rfl <| r_nn <| r_cond_true rfl <| r_seq ?_
 refine h_beginE [1, 0] mixed (fun hG => ?_)
 refine h_takeXA 0 rfl (by kernel_rfl) rfl hG ?_; refine ⟨_, (val_fieldAddr rfl), ?_⟩; refine h_takeXA 1 rfl (by kernel_rfl) rfl hG ?_; refine ⟨_, (val_loadB1 0 rfl rfl rfl), ?_⟩
 refine h_takeXA 2 rfl (by kernel_rfl) rfl hG ⟨_, (val_indexAddr (j := 0) rfl rfl rfl (by omega)), ?_⟩
 refine h_takeXA 3 rfl (by kernel_rfl) rfl hG ⟨_, (val_load rfl (r1 _) rfl), ?_⟩
 refine h_takeXA 4 rfl (by kernel_rfl) rfl hG ?_; refine ⟨_, (val_fieldAddr rfl), ?_⟩; refine h_takeXA 5 rfl (by kernel_rfl) rfl hG ?_; refine ⟨_, (val_loadB1 0 rfl rfl rfl), ?_⟩
 refine h_takeXA 6 rfl (by kernel_rfl) rfl hG ⟨_, (val_indexAddr (j := 1) rfl rfl rfl (by omega)), ?_⟩
 refine h_takeXA 7 rfl (by kernel_rfl) rfl hG ⟨_, (val_load rfl (r2 _) rfl), ?_⟩
 refine h_one 8 (by kernel_rfl) rfl ?_
 refine r_storeA 1 rfl rfl rfl rfl (by rfl) (by repeat' (first | exact rfl | assumption | refine all_cons ?_ ?_)) rfl ?_; refine r_nn ?_
 refine h_keptA hG ?_
 refine h_one 9 (by kernel_rfl) rfl ?_
 refine r_storeA 0 rfl rfl rfl rfl (by rfl) (by repeat' (first | exact rfl | assumption | refine all_cons ?_ ?_)) rfl ?_; refine r_nn ?_
 refine h_keptA hG ?_
 refine h_one 10 (by kernel_rfl) rfl ?_
 refine r_ev rfl rfl <| r_nn ?_
 refine h_keptA hG ?_
 refine h_done (by kernel_rfl) ?_
 refine r_then_normal <| r_retc <| r_then_ret ?_
 exact r_ret3 [] rfl (res_blk 1 rfl rfl (by rfl)) (res_blk 0 rfl rfl (by rfl)) (.tmp rfl) (by simp) ⟨rfl, rfl, rfl⟩
theorem IsArrow_any (g : Ghost) {t : Ty} {v : Value} (ht : GoodT t) (hv : TyV g v t) : ∃ va vb ta tb, TyV g va ta ∧ TyV g vb tb ∧ Pure Tryz.prog 69 [v] g (.tuple #[va, vb, .bool (isArrowT t)]) := by
 have no : isArrowT t = false → ∃ va vb ta tb, TyV g va ta ∧ TyV g vb tb ∧ Pure Tryz.prog 69 [v] g (.tuple #[va, vb, .bool (isArrowT t)]) := fun h => by
  rw [h]
  have hn : TyV g noA noT := TyV.of (t := noT) (slNil g 5) (tysNil g)
  exact ⟨noA, noA, noT, noT, hn, hn, IsArrow_no g h hv⟩
 cases ht with
 | name n h => exact no (isArrow_name n)
 | con n ta h ha => exact no (isArrow_con ta h)
 | arrow a b ha hb =>
  obtain ⟨va, vb, h1, h2, h3⟩ := IsArrow_yes g hv
  exact ⟨va, vb, a, b, h1, h2, h3⟩
theorem argument_of (g : Ghost) (t : Ty) (v : Value) (hl : (showT t).length ≤ 100000) (hv : TyV g v t) (hT : Pure Tryz.prog 25 [v] g (str (showT t))) : Pure Tryz.prog 55 [v] g (str (showArg t)) := by
 obtain ⟨sl, rfl, h1⟩ := hv
 obtain ⟨xs, hs1, ht1⟩ := h1.args
 obtain ⟨a, c, rfl⟩ := slForm2 hs1
 have no : parenT t = false → showArg t = showT t := fun h => by unfold showArg; rw [h]; rfl
 refine spec_of_run Tryz.func55 rfl Tryz.ntmps55 rfl fun E hE => ?_
 refine r_sr ?_
 refine r_box rfl rfl rfl (fun b1 => ?_)
 refine r_ev rfl rfl <| r_nn <| r_seq <| r_sr <| r_fieldAddr rfl rfl <| r_loadB1 0 rfl rfl rfl rfl <| r_ev rfl rfl <| r_ev rfl rfl ?_
 refine r_gdec rfl rfl (fun k1 => ?_) (fun k1 => ?_)
 ·refine r_take rfl <| r_fieldAddr rfl rfl <| r_take rfl <| r_loadB1 0 rfl rfl rfl rfl <| r_take rfl <| r_len_sl rfl rfl <| r_tev rfl rfl rfl <| r_ev rfl rfl <| r_nn ?_
  refine r_cond rfl (fun k2 => ?_) (fun k2 => ?_)
  ·have hp : parenT t = true := by simp [parenT, k1]; omega
   have he : showArg t = [40] ++ showT t ++ [41] := by unfold showArg; rw [if_pos hp]; rfl
   refine r_sr <| r_loadB 0 rfl rfl rfl (by rfl) ?_
   refine r_callP rfl rfl hT ?_
   refine r_add_str rfl rfl rfl (by simp; omega) ?_
   refine r_add_str rfl rfl rfl (by simp; omega) ?_
   refine r_ev rfl rfl <| r_nn <| r_retc <| r_then_ret ?_
   exact r_ret1 [] rfl rfl (by simp) ⟨by rw [he], rfl, rfl⟩
  ·have he := no (by simp [parenT]; intro _; exact List.length_eq_zero_iff.1 (by omega))
   refine r_skip <| r_then_normal <| r_sr <| r_loadB 0 rfl rfl rfl (by rfl) ?_
   refine r_callP rfl rfl hT ?_
   refine r_ev rfl rfl <| r_nn <| r_retc ?_
   exact r_ret1 [] rfl rfl (by simp) ⟨by rw [he], rfl, rfl⟩
 ·have he := no (by simp [parenT, k1])
  refine r_pass rfl rfl rfl <| r_pass rfl rfl rfl <| r_pass rfl rfl rfl <| r_pass rfl rfl rfl <| r_ev rfl rfl <| r_nn <| r_cond_false rfl <| r_skip <| r_then_normal <| r_sr <| r_loadB 0 rfl rfl rfl (by rfl) ?_
  refine r_callP rfl rfl hT ?_
  refine r_ev rfl rfl <| r_nn <| r_retc ?_
  exact r_ret1 [] rfl rfl (by simp) ⟨by rw [he], rfl, rfl⟩
theorem Type8_aux (g : Ghost) : ∀ (N : Nat) (t : Ty) (v : Value), SizeOf.sizeOf t < N → GoodT t → (showT t).length ≤ 100000 → TyV g v t → Pure Tryz.prog 25 [v] g (str (showT t))
 | 0, _, _, h, _, _, _ => by omega
 | N + 1, t, v, h, ht, hl, hv => by
  have ih := Type8_aux g N
  obtain ⟨sl, rfl, h1⟩ := hv
  obtain ⟨xs, hs1, ht1⟩ := h1.args
  cases ht with
  | name n hn =>
   rw [showT_name] at hl ⊢
   refine spec_of_run Tryz.func25 rfl Tryz.ntmps25 rfl fun E hE => ?_
   refine r_sr ?_
   refine r_box rfl rfl rfl (fun b1 => ?_)
   refine r_ev rfl rfl <| r_nn <| r_seq <| r_sr <| r_fieldAddr rfl rfl <| r_loadB1 0 rfl rfl rfl rfl <| r_nn <| r_block <| r_sr <| r_ev rfl rfl <| r_ev rfl rfl <| r_nn <| r_cond_false rfl <| r_sr ?_; refine r_ev rfl rfl <| r_ev rfl rfl <| r_nn <| r_cond_false rfl <| r_sr <| r_ev rfl rfl <| r_ev rfl rfl <| r_nn <| r_cond_false rfl <| r_sr <| r_ev rfl rfl <| r_ev rfl rfl <| r_nn <| r_cond_true rfl ?_; refine r_sr <| r_fieldAddr rfl rfl <| r_loadB1 0 rfl rfl rfl rfl <| r_ev rfl rfl <| r_nn <| r_retc <| r_in_ret <| r_then_ret ?_
   exact r_ret1 [] rfl rfl (by simp) ⟨rfl, rfl, rfl⟩
  | con n ta hn ha =>
   have hsh := showT_con ta (ne_arrow hn)
   rw [hsh, List.length_append] at hl
   rw [hsh]
   replace hs1 : SlAt g 5 sl ta.length xs := hs1
   replace ht1 : TysAt g ta xs := ht1
   obtain ⟨a, c, rfl⟩ := slForm2 hs1
   have hle := hs1.le
   refine spec_of_run Tryz.func25 rfl Tryz.ntmps25 rfl fun E hE => ?_
   refine r_sr ?_
   refine r_box rfl rfl rfl (fun b1 => ?_)
   refine r_ev rfl rfl <| r_nn <| r_seq <| r_sr <| r_fieldAddr rfl rfl <| r_loadB1 0 rfl rfl rfl rfl <| r_nn <| r_block <| r_sr <| r_ev rfl rfl <| r_ev rfl rfl <| r_nn <| r_cond_false rfl <| r_sr ?_; refine r_ev rfl rfl <| r_ev rfl rfl <| r_nn <| r_cond_false rfl <| r_sr <| r_ev rfl rfl <| r_ev rfl rfl <| r_nn <| r_cond_false rfl <| r_sr <| r_ev rfl rfl <| r_ev rfl rfl <| r_nn <| r_cond_false rfl ?_; refine r_skip <| r_in_normal <| r_then_normal <| r_seq <| r_sr <| r_loadB 0 rfl rfl rfl (by rfl) ?_
   refine r_callP rfl rfl (IsArrow_no g (isArrow_con ta hn) ⟨_, rfl, h1⟩) ?_
   refine r_ev rfl rfl <| r_ev rfl rfl <| r_ev rfl rfl <| r_ev rfl rfl ?_
   refine r_alloc rfl (fun b3 => ?_)
   skip
   refine r_alloc rfl (fun b4 => ?_)
   refine r_storeA 1 rfl rfl rfl rfl (by rfl) (by repeat' (first | exact rfl | assumption | refine all_cons ?_ ?_)) rfl ?_; refine r_storeA 0 rfl rfl rfl rfl (by rfl) (by repeat' (first | exact rfl | assumption | refine all_cons ?_ ?_)) rfl ?_; refine r_ev rfl rfl <| r_nn <| r_sr <| r_ev rfl rfl <| r_nn <| r_cond_false rfl <| r_skip <| r_then_normal <| r_sr <| r_fieldAddr rfl rfl <| r_loadB1 2 rfl rfl rfl rfl <| r_ev rfl rfl <| r_nn <| r_seq ?_; refine r_sr <| r_ev rfl rfl <| r_nn <| r_block ?_
   refine r_loop (ι := Nat) (fun i => [(1, ptr b1 0), (10, str (n ++ showArgs (ta.take i))), (11, .int .i64 i)]) (fun _ => g) (fun _ => [.blk b4 49 (tyCells noT (.slice none 0 0)), .blk b3 49 (tyCells noT (.slice none 0 0)), .blk b1 49 (tyCells (conT n ta) (.slice a ta.length c))]) (fun i => i ≤ ta.length) (fun i => ta.length - i) 0 (Nat.zero_le _) ⟨rfl, by simp [showArgs]; rfl, rfl, trivial⟩ rfl rfl ?_
   intro i hi
   refine r_seq <| r_sr <| r_ev rfl rfl <| r_fieldAddr rfl rfl <| r_loadB1 2 rfl rfl rfl rfl <| r_len_sl rfl rfl <| r_ev rfl rfl <| r_nn ?_
   refine r_cond rfl (fun hlt => ?_) (fun hlt => ?_)
   ·have hlt' : i < ta.length := by omega
    obtain ⟨b, off, cap, hsl, hx⟩ := hs1.held hlt'
    cases hsl
    obtain ⟨sl', h2, hr⟩ := tys_rdA ht1 hx hlt'
    have hm := List.getElem_mem hlt'
    have hsz : SizeOf.sizeOf ta[i] < N := by
     have := List.sizeOf_lt_of_mem hm
     simp [conT] at h
     omega
    have hsu := showArgs_succ hlt'
    have hA := showArgs_take ta (i + 1)
    rw [hsu] at hA
    simp only [List.length_append, List.length_cons, List.length_nil] at hA
    have hge := showArg_ge ta[i]
    have hv2 : TyV g (.agg (tyCells ta[i] sl').toArray) ta[i] := ⟨sl', rfl, h2⟩
    refine r_skip <| r_then_normal <| r_seq <| r_block <| r_region <| r_ev rfl rfl <| r_fieldAddr rfl rfl <| r_loadB1 2 rfl rfl rfl rfl <| r_ev rfl rfl <| r_indexAddr rfl rfl rfl rfl (by omega) ?_
    refine r_load rfl rfl (hr _) rfl ?_
    refine r_callP rfl rfl (argument_of g ta[i] _ (by omega) hv2 (ih ta[i] _ hsz (ha _ hm) (by omega) hv2)) ?_
    refine r_add_str rfl rfl rfl (by simp; omega) ?_
    refine r_add_str rfl rfl rfl (by simp; omega) ?_
    refine r_ev rfl rfl <| r_nil <| r_in_normal <| r_then_normal <| r_region <| r_ev rfl rfl <| r_add rfl rfl rfl (by omega) ?_; refine r_ev rfl rfl <| r_nn ?_
    exact r_again (i + 1) (by omega) (by omega) ⟨rfl, by rw [hsu, ← List.append_assoc n]; rfl, rfl, trivial⟩ rfl rfl
   ·have hil : i = ta.length := by omega
    subst hil
    refine r_exit <| r_then_exit <| r_then_exit <| r_in_exit <| r_then_normal <| r_sr <| r_ev rfl rfl <| r_ev rfl rfl <| r_nn <| r_retc ?_
    exact r_ret1 [] rfl rfl (by simp) ⟨by rw [List.take_length], rfl, rfl⟩
  | arrow a b ha hb =>
   have hsh := showT_arrow a b
   rw [hsh] at hl ⊢
   simp only [List.length_append, List.length_cons, List.length_nil] at hl
   have hge := showFrom_ge a
   obtain ⟨va, vb, hva, hvb, hP⟩ := IsArrow_yes g (v := .agg (tyCells (arrowT a b) sl).toArray) ⟨sl, rfl, h1⟩
   have hsa : SizeOf.sizeOf a < N := by simp [arrowT, conT] at h; omega
   have hsb : SizeOf.sizeOf b < N := by simp [arrowT, conT] at h; omega
   have iha := ih a va hsa ha (by omega) hva
   have ihb := ih b vb hsb hb (by omega) hvb
   obtain ⟨wa, wb, ua, ub, hwa, hwb, hQ⟩ := IsArrow_any g ha hva
   obtain ⟨x1, m1, c1, rfl, _⟩ := hva.cells5
   obtain ⟨x2, m2, c2, rfl, _⟩ := hvb.cells5
   obtain ⟨x3, m3, c3, rfl, _⟩ := hwa.cells5
   obtain ⟨x4, m4, c4, rfl, _⟩ := hwb.cells5
   obtain ⟨_, hs0, _⟩ := h1.args
   obtain ⟨y1, y2, rfl⟩ := slForm2 hs0
   have hno : isArrowT a = false → showFrom a = showT a := fun h => by unfold showFrom; rw [h]; rfl
   have hyes : isArrowT a = true → showFrom a = [40] ++ showT a ++ [41] := fun h => by unfold showFrom; rw [if_pos h]; rfl
   refine spec_of_run Tryz.func25 rfl Tryz.ntmps25 rfl fun E hE => ?_
   refine r_sr ?_
   refine r_box rfl rfl rfl (fun b1 => ?_)
   refine r_ev rfl rfl <| r_nn <| r_seq <| r_sr <| r_fieldAddr rfl rfl <| r_loadB1 0 rfl rfl rfl rfl <| r_nn <| r_block <| r_sr <| r_ev rfl rfl <| r_ev rfl rfl <| r_nn <| r_cond_false rfl <| r_sr ?_; refine r_ev rfl rfl <| r_ev rfl rfl <| r_nn <| r_cond_false rfl <| r_sr <| r_ev rfl rfl <| r_ev rfl rfl <| r_nn <| r_cond_false rfl <| r_sr <| r_ev rfl rfl <| r_ev rfl rfl <| r_nn <| r_cond_false rfl ?_; refine r_skip <| r_in_normal <| r_then_normal <| r_seq <| r_sr <| r_loadB 0 rfl rfl rfl (by rfl) ?_
   refine r_callP rfl rfl hP ?_
   refine r_ev rfl rfl <| r_ev rfl rfl <| r_ev rfl rfl <| r_ev rfl rfl ?_
   refine r_alloc rfl (fun b3 => ?_)
   skip
   refine r_alloc rfl (fun b4 => ?_)
   refine r_storeA 1 rfl rfl rfl rfl (by rfl) (by repeat' (first | exact rfl | assumption | refine all_cons ?_ ?_)) rfl ?_; refine r_storeA 0 rfl rfl rfl rfl (by rfl) (by repeat' (first | exact rfl | assumption | refine all_cons ?_ ?_)) rfl ?_; refine r_ev rfl rfl <| r_nn <| r_sr <| r_ev rfl rfl <| r_nn <| r_cond_true rfl <| r_sr <| r_loadB 1 rfl rfl rfl (by rfl) ?_
   refine r_callP rfl rfl iha ?_
   refine r_ev rfl rfl <| r_nn <| r_seq <| r_sr <| r_loadB 1 rfl rfl rfl (by rfl) ?_
   refine r_callP rfl rfl hQ ?_
   refine r_ev rfl rfl <| r_ev rfl rfl <| r_ev rfl rfl <| r_ev rfl rfl ?_
   refine r_alloc rfl (fun b7 => ?_)
   skip
   refine r_alloc rfl (fun b8 => ?_)
   refine r_storeA 1 rfl rfl rfl rfl (by rfl) (by repeat' (first | exact rfl | assumption | refine all_cons ?_ ?_)) rfl ?_; refine r_storeA 0 rfl rfl rfl rfl (by rfl) (by repeat' (first | exact rfl | assumption | refine all_cons ?_ ?_)) rfl ?_; refine r_ev rfl rfl <| r_nn <| r_sr <| r_ev rfl rfl <| r_nn ?_
   cases hia : isArrowT a with
   | true =>
    have he := hyes hia
    have hel := congrArg List.length he
    simp only [List.length_append, List.length_cons, List.length_nil] at hel
    refine r_cond_true rfl <| r_region <| r_ev rfl rfl ?_
    refine r_add_str rfl rfl rfl (by simp; omega) ?_
    refine r_add_str rfl rfl rfl (by simp; omega) ?_
    refine r_ev rfl rfl <| r_nn <| r_sr <| r_ev rfl rfl ?_
    refine r_add_str rfl rfl rfl (by simp; omega) ?_
    refine r_loadB 2 rfl rfl rfl (by rfl) ?_
    refine r_callP rfl rfl ihb ?_
    refine r_add_str rfl rfl rfl (by simp; omega) ?_
    refine r_ev rfl rfl <| r_nn <| r_retc <| r_then_ret ?_
    exact r_ret1 [] rfl rfl (by simp) ⟨by rw [he, ← List.append_assoc], rfl, rfl⟩
   | false =>
    have he := hno hia
    rw [he] at hl
    refine r_cond_false rfl <| r_skip <| r_then_normal <| r_sr <| r_ev rfl rfl ?_
    refine r_add_str rfl rfl rfl (by simp; omega) ?_
    refine r_loadB 2 rfl rfl rfl (by rfl) ?_
    refine r_callP rfl rfl ihb ?_
    refine r_add_str rfl rfl rfl (by simp; omega) ?_
    refine r_ev rfl rfl <| r_nn <| r_retc <| r_then_ret ?_
    exact r_ret1 [] rfl rfl (by simp) ⟨by rw [he, ← List.append_assoc], rfl, rfl⟩
theorem Type8_spec (g : Ghost) (t : Ty) (v : Value) (ht : GoodT t) (hl : (showT t).length ≤ 100000) (hv : TyV g v t) : Pure Tryz.prog 25 [v] g (str (showT t)) := Type8_aux g _ t v (Nat.lt_succ_self _) ht hl hv
end Go.Proofs.YtpjehhnaojjanaaGreatDoor
-- sum 033f8d2f3b7c42b5

/- Small walks for expressions: Tape.Variable, the reference's Number; facts about the declarations that programs are made of. -/
namespace Go.Th
def gcC (c : Cn) : Prop := kindOf c.name = 2 ∧ c.name.length ≤ 5 ∧ c.fields.length ≤ 2
def gcD (d : Da) : Prop := 1 ≤ d.cons.length ∧ d.cons.length ≤ 2 ∧ ∀ c ∈ d.cons, gcC c
end Go.Th
namespace Go.Proofs.YtpjehhnaojjanaaGreatDoor
open Go Go.Eng Go.Th Go.Proofs
set_option maxRecDepth 10000
set_option maxHeartbeats 4000000
attribute [local irreducible] wpList Code.wp Run bodyPost Go.Eng.Ends Exit.then Exit.inBlock Again Wq Kq
def digitList : Bytes := [48, 49, 50, 51, 52, 53, 54, 55, 56, 57]
theorem digitList_at {d : Nat} (h : d < 10) : (digitList.take (d + 1)).drop d = [UInt8.ofNat (48 + d)] := by
 have : ∀ d : Fin 10, (digitList.take (d.val + 1)).drop d.val = [UInt8.ofNat (48 + d.val)] := by decide
 exact this ⟨d, h⟩
theorem dec_small {u : Nat} (h : u < 10) : Lib.decDigits u = [UInt8.ofNat (48 + u)] := by rw [Lib.decDigits, dif_pos h]
theorem dec_big {u : Nat} (h : ¬ u < 10) : Lib.decDigits u = Lib.decDigits (u / 10) ++ [UInt8.ofNat (48 + u % 10)] := by rw [Lib.decDigits, dif_neg h]
theorem rNumber_spec (g : Ghost) (n : Int) (hn : -9223372036854775808 ≤ n ∧ n ≤ 9223372036854775807) (hD : (Lib.decDigits n.natAbs).length ≤ 100) : Pure Tryz.prog 59 [.int .i64 n] g (str (Lib.itoa n)) := by
 refine spec_of_run Tryz.func59 rfl Tryz.ntmps59 rfl fun E hE => ?_
 refine r_sr <| r_ev rfl rfl <| r_nn <| r_seq <| r_sr <| r_ev rfl rfl <| r_ev rfl rfl <| r_nn ?_
 refine r_cond rfl (fun h0 => ?_) (fun h0 => ?_)
 ·subst h0
  refine r_sr <| r_ev rfl rfl <| r_nn <| r_retc <| r_then_ret ?_
  exact r_ret1 [] rfl rfl (by simp) ⟨by
   have : Lib.itoa 0 = [48] := by unfold Lib.itoa; rw [if_neg (by omega)]; exact dec_small (by decide)
   rw [this], rfl, rfl⟩
 ·refine r_skip <| r_then_normal <| r_sr <| r_ev rfl rfl <| r_nn <| r_seq <| r_sr <| r_ev rfl rfl <| r_ev rfl rfl <| r_nn <| r_block ?_
  refine r_loop (ι := Int × Bytes) (fun p => [(0, .int .i64 n), (3, str p.2), (4, .int .i64 p.1)]) (fun _ => g) (fun _ => []) (fun p => p.1.natAbs ≤ n.natAbs ∧ (p.1 ≠ 0 → Lib.decDigits n.natAbs = Lib.decDigits p.1.natAbs ++ p.2) ∧ (p.1 = 0 → Lib.decDigits n.natAbs = p.2)) (fun p => p.1.natAbs) (n, []) ⟨Nat.le_refl _, fun _ => by simp, fun h => absurd h h0⟩ ⟨rfl, rfl, rfl, trivial⟩ rfl rfl ?_
  rintro ⟨k, s⟩ ⟨hk, h1, h2⟩
  simp only at hk h1 h2
  show Run E _ [(0, .int .i64 n), (3, str s), (4, .int .i64 k)] g [] _
  refine r_seq <| r_sr <| r_ev rfl rfl <| r_ev rfl rfl <| r_nn ?_
  refine r_cond rfl (fun hk0 => ?_) (fun hk0 => ?_)
  ·have hd := h1 hk0
   have hsl : s.length ≤ 100 := by have := congrArg List.length hd; rw [List.length_append] at this; omega
   have hm := Int.natAbs_tmod k 10
   have hq := Int.natAbs_tdiv k 10
   have hm' : (k.tmod 10).natAbs = k.natAbs % 10 := hm
   have hq' : (k.tdiv 10).natAbs = k.natAbs / 10 := hq
   obtain ⟨d, hdd⟩ : ∃ d : Nat, d = k.natAbs % 10 := ⟨_, rfl⟩
   have hd10 : d < 10 := by omega
   have hnext : (k.tdiv 10 ≠ 0 → Lib.decDigits n.natAbs = Lib.decDigits (k.tdiv 10).natAbs ++ ([UInt8.ofNat (48 + d)] ++ s)) ∧ (k.tdiv 10 = 0 → Lib.decDigits n.natAbs = [UInt8.ofNat (48 + d)] ++ s) := by
    constructor
    ·intro h
     rw [hd, dec_big (by omega), hq', ← hdd, List.append_assoc]
    ·intro h
     rw [hd, dec_small (by omega), show k.natAbs = d by omega]
   refine r_skip <| r_then_normal <| r_seq <| r_block <| r_sr <| r_ev rfl rfl ?_
   refine r_rem rfl rfl rfl (by omega) ?_
   refine r_ev rfl rfl <| r_nn <| r_seq <| r_sr <| r_ev rfl rfl <| r_ev rfl rfl <| r_nn ?_
   refine r_cond rfl (fun hdn => ?_) (fun hdn => ?_)
   ·refine r_region <| r_ev rfl rfl ?_
    refine r_neg rfl rfl (by omega) ?_
    refine r_ev rfl rfl <| r_nn <| r_region <| r_ev rfl rfl <| r_ev rfl rfl ?_
    refine r_add rfl rfl rfl (by omega) ?_
    refine r_slice_str (l := digitList) (p := d) (q := d + 1) rfl rfl ⟨_, _, rfl, by omega⟩ ⟨_, _, rfl, by omega⟩ (by omega) (show d + 1 ≤ 10 by omega) ?_
    rw [digitList_at hd10]
    refine r_ev rfl rfl ?_
    refine r_add_str rfl rfl rfl (by simp; omega) ?_
    refine r_ev rfl rfl <| r_nil <| r_in_normal <| r_then_normal <| r_region <| r_ev rfl rfl ?_
    refine r_quo rfl rfl rfl (by omega) (by omega) ?_
    refine r_ev rfl rfl <| r_nn ?_
    exact r_again (k.tdiv 10, [UInt8.ofNat (48 + d)] ++ s) ⟨by simp only; omega, hnext.1, hnext.2⟩ (by simp only; omega) ⟨rfl, rfl, rfl, trivial⟩ rfl rfl
   ·refine r_skip <| r_then_normal <| r_region <| r_ev rfl rfl <| r_ev rfl rfl ?_
    refine r_add rfl rfl rfl (by omega) ?_
    refine r_slice_str (l := digitList) (p := d) (q := d + 1) rfl rfl ⟨_, _, rfl, by omega⟩ ⟨_, _, rfl, by omega⟩ (by omega) (show d + 1 ≤ 10 by omega) ?_
    rw [digitList_at hd10]
    refine r_ev rfl rfl ?_
    refine r_add_str rfl rfl rfl (by simp; omega) ?_
    refine r_ev rfl rfl <| r_nil <| r_in_normal <| r_then_normal <| r_region <| r_ev rfl rfl ?_
    refine r_quo rfl rfl rfl (by omega) (by omega) ?_
    refine r_ev rfl rfl <| r_nn ?_
    exact r_again (k.tdiv 10, [UInt8.ofNat (48 + d)] ++ s) ⟨by simp only; omega, hnext.1, hnext.2⟩ (by simp only; omega) ⟨rfl, rfl, rfl, trivial⟩ rfl rfl
  ·have hk1 : k = 0 := by omega
   have hd := h2 hk1
   have hsl : s.length ≤ 100 := by rw [← hd]; exact hD
   refine r_exit <| r_then_exit <| r_then_exit <| r_in_exit <| r_then_normal <| r_seq <| r_sr <| r_ev rfl rfl <| r_ev rfl rfl <| r_nn ?_
   refine r_cond rfl (fun hneg => ?_) (fun hneg => ?_)
   ·refine r_region <| r_ev rfl rfl ?_
    refine r_add_str rfl rfl rfl (by simp; omega) ?_
    refine r_ev rfl rfl <| r_nn <| r_sr <| r_ev rfl rfl <| r_ev rfl rfl <| r_nn <| r_retc ?_
    exact r_ret1 [] rfl rfl (by simp) ⟨by rw [Lib.itoa, if_pos hneg, hd]; rfl, rfl, rfl⟩
   ·refine r_skip <| r_then_normal <| r_sr <| r_ev rfl rfl <| r_ev rfl rfl <| r_nn <| r_retc ?_
    exact r_ret1 [] rfl rfl (by simp) ⟨by rw [Lib.itoa, if_neg hneg, ← hd, show n.natAbs = n.toNat by omega], rfl, rfl⟩
theorem Number1_spec (g : Ghost) (m : Nat) (hm : m < 10) : Pure Tryz.prog 59 [.int .i64 m] g (str [UInt8.ofNat (48 + m)]) := by
 have h := rNumber_spec g m (by omega) (by rw [dec_small (by omega)]; simp)
 have e : Lib.itoa (m : Int) = [UInt8.ofNat (48 + m)] := by
  unfold Lib.itoa
  rw [if_neg (by omega)]
  exact dec_small hm
 rw [e] at h
 exact h
end Go.Proofs.YtpjehhnaojjanaaGreatDoor
-- sum 46d5015d70a94a29

/- The walks of package readexpr: the small methods of its reader. -/
namespace Go.Proofs.YtpjehhnaojjanaaGreatDoor
open Go Go.Eng Go.Th Go.Proofs
set_option maxRecDepth 10000
set_option maxHeartbeats 4000000
attribute [local irreducible] wpList Code.wp Run bodyPost Go.Eng.Ends Exit.then Exit.inBlock Again Wq Kq
abbrev rdE (b : Nat) (lv : Value) (i : Nat) (p : Int) : Res := .blk b 180 [lv, .int .i64 i, .int .i64 p]
abbrev missV (w : Bytes) : Value := .iface 282 (.agg #[str w])
abbrev unexpV : Value := .iface 183 (.agg #[])
theorem tokAt_get {l : List Tok} {i : Nat} (h : i < l.length) (k : Int) (w : Bytes) : tokAt l i k w = (decide (l[i].kind = k) && decide (l[i].text = w)) := by unfold tokAt; rw [toks_some h]
theorem tokAt_end {l : List Tok} {i : Nat} (h : ¬ i < l.length) (k : Int) (w : Bytes) : tokAt l i k w = false := by unfold tokAt; rw [List.getElem?_eq_none (by omega)]
theorem enext_spec (g : Ghost) (l : List Tok) (lv : Value) (hs : ToksAt g lv l) (b i : Nat) (p k : Int) (w : Bytes) : PureO Tryz.prog 187 [ptr b 0, .int .i64 k, str w] g (rdE b lv i p) (.bool (tokAt l i k w)) := by
 refine spec_of_run Tryz.func187 rfl Tryz.ntmps187 rfl fun E hE => ?_
 refine r_sr <| r_ev rfl rfl <| r_nn <| r_seq ?_
 refine r_qregion mixed (by kernel_rfl) ?_
 refine q_ev rfl rfl <| q_ev rfl rfl <| q_v rfl (val_fieldAddr rfl) ?_; refine q_v rfl (val_loadB1 0 rfl rfl rfl) ?_; refine q_ev rfl rfl <| q_ev rfl rfl <| q_v rfl (val_fieldAddr rfl) ?_; refine q_v rfl (val_loadB1 0 rfl rfl rfl) ?_; refine q_v rfl (val_len_at rfl (by assumption)) ?_; refine q_ev rfl rfl <| q_ev rfl rfl ?_
 refine q_gdec rfl rfl (fun hlt => ?_) (fun hlt => ?_)
 ·have hlt' : i < l.length := by omega
  have hk := tokAt_get hlt' k w
  obtain ⟨b0, off, cap, rfl, hx⟩ := hs.held hlt'
  refine q_tev rfl rfl rfl <| q_tev rfl rfl rfl <| q_take rfl <| q_v rfl (val_fieldAddr rfl) ?_; refine q_take rfl <| q_v rfl (val_loadB1 0 rfl rfl rfl) ?_; refine q_tev rfl rfl rfl <| q_tev rfl rfl rfl <| q_take rfl <| q_v rfl (val_fieldAddr rfl) ?_; refine q_take rfl <| q_v rfl (val_loadB1 0 rfl rfl rfl) ?_; refine q_take rfl <| q_v rfl (val_indexAddr rfl rfl rfl (by omega)) ?_; refine q_take rfl <| q_v rfl (val_fieldAddr rfl) ?_; refine q_take rfl ?_
  refine q_v rfl (val_load1 rfl (SlAt.cell tokCells_len hx hlt' 0 rfl)) ?_
  refine q_tev rfl rfl rfl <| q_tev rfl rfl rfl <| q_ev rfl rfl <| q_ev rfl rfl ?_
  refine q_gdec rfl rfl (fun h5 => ?_) (fun h5 => ?_)
  ·refine q_tev rfl rfl rfl <| q_tev rfl rfl rfl <| q_take rfl <| q_v rfl (val_fieldAddr rfl) ?_; refine q_take rfl <| q_v rfl (val_loadB1 0 rfl rfl rfl) ?_; refine q_tev rfl rfl rfl <| q_tev rfl rfl rfl <| q_take rfl <| q_v rfl (val_fieldAddr rfl) ?_; refine q_take rfl <| q_v rfl (val_loadB1 0 rfl rfl rfl) ?_; refine q_take rfl <| q_v rfl (val_indexAddr rfl rfl rfl (by omega)) ?_; refine q_take rfl <| q_v rfl (val_fieldAddr rfl) ?_; refine q_take rfl ?_
   refine q_v rfl (val_load1 rfl (SlAt.cell tokCells_len hx hlt' 1 rfl)) ?_
   refine q_tev rfl rfl rfl <| q_tev rfl rfl rfl <| q_ev rfl rfl <| q_ev rfl rfl <| q_end <| r_then_normal <| r_retc ?_
   exact r_ret1 [_] rfl rfl (List.Sublist.refl _) ⟨by rw [hk]; simp [h5], rfl, rfl⟩
  ·refine q_pass rfl rfl rfl <| q_pass rfl rfl rfl <| q_pass rfl rfl rfl <| q_pass rfl rfl rfl <| q_pass rfl rfl rfl <| q_pass rfl rfl rfl <| q_pass rfl rfl rfl <| q_pass rfl rfl rfl <| q_pass rfl rfl rfl <| q_pass rfl rfl rfl <| q_pass rfl rfl rfl <| q_pass rfl rfl rfl <| q_pass rfl rfl rfl <| q_ev rfl rfl ?_; refine q_ev rfl rfl <| q_end <| r_then_normal <| r_retc ?_
   exact r_ret1 [_] rfl rfl (List.Sublist.refl _) ⟨by rw [hk]; simp [h5], rfl, rfl⟩
 ·have hk := tokAt_end (l := l) (i := i) (by omega) k w
  refine q_pass rfl rfl rfl <| q_pass rfl rfl rfl <| q_pass rfl rfl rfl <| q_pass rfl rfl rfl <| q_pass rfl rfl rfl <| q_pass rfl rfl rfl <| q_pass rfl rfl rfl <| q_pass rfl rfl rfl <| q_pass rfl rfl rfl <| q_pass rfl rfl rfl <| q_pass rfl rfl rfl <| q_pass rfl rfl rfl <| q_pass rfl rfl rfl <| q_ev rfl rfl ?_; refine q_ev rfl rfl <| q_pass rfl rfl rfl <| q_pass rfl rfl rfl <| q_pass rfl rfl rfl <| q_pass rfl rfl rfl <| q_pass rfl rfl rfl <| q_pass rfl rfl rfl <| q_pass rfl rfl rfl <| q_pass rfl rfl rfl <| q_pass rfl rfl rfl <| q_pass rfl rfl rfl <| q_pass rfl rfl rfl <| q_pass rfl rfl rfl <| q_pass rfl rfl rfl ?_; refine q_ev rfl rfl <| q_ev rfl rfl <| q_end <| r_then_normal <| r_retc ?_
  exact r_ret1 [_] rfl rfl (List.Sublist.refl _) ⟨by rw [hk], rfl, rfl⟩
theorem eread_spec (g : Ghost) (l : List Tok) (hb : TB l) (lv : Value) (hs : ToksAt g lv l) (b i : Nat) (p k : Int) (w : Bytes) : SpecL Tryz.prog 154 [ptr b 0, .int .i64 k, str w] g (rdE b lv i p) fun v g' r' => v = .bool (tokAt l i k w) ∧ g' = g ∧ r' = rdE b lv (if tokAt l i k w then i + 1 else i) p := by
 have hb1 := hb.1
 refine spec_of_run Tryz.func154 rfl Tryz.ntmps154 rfl fun E hE => ?_
 refine r_sr <| r_ev rfl rfl <| r_nn <| r_seq <| r_sr <| r_ev rfl rfl <| r_ev rfl rfl <| r_ev rfl rfl ?_
 refine r_callO 0 rfl rfl rfl (enext_spec g l lv hs b i p k w) ?_
 cases hk : tokAt l i k w with
 | false =>
  refine r_ev rfl rfl <| r_nn <| r_cond_true rfl <| r_sr <| r_ev rfl rfl <| r_nn <| r_retc <| r_then_ret ?_
  exact r_ret1 [_] rfl rfl (List.Sublist.refl _) ⟨_, rfl, rfl, rfl, rfl⟩
 | true =>
  have := tokAt_lt hk
  obtain ⟨a, m, c, rfl⟩ := SlAt.form hs
  refine r_ev rfl rfl <| r_nn <| r_cond_false rfl <| r_skip <| r_then_normal <| r_sr <| r_ev rfl rfl <| r_ev rfl rfl <| r_fieldAddr rfl rfl <| r_loadB1 0 rfl rfl rfl rfl <| r_add rfl rfl rfl (by omega) ?_; refine r_ev rfl rfl <| r_fieldAddr rfl rfl <| r_store1 0 rfl rfl rfl rfl rfl rfl <| r_nn <| r_sr <| r_ev rfl rfl <| r_nn <| r_retc ?_
  exact r_ret1 [_] rfl rfl (List.Sublist.refl _) ⟨_, rfl, rfl, rfl, rfl⟩
theorem efail_spec (g : Ghost) (l : List Tok) (hb : TB l) (lv : Value) (hs : ToksAt g lv l) (b i : Nat) (w : Bytes) : SpecL Tryz.prog 212 [ptr b 0, str w] g (rdE b lv i 0) fun v g' r' => v = missV w ∧ g' = g ∧ r' = rdE b lv i (failPos l i) := by
 refine spec_of_run Tryz.func212 rfl Tryz.ntmps212 rfl fun E hE => ?_
 refine r_sr <| r_ev rfl rfl <| r_nn <| r_sr <| r_ev rfl rfl <| r_ev rfl rfl <| r_fieldAddr rfl rfl <| r_loadB1 0 rfl rfl rfl rfl <| r_len_at rfl rfl (by assumption) ?_; refine r_ev rfl rfl <| r_nn <| r_seq <| r_block <| r_sr <| r_ev rfl rfl <| r_ev rfl rfl <| r_fieldAddr rfl rfl <| r_loadB1 0 rfl rfl rfl rfl <| r_ev rfl rfl <| r_ev rfl rfl <| r_ev rfl rfl <| r_nn ?_
 refine r_cond rfl (fun hlt => ?_) (fun hlt => ?_)
 ·have hlt' : i < l.length := by omega
  have hf : failPos l i = l[i].pos := by unfold failPos; rw [toks_some hlt']
  obtain ⟨b0, off, cap, rfl, hx⟩ := hs.held hlt'
  skip
  refine s_region 14 mixed (by kernel_rfl) ?_
  refine s_v rfl ⟨_, (val_ev rfl), ?_⟩; refine s_v rfl ⟨_, (val_ev rfl), ?_⟩; refine s_v rfl ⟨_, (val_ev rfl), ?_⟩; refine s_v rfl ⟨_, (val_fieldAddr rfl), ?_⟩; refine s_v rfl ⟨_, (val_loadB1 0 rfl rfl rfl), ?_⟩; refine s_v rfl ⟨_, (val_ev rfl), ?_⟩; refine s_v rfl ⟨_, (val_ev rfl), ?_⟩; refine s_v rfl ⟨_, (val_fieldAddr rfl), ?_⟩; refine s_v rfl ⟨_, (val_loadB1 0 rfl rfl rfl), ?_⟩; refine s_v rfl ⟨_, (val_indexAddr rfl rfl rfl (by omega)), ?_⟩; refine s_v rfl ⟨_, (val_fieldAddr rfl), ?_⟩
  refine s_v rfl ⟨_, val_load1 rfl (SlAt.cell tokCells_len hx hlt' 2 rfl), ?_⟩
  refine s_v rfl ⟨_, (val_ev rfl), ?_⟩; refine s_v rfl ⟨_, (val_fieldAddr rfl), ?_⟩; refine s_end ?_
  refine r_store1 0 rfl rfl rfl rfl rfl rfl <| r_nil <| r_in_normal <| r_then_normal <| r_sr <| r_ev rfl rfl <| r_build rfl rfl (by rfl) ?_; refine r_mkIface rfl rfl <| r_ev rfl rfl <| r_nn <| r_retc ?_
  exact r_ret1 [_] rfl rfl (List.Sublist.refl _) ⟨_, rfl, rfl, rfl, by rw [hf]⟩
 ·have hn : l[i]? = none := List.getElem?_eq_none (by omega)
  refine r_sr <| r_ev rfl rfl <| r_ev rfl rfl <| r_ev rfl rfl <| r_nn ?_
  refine r_cond rfl (fun h0 => ?_) (fun h0 => ?_)
  ·have h0' : l.length - 1 < l.length := by omega
   have hb1 := hb.1
   have hb2 := hb.2 _ (List.getElem_mem h0')
   obtain ⟨b0, off, cap, rfl, hx⟩ := hs.held h0'
   have hf : failPos l i = l[l.length - 1].pos + l[l.length - 1].text.length := by
    unfold failPos; rw [hn, List.getLast?_eq_getElem?, toks_some h0']
   skip
   refine s_region 23 mixed (by kernel_rfl) ?_
   refine s_v rfl ⟨_, (val_ev rfl), ?_⟩; refine s_v rfl ⟨_, (val_ev rfl), ?_⟩; refine s_v rfl ⟨_, (val_ev rfl), ?_⟩; refine s_v rfl ⟨_, (val_fieldAddr rfl), ?_⟩; refine s_v rfl ⟨_, (val_loadB1 0 rfl rfl rfl), ?_⟩; refine s_v rfl ⟨_, (val_ev rfl), ?_⟩; refine s_v rfl ⟨_, (val_sub_ rfl rfl (by omega)), ?_⟩
   refine s_v rfl ⟨_, val_indexAddr (j := l.length - 1) rfl rfl (by omega) h0', ?_⟩
   refine s_v rfl ⟨_, (val_fieldAddr rfl), ?_⟩
   refine s_v rfl ⟨_, val_load1 rfl (SlAt.cell tokCells_len hx h0' 2 rfl), ?_⟩
   refine s_v rfl ⟨_, (val_ev rfl), ?_⟩; refine s_v rfl ⟨_, (val_ev rfl), ?_⟩; refine s_v rfl ⟨_, (val_fieldAddr rfl), ?_⟩; refine s_v rfl ⟨_, (val_loadB1 0 rfl rfl rfl), ?_⟩; refine s_v rfl ⟨_, (val_ev rfl), ?_⟩; refine s_v rfl ⟨_, (val_sub_ rfl rfl (by omega)), ?_⟩
   refine s_v rfl ⟨_, val_indexAddr (j := l.length - 1) rfl rfl (by omega) h0', ?_⟩
   refine s_v rfl ⟨_, (val_fieldAddr rfl), ?_⟩
   refine s_v rfl ⟨_, val_load1 rfl (SlAt.cell tokCells_len hx h0' 1 rfl), ?_⟩
   refine s_v rfl ⟨_, (val_len_str rfl), ?_⟩; refine s_v rfl ⟨_, (val_add rfl rfl (by omega)), ?_⟩; refine s_v rfl ⟨_, (val_ev rfl), ?_⟩; refine s_v rfl ⟨_, (val_fieldAddr rfl), ?_⟩; refine s_end ?_
   refine r_store1 0 rfl rfl rfl rfl rfl rfl <| r_nil <| r_in_normal <| r_then_normal <| r_sr <| r_ev rfl rfl <| r_build rfl rfl (by rfl) ?_; refine r_mkIface rfl rfl <| r_ev rfl rfl <| r_nn <| r_retc ?_
   exact r_ret1 [_] rfl rfl (List.Sublist.refl _) ⟨_, rfl, rfl, rfl, by rw [hf]⟩
  ·have hf : failPos l i = 0 := by
    unfold failPos; rw [hn, List.getLast?_eq_getElem?, List.getElem?_eq_none (by omega)]
   refine r_skip <| r_in_normal <| r_then_normal <| r_sr <| r_ev rfl rfl <| r_build rfl rfl (by rfl) ?_; refine r_mkIface rfl rfl <| r_ev rfl rfl <| r_nn <| r_retc ?_
   exact r_ret1 [_] rfl rfl (List.Sublist.refl _) ⟨_, rfl, rfl, rfl, by rw [hf]⟩
theorem ewant_spec (g : Ghost) (l : List Tok) (hb : TB l) (lv : Value) (hs : ToksAt g lv l) (b i : Nat) (k : Int) (w : Bytes) : SpecL Tryz.prog 189 [ptr b 0, .int .i64 k, str w] g (rdE b lv i 0) fun v g' r' => g' = g ∧ (tokAt l i k w = true ∧ v = .nilIface ∧ r' = rdE b lv (i + 1) 0 ∨ tokAt l i k w = false ∧ v = missV w ∧ r' = rdE b lv i (failPos l i)) := by
 refine spec_of_run Tryz.func189 rfl Tryz.ntmps189 rfl fun E hE => ?_
 refine r_sr <| r_ev rfl rfl <| r_nn <| r_seq <| r_sr <| r_ev rfl rfl <| r_ev rfl rfl <| r_ev rfl rfl ?_
 refine r_callL 0 rfl rfl rfl (eread_spec g l hb lv hs b i 0 k w) ?_
 rintro v g' r' ⟨rfl, rfl, rfl⟩ _
 cases hk : tokAt l i k w with
 | false =>
  simp only [Bool.false_eq_true, if_false]
  refine r_ev rfl rfl <| r_nn <| r_cond_true rfl <| r_sr <| r_ev rfl rfl <| r_ev rfl rfl ?_
  refine r_callL 0 rfl rfl rfl (efail_spec g' l hb lv hs b i w) ?_
  rintro v g1 r' ⟨rfl, rfl, rfl⟩ _
  refine r_ev rfl rfl <| r_nn <| r_retc <| r_then_ret ?_
  exact r_ret1 [_] rfl rfl (List.Sublist.refl _) ⟨_, rfl, rfl, .inr ⟨by trivial, rfl, rfl⟩⟩
 | true =>
  simp only [if_true]
  refine r_ev rfl rfl <| r_nn <| r_cond_false rfl <| r_skip <| r_then_normal <| r_sr <| r_ev rfl rfl <| r_nn <| r_retc ?_
  exact r_ret1 [_] rfl rfl (List.Sublist.refl _) ⟨_, rfl, rfl, .inl ⟨by trivial, rfl, rfl⟩⟩
theorem eplace_spec (g : Ghost) (l : List Tok) (lv : Value) (hs : ToksAt g lv l) (b i : Nat) (p : Int) : PureO Tryz.prog 153 [ptr b 0] g (rdE b lv i p) (.int .i64 (posOf l i)) := by
 refine spec_of_run Tryz.func153 rfl Tryz.ntmps153 rfl fun E hE => ?_
 refine r_sr <| r_ev rfl rfl <| r_nn <| r_seq <| r_seq ?_
 refine r_qregion mixed (by kernel_rfl) ?_
 refine q_ev rfl rfl <| q_ev rfl rfl <| q_v rfl (val_fieldAddr rfl) ?_; refine q_v rfl (val_loadB1 0 rfl rfl rfl) ?_; refine q_ev rfl rfl <| q_ev rfl rfl <| q_v rfl (val_fieldAddr rfl) ?_; refine q_v rfl (val_loadB1 0 rfl rfl rfl) ?_; refine q_v rfl (val_len_at rfl (by assumption)) ?_; refine q_ev rfl rfl <| q_end <| r_then_normal ?_
 refine r_cond rfl (fun hlt => ?_) (fun hlt => ?_)
 ·have hlt' : i < l.length := by omega
  have hk : posOf l i = l[i].pos := by unfold posOf; rw [toks_some hlt']
  obtain ⟨b0, off, cap, rfl, hx⟩ := hs.held hlt'
  refine r_seq ?_
  refine r_qregion mixed (by kernel_rfl) ?_
  refine q_ev rfl rfl <| q_ev rfl rfl <| q_v rfl (val_fieldAddr rfl) ?_; refine q_v rfl (val_loadB1 0 rfl rfl rfl) ?_; refine q_ev rfl rfl <| q_ev rfl rfl <| q_v rfl (val_fieldAddr rfl) ?_; refine q_v rfl (val_loadB1 0 rfl rfl rfl) ?_; refine q_v rfl (val_indexAddr rfl rfl rfl (by omega)) ?_; refine q_v rfl (val_fieldAddr rfl) ?_
  refine q_v rfl (val_load1 rfl (SlAt.cell tokCells_len hx hlt' 2 rfl)) ?_
  refine q_ev rfl rfl <| q_end <| r_then_normal <| r_retc <| r_then_ret ?_
  exact r_ret1 [_] rfl rfl (List.Sublist.refl _) ⟨by rw [hk], rfl, rfl⟩
 ·have hk : posOf l i = 0 := by unfold posOf; rw [List.getElem?_eq_none (by omega)]
  refine r_skip <| r_then_normal <| r_sr <| r_ev rfl rfl <| r_nn <| r_retc ?_
  exact r_ret1 [_] rfl rfl (List.Sublist.refl _) ⟨by rw [hk], rfl, rfl⟩
def nameB : Bytes := [110, 97, 109, 101]
theorem nameAt_get {l : List Tok} {i : Nat} (h : i < l.length) (k : Int) : nameAt l i k = if l[i].kind = k then some l[i].text else none := by unfold nameAt; rw [toks_some h]
theorem nameAt_end {l : List Tok} {i : Nat} (h : ¬ i < l.length) (k : Int) : nameAt l i k = none := by unfold nameAt; rw [List.getElem?_eq_none (by omega)]
theorem ename_spec (g : Ghost) (l : List Tok) (hb : TB l) (lv : Value) (hs : ToksAt g lv l) (b i : Nat) (k : Int) : SpecL Tryz.prog 188 [ptr b 0, .int .i64 k] g (rdE b lv i 0) fun v g' r' => g' = g ∧ match nameAt l i k with
  | some t => v = .tuple #[str t, .nilIface] ∧ r' = rdE b lv (i + 1) 0
  | none => v = .tuple #[str [], missV nameB] ∧ r' = rdE b lv i (failPos l i) := by
 have hb1 := hb.1
 refine spec_of_run Tryz.func188 rfl Tryz.ntmps188 rfl fun E hE => ?_
 refine r_sr <| r_ev rfl rfl <| r_ev rfl rfl <| r_nn <| r_seq <| r_seq ?_
 refine r_qregion mixed (by kernel_rfl) ?_
 refine q_ev rfl rfl <| q_ev rfl rfl <| q_v rfl (val_fieldAddr rfl) ?_; refine q_v rfl (val_loadB1 0 rfl rfl rfl) ?_; refine q_ev rfl rfl <| q_ev rfl rfl <| q_v rfl (val_fieldAddr rfl) ?_; refine q_v rfl (val_loadB1 0 rfl rfl rfl) ?_; refine q_v rfl (val_len_at rfl (by assumption)) ?_; refine q_ev rfl rfl <| q_ev rfl rfl ?_
 refine q_gdec rfl rfl (fun hlt => ?_) (fun hlt => ?_)
 ·have hk := nameAt_end (l := l) (i := i) (by omega) k
  refine q_pass rfl rfl rfl <| q_pass rfl rfl rfl <| q_pass rfl rfl rfl <| q_pass rfl rfl rfl <| q_pass rfl rfl rfl <| q_pass rfl rfl rfl <| q_pass rfl rfl rfl <| q_pass rfl rfl rfl <| q_pass rfl rfl rfl <| q_pass rfl rfl rfl <| q_pass rfl rfl rfl <| q_pass rfl rfl rfl <| q_pass rfl rfl rfl <| q_ev rfl rfl ?_; refine q_end <| r_then_normal <| r_cond_true rfl <| r_sr <| r_ev rfl rfl ?_
  refine r_callL 0 rfl rfl rfl (efail_spec g l hb lv hs b i nameB) ?_
  rintro v g1 r' ⟨rfl, rfl, rfl⟩ _
  refine r_ev rfl rfl <| r_ev rfl rfl <| r_nn <| r_retc <| r_then_ret ?_
  exact r_ret2 [_] rfl (.tmp rfl) (.tmp rfl) (List.Sublist.refl _) ⟨_, rfl, rfl, by rw [hk]; exact ⟨rfl, rfl⟩⟩
 ·have hlt' : i < l.length := by omega
  have hk := nameAt_get hlt' k
  obtain ⟨b0, off, cap, rfl, hx⟩ := hs.held hlt'
  refine q_tev rfl rfl rfl <| q_tev rfl rfl rfl <| q_take rfl <| q_v rfl (val_fieldAddr rfl) ?_; refine q_take rfl <| q_v rfl (val_loadB1 0 rfl rfl rfl) ?_; refine q_tev rfl rfl rfl <| q_tev rfl rfl rfl <| q_take rfl <| q_v rfl (val_fieldAddr rfl) ?_; refine q_take rfl <| q_v rfl (val_loadB1 0 rfl rfl rfl) ?_; refine q_take rfl <| q_v rfl (val_indexAddr rfl rfl rfl (by omega)) ?_; refine q_take rfl <| q_v rfl (val_fieldAddr rfl) ?_; refine q_take rfl ?_
  refine q_v rfl (val_load1 rfl (SlAt.cell tokCells_len hx hlt' 0 rfl)) ?_
  refine q_tev rfl rfl rfl <| q_tev rfl rfl rfl <| q_ev rfl rfl <| q_end <| r_then_normal ?_
  refine r_cond rfl (fun h5 => ?_) (fun h5 => ?_)
  ·rw [if_neg h5] at hk
   refine r_sr <| r_ev rfl rfl ?_
   refine r_callL 0 rfl rfl rfl (efail_spec g l hb _ hs b i nameB) ?_
   rintro v g1 r' ⟨rfl, rfl, rfl⟩ _
   refine r_ev rfl rfl <| r_ev rfl rfl <| r_nn <| r_retc <| r_then_ret ?_
   exact r_ret2 [_] rfl (.tmp rfl) (.tmp rfl) (List.Sublist.refl _) ⟨_, rfl, rfl, by rw [hk]; exact ⟨rfl, rfl⟩⟩
  ·rw [if_pos (Decidable.not_not.1 h5)] at hk
   refine r_skip <| r_then_normal <| r_sr <| r_ev rfl rfl <| r_ev rfl rfl <| r_fieldAddr rfl rfl <| r_loadB1 0 rfl rfl rfl rfl <| r_add rfl rfl rfl (by omega) ?_; refine r_ev rfl rfl <| r_fieldAddr rfl rfl <| r_store1 0 rfl rfl rfl rfl rfl rfl <| r_nn <| r_seq ?_
   refine r_qregion mixed (by kernel_rfl) ?_
   refine q_ev rfl rfl <| q_ev rfl rfl <| q_v rfl (val_fieldAddr rfl) ?_; refine q_v rfl (val_loadB1 0 rfl rfl rfl) ?_; refine q_ev rfl rfl <| q_ev rfl rfl <| q_v rfl (val_fieldAddr rfl) ?_; refine q_v rfl (val_loadB1 0 rfl rfl rfl) ?_; refine q_v rfl (val_sub_ rfl rfl (by omega)) ?_
   refine q_v rfl (val_indexAddr (j := i) rfl rfl (by omega) hlt') ?_
   refine q_v rfl (val_fieldAddr rfl) ?_
   refine q_v rfl (val_load1 rfl (SlAt.cell tokCells_len hx hlt' 1 rfl)) ?_
   refine q_ev rfl rfl <| q_ev rfl rfl <| q_end <| r_then_normal <| r_retc ?_
   exact r_ret2 [_] rfl (.tmp rfl) (.tmp rfl) (List.Sublist.refl _) ⟨_, rfl, rfl, by rw [hk]; exact ⟨rfl, rfl⟩⟩
theorem estarts_spec (g : Ghost) (t : Tok) : Pure Tryz.prog 192 [tokV t] g (.bool (startsE t)) := by
 refine spec_of_run Tryz.func192 rfl Tryz.ntmps192 rfl fun E hE => ?_
 refine r_sr ?_
 refine r_box rfl rfl rfl (fun b1 => ?_)
 refine r_ev rfl rfl <| r_nn <| r_seq <| r_sr <| r_fieldAddr rfl rfl <| r_loadB1 0 rfl rfl rfl rfl <| r_nn <| r_block <| r_seq <| r_sr <| r_ev rfl rfl <| r_ev rfl rfl <| r_nn ?_
 refine r_cond rfl (fun h1 => ?_) (fun h1 => ?_)
 ·refine r_skip <| r_then_normal ?_
  refine r_cond rfl (fun k1 => ?_) (fun k1 => ?_)
  ·refine r_sr <| r_ev rfl rfl <| r_nn <| r_retc <| r_in_ret <| r_then_ret ?_
   exact r_ret1 [] rfl rfl (by simp) ⟨by simp [startsE, h1], rfl, rfl⟩
  ·exact absurd h1 k1
 refine r_sr <| r_ev rfl rfl <| r_ev rfl rfl <| r_nn ?_
 refine r_cond rfl (fun h2 => ?_) (fun h2 => ?_)
 ·refine r_skip <| r_then_normal ?_
  refine r_cond rfl (fun k2 => ?_) (fun k2 => ?_)
  ·refine r_sr <| r_ev rfl rfl <| r_nn <| r_retc <| r_in_ret <| r_then_ret ?_
   exact r_ret1 [] rfl rfl (by simp) ⟨by simp [startsE, h2], rfl, rfl⟩
  ·exact absurd h2 k2
 refine r_region <| r_ev rfl rfl <| r_ev rfl rfl <| r_nn ?_
 refine r_cond rfl (fun h3 => ?_) (fun h3 => ?_)
 ·refine r_sr <| r_ev rfl rfl <| r_nn <| r_retc <| r_in_ret <| r_then_ret ?_
  exact r_ret1 [] rfl rfl (by simp) ⟨by simp [startsE, h3], rfl, rfl⟩
 refine r_sr <| r_ev rfl rfl <| r_ev rfl rfl <| r_nn ?_
 refine r_cond rfl (fun h5 => ?_) (fun h5 => ?_)
 ·refine r_sr <| r_fieldAddr rfl rfl <| r_loadB1 0 rfl rfl rfl rfl <| r_ev rfl rfl <| r_ev rfl rfl ?_
  refine r_gdec rfl rfl (fun h6 => ?_) (fun h6 => ?_)
  ·refine r_pass rfl rfl rfl <| r_pass rfl rfl rfl <| r_pass rfl rfl rfl <| r_ev rfl rfl <| r_ev rfl rfl <| r_pass rfl rfl rfl <| r_pass rfl rfl rfl <| r_pass rfl rfl rfl <| r_ev rfl rfl <| r_ev rfl rfl <| r_nn <| r_retc <| r_in_ret <| r_then_ret ?_
   exact r_ret1 [] rfl rfl (by simp) ⟨by simp [startsE, h5, h6], rfl, rfl⟩
  refine r_take rfl <| r_fieldAddr rfl rfl <| r_take rfl <| r_loadB1 0 rfl rfl rfl rfl <| r_tev rfl rfl rfl <| r_ev rfl rfl <| r_ev rfl rfl ?_
  refine r_gdec rfl rfl (fun h7 => ?_) (fun h7 => ?_)
  ·refine r_pass rfl rfl rfl <| r_pass rfl rfl rfl <| r_pass rfl rfl rfl <| r_ev rfl rfl <| r_ev rfl rfl <| r_nn <| r_retc <| r_in_ret <| r_then_ret ?_
   exact r_ret1 [] rfl rfl (by simp) ⟨by simp [startsE, h5, h7], rfl, rfl⟩
  refine r_take rfl <| r_fieldAddr rfl rfl <| r_take rfl <| r_loadB1 0 rfl rfl rfl rfl <| r_tev rfl rfl rfl <| r_ev rfl rfl <| r_ev rfl rfl <| r_nn <| r_retc <| r_in_ret <| r_then_ret ?_
  exact r_ret1 [] rfl rfl (by simp) ⟨by simp [startsE, h5, h6, h7], rfl, rfl⟩
 ·refine r_skip <| r_in_normal <| r_then_normal <| r_sr <| r_ev rfl rfl <| r_nn <| r_retc ?_
  exact r_ret1 [] rfl rfl (by simp) ⟨by simp [startsE, h1, h2, h3, h5], rfl, rfl⟩
theorem estart_spec (g : Ghost) (l : List Tok) (lv : Value) (hs : ToksAt g lv l) (i : Int) : Eng.Spec Tryz.prog 116 [lv, .int .i64 i] g [] fun v g' own' => g' = g ∧ ∃ b, v = ptr b 0 ∧ own' = [rdE b lv (idxOf l.length i) 0] := by
 obtain ⟨a, c, rfl⟩ := slForm2 hs
 refine spec_of_run Tryz.func116 rfl Tryz.ntmps116 rfl fun E hE => ?_
 refine r_sr <| r_ev rfl rfl <| r_nn <| r_seq <| r_sr <| r_ev rfl rfl <| r_ev rfl rfl <| r_nn ?_
 refine r_cond rfl (fun h1 => ?_) (fun h1 => ?_)
 ·have hx : idxOf l.length i = l.length := by simp [idxOf, h1]
  refine r_region <| r_ev rfl rfl <| r_len_sl rfl rfl <| r_ev rfl rfl <| r_nn <| r_sr <| r_ev rfl rfl <| r_ev rfl rfl <| r_ev rfl rfl <| r_len_sl rfl rfl <| r_min rfl rfl rfl <| r_build rfl rfl (by rfl) ?_
  refine r_box rfl rfl rfl (fun b => ?_)
  refine r_ev rfl rfl <| r_nn <| r_retc ?_
  exact r_ret1 [_] rfl rfl (List.Sublist.refl _) ⟨rfl, b, rfl, by rw [hx]; simp⟩
 ·have hx : ((idxOf l.length i : Nat) : Int) = min i l.length := by simp only [idxOf, h1, if_false]; omega
  refine r_skip <| r_then_normal <| r_sr <| r_ev rfl rfl <| r_ev rfl rfl <| r_ev rfl rfl <| r_len_sl rfl rfl <| r_min rfl rfl rfl <| r_build rfl rfl (by rfl) ?_
  refine r_box rfl rfl rfl (fun b => ?_)
  refine r_ev rfl rfl <| r_nn <| r_retc ?_
  exact r_ret1 [_] rfl rfl (List.Sublist.refl _) ⟨rfl, b, rfl, by rw [← hx]⟩
end Go.Proofs.YtpjehhnaojjanaaGreatDoor
-- sum 83ccbc123e3a3130


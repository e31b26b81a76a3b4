/- Texts of types: the walks of typedholesref3.IsArrow and of typedholesref8.Type and argument; small walks of typedholesmake. -/
import Derived.Test.YtcapgcohhgjngaaGreatDoorK14
import Derived.Test.YtcapgcohhgjngaaGreatDoorK11
import Derived.Lib.ItoaNum
namespace Go.Th
theorem showArgs_app : ∀ (x y : List Ty), showArgs (x ++ y) = showArgs x ++ showArgs y
  | [], y => by simp [showArgs]
  | a :: x, y => by rw [List.cons_append, showArgs_cons, showArgs_cons, showArgs_app x y]; simp
theorem showArgs_succ {ta : List Ty} {i : Nat} (h : i < ta.length) : showArgs (ta.take (i + 1)) = showArgs (ta.take i) ++ ([32] ++ showArg ta[i]) := by
  rw [List.take_succ_eq_append_getElem h, showArgs_app, showArgs_cons]
  simp [showArgs]
theorem showArgs_take (ta : List Ty) (i : Nat) : (showArgs (ta.take i)).length ≤ (showArgs ta).length := by
  have := congrArg List.length (showArgs_app (ta.take i) (ta.drop i))
  rw [List.take_append_drop, List.length_append] at this
  omega
theorem showArg_ge (t : Ty) : (showT t).length ≤ (showArg t).length := by
  unfold showArg
  split
  · simp only [List.length_cons, List.length_append, List.length_nil]; omega
  · exact Nat.le_refl _
theorem showFrom_ge (t : Ty) : (showT t).length ≤ (showFrom t).length := by
  unfold showFrom
  split
  · simp only [List.length_cons, List.length_append, List.length_nil]; omega
  · exact Nat.le_refl _
theorem isArrow_con {n : Bytes} (ta : List Ty) (h : kindOf n = 2) : isArrowT (conT n ta) = false := by
  simp [isArrowT, conT, Ty.kind, Ty.name, ne_arrow h]
theorem isArrow_name (n : Bytes) : isArrowT (nameT n) = false := rfl
def gdDB (d : Da) : Bool := decide (kindOf d.name = 2) && decide (d.name.length ≤ 6) && decide (d.params.length ≤ 2)
theorem gdD_of {d : Da} (h : gdDB d = true) : gdD d := by
  simp only [gdDB, Bool.and_eq_true, decide_eq_true_eq] at h
  exact ⟨h.1.1, h.1.2, h.2⟩
theorem allD_gd : ∀ d ∈ allD, gdD d := fun d hd => gdD_of (List.all_eq_true.1 (show allD.all gdDB = true by kernel_rfl) d hd)
def abc : List Ty := [nameT [97], nameT [98], nameT [99]]
theorem abc_good : ∀ t ∈ abc, GoodT t ∧ (showT t).length ≤ 3 := by
  intro t ht
  have : t = nameT [97] ∨ t = nameT [98] ∨ t = nameT [99] := by simpa [abc] using ht
  rcases this with rfl | rfl | rfl <;> exact ⟨.name _ (by decide), by rw [showT_name]; decide⟩
end Go.Th
namespace Go.Proofs.YtcapgcohhgjngaaGreatDoor
open Go Go.Eng Go.Th Go.Proofs
set_option maxRecDepth 10000
set_option maxHeartbeats 4000000
attribute [local irreducible] wpList Code.wp Run bodyPost Go.Eng.Ends Exit.then Exit.inBlock Again Wq Kq
abbrev noA : Value := .agg (tyCells noT (.slice none 0 0)).toArray
theorem IsArrow_no (g : Ghost) {t : Ty} {v : Value} (h0 : isArrowT t = false) (hv : TyV g v t) : Pure Tryz.prog 86 [v] g (.tuple #[noA, noA, .bool false]) := by
  obtain ⟨sl, rfl, h1⟩ := hv
  obtain ⟨xs, hs1, ht1⟩ := h1.args
  obtain ⟨a, c, rfl⟩ := slForm2 hs1
  refine spec_of_run Tryz.func86 rfl Tryz.ntmps86 rfl fun E hE => ?_
  refine r_sr ?_
  refine r_box rfl rfl rfl (fun b1 => ?_)
  skip
  refine r_alloc rfl (fun b2 => ?_)
  skip
  refine r_alloc rfl (fun b3 => ?_)
  refine r_ev rfl rfl ?_; refine r_nn ?_; refine r_seq ?_; refine r_sr ?_; refine r_fieldAddr rfl rfl ?_; refine r_loadB1 2 rfl rfl rfl rfl ?_; refine r_ev rfl rfl ?_; refine r_ev rfl rfl ?_
  refine r_gdec rfl rfl (fun k1 => ?_) (fun k1 => ?_)
  · refine r_take rfl ?_; refine r_fieldAddr rfl rfl ?_; refine r_take rfl ?_; refine r_loadB1 2 rfl rfl rfl rfl ?_; refine r_tev rfl rfl rfl ?_; refine r_ev rfl rfl ?_; refine r_ev rfl rfl ?_
    refine r_gdec rfl rfl (fun k2 => ?_) (fun k2 => ?_)
    · refine r_take rfl ?_; refine r_fieldAddr rfl rfl ?_; refine r_take rfl ?_; refine r_loadB1 2 rfl rfl rfl rfl ?_; refine r_take rfl ?_; refine r_len_sl rfl rfl ?_; refine r_tev rfl rfl rfl ?_; refine r_ev rfl rfl ?_; refine r_nn ?_
      refine r_cond rfl (fun k3 => ?_) (fun k3 => ?_)
      · have : t.args.length = 2 := by omega
        simp [isArrowT, k1, this, arrowB] at h0
        exact absurd k2 (of_decide_eq_false h0)
      · refine r_skip ?_; refine r_then_normal ?_; refine r_sr ?_; refine r_build rfl rfl (by rfl) ?_; refine r_build rfl rfl (by rfl) ?_; refine r_storeA 1 rfl rfl rfl rfl (by rfl) (by repeat' (first | exact rfl | assumption | refine all_cons ?_ ?_)) rfl ?_; refine r_storeA 0 rfl rfl rfl rfl (by rfl) (by repeat' (first | exact rfl | assumption | refine all_cons ?_ ?_)) rfl ?_; refine r_ev rfl rfl ?_; refine r_nn ?_; refine r_retc ?_
        exact r_ret3 [] rfl (res_blk 1 rfl rfl (by rfl)) (res_blk 0 rfl rfl (by rfl)) (.tmp rfl) (by simp) ⟨rfl, rfl, rfl⟩
    · refine r_pass rfl rfl rfl ?_; refine r_pass rfl rfl rfl ?_; refine r_pass rfl rfl rfl ?_; refine r_pass rfl rfl rfl ?_; refine r_ev rfl rfl ?_; refine r_nn ?_; refine r_cond_false rfl ?_; refine r_skip ?_; refine r_then_normal ?_; refine r_sr ?_; refine r_build rfl rfl (by rfl) ?_; refine r_build rfl rfl (by rfl) ?_; refine r_storeA 1 rfl rfl rfl rfl (by rfl) (by repeat' (first | exact rfl | assumption | refine all_cons ?_ ?_)) rfl ?_; refine r_storeA 0 rfl rfl rfl rfl (by rfl) (by repeat' (first | exact rfl | assumption | refine all_cons ?_ ?_)) rfl ?_; refine r_ev rfl rfl ?_; refine r_nn ?_; refine r_retc ?_
      exact r_ret3 [] rfl (res_blk 1 rfl rfl (by rfl)) (res_blk 0 rfl rfl (by rfl)) (.tmp rfl) (by simp) ⟨rfl, rfl, rfl⟩
  · refine r_pass rfl rfl rfl ?_; refine r_pass rfl rfl rfl ?_; refine r_pass rfl rfl rfl ?_; refine r_ev rfl rfl ?_; refine r_ev rfl rfl ?_; refine r_pass rfl rfl rfl ?_; refine r_pass rfl rfl rfl ?_; refine r_pass rfl rfl rfl ?_; refine r_pass rfl rfl rfl ?_; refine r_ev rfl rfl ?_; refine r_nn ?_; refine r_cond_false rfl ?_; refine r_skip ?_; refine r_then_normal ?_; refine r_sr ?_; refine r_build rfl rfl (by rfl) ?_; refine r_build rfl rfl (by rfl) ?_; refine r_storeA 1 rfl rfl rfl rfl (by rfl) (by repeat' (first | exact rfl | assumption | refine all_cons ?_ ?_)) rfl ?_; refine r_storeA 0 rfl rfl rfl rfl (by rfl) (by repeat' (first | exact rfl | assumption | refine all_cons ?_ ?_)) rfl ?_; refine r_ev rfl rfl ?_; refine r_nn ?_; refine r_retc ?_
    exact r_ret3 [] rfl (res_blk 1 rfl rfl (by rfl)) (res_blk 0 rfl rfl (by rfl)) (.tmp rfl) (by simp) ⟨rfl, rfl, rfl⟩
theorem IsArrow_yes (g : Ghost) {a b : Ty} {v : Value} (hv : TyV g v (arrowT a b)) : ∃ va vb, TyV g va a ∧ TyV g vb b ∧ Pure Tryz.prog 86 [v] g (.tuple #[va, vb, .bool true]) := by
  obtain ⟨sl, rfl, h1⟩ := hv
  obtain ⟨xs, hs1, ht1⟩ := h1.args
  replace hs1 : SlAt g 5 sl 2 xs := hs1
  replace ht1 : TysAt g [a, b] xs := ht1
  obtain ⟨b0, off, cap, rfl, hx⟩ := hs1.held (show 0 < 2 by omega)
  obtain ⟨s1, a1, r1⟩ := tys_rdA ht1 hx (i := 0) (by simp)
  obtain ⟨s2, a2, r2⟩ := tys_rdA ht1 hx (i := 1) (by simp)
  replace a1 : TyAt g a (tyCells a s1) := a1
  replace a2 : TyAt g b (tyCells b s2) := a2
  replace r1 : ∀ own, Rd g own b0 (off + 0 * 5) (tyCells a s1) := r1
  replace r2 : ∀ own, Rd g own b0 (off + 1 * 5) (tyCells b s2) := r2
  obtain ⟨_, hq1, _⟩ := a1.args
  obtain ⟨u1, w1, rfl⟩ := slForm2 hq1
  obtain ⟨_, hq2, _⟩ := a2.args
  obtain ⟨u2, w2, rfl⟩ := slForm2 hq2
  refine ⟨_, _, ⟨_, rfl, a1⟩, ⟨_, rfl, a2⟩, ?_⟩
  refine spec_of_run Tryz.func86 rfl Tryz.ntmps86 rfl fun E hE => ?_
  refine r_sr ?_
  refine r_box rfl rfl rfl (fun b1 => ?_)
  skip
  refine r_alloc rfl (fun b2 => ?_)
  skip
  refine r_alloc rfl (fun b3 => ?_)
  refine r_ev rfl rfl ?_; refine r_nn ?_; refine r_seq ?_; refine r_sr ?_; refine r_fieldAddr rfl rfl ?_; refine r_loadB1 2 rfl rfl rfl rfl ?_; refine r_ev rfl rfl ?_; refine r_ev rfl rfl ?_; refine r_take rfl ?_; refine r_fieldAddr rfl rfl ?_; refine r_take rfl ?_; refine r_loadB1 2 rfl rfl rfl rfl ?_; refine r_tev rfl rfl rfl ?_; refine r_ev rfl rfl ?_; refine r_ev rfl rfl ?_; refine r_take rfl ?_; refine r_fieldAddr rfl rfl ?_; refine r_take rfl ?_; refine r_loadB1 2 rfl rfl rfl rfl ?_; refine r_take rfl ?_; refine r_len_sl rfl rfl ?_; refine r_tev rfl rfl rfl ?_; refine r_ev rfl rfl ?_; refine r_nn ?_; refine r_cond_true rfl ?_; refine r_seq ?_
  refine h_beginE [1, 0] mixed (fun hG => ?_)
  refine h_takeX 0 rfl (by kernel_rfl) rfl hG (by first | exact Ghost.le_refl _ | assumption) (by repeat' (first | exact List.nil_sublist _ | refine List.Sublist.cons_cons _ ?_ | refine List.Sublist.cons _ ?_)) ?_; refine ⟨_, (val_fieldAddr rfl), ?_⟩; refine h_takeX 1 rfl (by kernel_rfl) rfl hG (by first | exact Ghost.le_refl _ | assumption) (by repeat' (first | exact List.nil_sublist _ | refine List.Sublist.cons_cons _ ?_ | refine List.Sublist.cons _ ?_)) ?_; refine ⟨_, (val_loadB1 0 rfl rfl rfl), ?_⟩
  refine h_takeX 2 rfl (by kernel_rfl) rfl hG (by first | exact Ghost.le_refl _ | assumption) (by repeat' (first | exact List.nil_sublist _ | refine List.Sublist.cons_cons _ ?_ | refine List.Sublist.cons _ ?_)) ⟨_, (val_indexAddr (j := 0) rfl rfl rfl (by omega)), ?_⟩
  refine h_takeX 3 rfl (by kernel_rfl) rfl hG (by first | exact Ghost.le_refl _ | assumption) (by repeat' (first | exact List.nil_sublist _ | refine List.Sublist.cons_cons _ ?_ | refine List.Sublist.cons _ ?_)) ⟨_, (val_load rfl (r1 _) rfl), ?_⟩
  refine h_takeX 4 rfl (by kernel_rfl) rfl hG (by first | exact Ghost.le_refl _ | assumption) (by repeat' (first | exact List.nil_sublist _ | refine List.Sublist.cons_cons _ ?_ | refine List.Sublist.cons _ ?_)) ?_; refine ⟨_, (val_fieldAddr rfl), ?_⟩; refine h_takeX 5 rfl (by kernel_rfl) rfl hG (by first | exact Ghost.le_refl _ | assumption) (by repeat' (first | exact List.nil_sublist _ | refine List.Sublist.cons_cons _ ?_ | refine List.Sublist.cons _ ?_)) ?_; refine ⟨_, (val_loadB1 0 rfl rfl rfl), ?_⟩
  refine h_takeX 6 rfl (by kernel_rfl) rfl hG (by first | exact Ghost.le_refl _ | assumption) (by repeat' (first | exact List.nil_sublist _ | refine List.Sublist.cons_cons _ ?_ | refine List.Sublist.cons _ ?_)) ⟨_, (val_indexAddr (j := 1) rfl rfl rfl (by omega)), ?_⟩
  refine h_takeX 7 rfl (by kernel_rfl) rfl hG (by first | exact Ghost.le_refl _ | assumption) (by repeat' (first | exact List.nil_sublist _ | refine List.Sublist.cons_cons _ ?_ | refine List.Sublist.cons _ ?_)) ⟨_, (val_load rfl (r2 _) rfl), ?_⟩
  refine h_one 8 (by kernel_rfl) rfl ?_
  refine r_storeA 1 rfl rfl rfl rfl (by rfl) (by repeat' (first | exact rfl | assumption | refine all_cons ?_ ?_)) rfl ?_; refine r_nn ?_
  refine h_kept hG (by first | exact Ghost.le_refl _ | assumption) (by repeat' (first | exact List.nil_sublist _ | refine List.Sublist.cons_cons _ ?_ | refine List.Sublist.cons _ ?_)) ?_
  refine h_one 9 (by kernel_rfl) rfl ?_
  refine r_storeA 0 rfl rfl rfl rfl (by rfl) (by repeat' (first | exact rfl | assumption | refine all_cons ?_ ?_)) rfl ?_; refine r_nn ?_
  refine h_kept hG (by first | exact Ghost.le_refl _ | assumption) (by repeat' (first | exact List.nil_sublist _ | refine List.Sublist.cons_cons _ ?_ | refine List.Sublist.cons _ ?_)) ?_
  refine h_one 10 (by kernel_rfl) rfl ?_
  refine r_ev rfl rfl ?_; refine r_nn ?_
  refine h_kept hG (by first | exact Ghost.le_refl _ | assumption) (by repeat' (first | exact List.nil_sublist _ | refine List.Sublist.cons_cons _ ?_ | refine List.Sublist.cons _ ?_)) ?_
  refine h_done (by kernel_rfl) ?_
  refine r_then_normal ?_; refine r_retc ?_; refine r_then_ret ?_
  exact r_ret3 [] rfl (res_blk 1 rfl rfl (by rfl)) (res_blk 0 rfl rfl (by rfl)) (.tmp rfl) (by simp) ⟨rfl, rfl, rfl⟩
theorem IsArrow_any (g : Ghost) {t : Ty} {v : Value} (ht : GoodT t) (hv : TyV g v t) : ∃ va vb ta tb, TyV g va ta ∧ TyV g vb tb ∧ Pure Tryz.prog 86 [v] g (.tuple #[va, vb, .bool (isArrowT t)]) := by
  have no : isArrowT t = false → ∃ va vb ta tb, TyV g va ta ∧ TyV g vb tb ∧ Pure Tryz.prog 86 [v] g (.tuple #[va, vb, .bool (isArrowT t)]) := fun h => by
    rw [h]
    have hn : TyV g noA noT := TyV.of (t := noT) (slNil g 5) (tysNil g)
    exact ⟨noA, noA, noT, noT, hn, hn, IsArrow_no g h hv⟩
  cases ht with
  | name n h => exact no (isArrow_name n)
  | con n ta h ha => exact no (isArrow_con ta h)
  | arrow a b ha hb =>
    obtain ⟨va, vb, h1, h2, h3⟩ := IsArrow_yes g hv
    exact ⟨va, vb, a, b, h1, h2, h3⟩
theorem argument_of (g : Ghost) (t : Ty) (v : Value) (hl : (showT t).length ≤ 100000) (hv : TyV g v t) (hT : Pure Tryz.prog 35 [v] g (str (showT t))) : Pure Tryz.prog 87 [v] g (str (showArg t)) := by
  obtain ⟨sl, rfl, h1⟩ := hv
  obtain ⟨xs, hs1, ht1⟩ := h1.args
  obtain ⟨a, c, rfl⟩ := slForm2 hs1
  have no : parenT t = false → showArg t = showT t := fun h => by unfold showArg; rw [h]; rfl
  refine spec_of_run Tryz.func87 rfl Tryz.ntmps87 rfl fun E hE => ?_
  refine r_sr ?_
  refine r_box rfl rfl rfl (fun b1 => ?_)
  refine r_ev rfl rfl ?_; refine r_nn ?_; refine r_seq ?_; refine r_sr ?_; refine r_fieldAddr rfl rfl ?_; refine r_loadB1 0 rfl rfl rfl rfl ?_; refine r_ev rfl rfl ?_; refine r_ev rfl rfl ?_
  refine r_gdec rfl rfl (fun k1 => ?_) (fun k1 => ?_)
  · refine r_take rfl ?_; refine r_fieldAddr rfl rfl ?_; refine r_take rfl ?_; refine r_loadB1 0 rfl rfl rfl rfl ?_; refine r_take rfl ?_; refine r_len_sl rfl rfl ?_; refine r_tev rfl rfl rfl ?_; refine r_ev rfl rfl ?_; refine r_nn ?_
    refine r_cond rfl (fun k2 => ?_) (fun k2 => ?_)
    · have hp : parenT t = true := by simp [parenT, k1]; omega
      have he : showArg t = [40] ++ showT t ++ [41] := by unfold showArg; rw [if_pos hp]; rfl
      refine r_sr ?_; refine r_loadB 0 rfl rfl rfl (by rfl) ?_
      refine r_callP rfl rfl hT ?_
      refine r_add_str rfl rfl rfl (by simp; omega) ?_
      refine r_add_str rfl rfl rfl (by simp; omega) ?_
      refine r_ev rfl rfl ?_; refine r_nn ?_; refine r_retc ?_; refine r_then_ret ?_
      exact r_ret1 [] rfl rfl (by simp) ⟨by rw [he], rfl, rfl⟩
    · have he := no (by simp [parenT]; intro _; exact List.length_eq_zero_iff.1 (by omega))
      refine r_skip ?_; refine r_then_normal ?_; refine r_sr ?_; refine r_loadB 0 rfl rfl rfl (by rfl) ?_
      refine r_callP rfl rfl hT ?_
      refine r_ev rfl rfl ?_; refine r_nn ?_; refine r_retc ?_
      exact r_ret1 [] rfl rfl (by simp) ⟨by rw [he], rfl, rfl⟩
  · have he := no (by simp [parenT, k1])
    refine r_pass rfl rfl rfl ?_; refine r_pass rfl rfl rfl ?_; refine r_pass rfl rfl rfl ?_; refine r_pass rfl rfl rfl ?_; refine r_ev rfl rfl ?_; refine r_nn ?_; refine r_cond_false rfl ?_; refine r_skip ?_; refine r_then_normal ?_; refine r_sr ?_; refine r_loadB 0 rfl rfl rfl (by rfl) ?_
    refine r_callP rfl rfl hT ?_
    refine r_ev rfl rfl ?_; refine r_nn ?_; refine r_retc ?_
    exact r_ret1 [] rfl rfl (by simp) ⟨by rw [he], rfl, rfl⟩
theorem Type8_aux (g : Ghost) : ∀ (N : Nat) (t : Ty) (v : Value), SizeOf.sizeOf t < N → GoodT t → (showT t).length ≤ 100000 → TyV g v t → Pure Tryz.prog 35 [v] g (str (showT t))
  | 0, _, _, h, _, _, _ => by omega
  | N + 1, t, v, h, ht, hl, hv => by
    have ih := Type8_aux g N
    obtain ⟨sl, rfl, h1⟩ := hv
    obtain ⟨xs, hs1, ht1⟩ := h1.args
    cases ht with
    | name n hn =>
      rw [showT_name] at hl ⊢
      refine spec_of_run Tryz.func35 rfl Tryz.ntmps35 rfl fun E hE => ?_
      refine r_sr ?_
      refine r_box rfl rfl rfl (fun b1 => ?_)
      refine r_ev rfl rfl ?_; refine r_nn ?_; refine r_seq ?_; refine r_sr ?_; refine r_fieldAddr rfl rfl ?_; refine r_loadB1 0 rfl rfl rfl rfl ?_; refine r_nn ?_; refine r_block ?_; refine r_sr ?_; refine r_ev rfl rfl ?_; refine r_ev rfl rfl ?_; refine r_nn ?_; refine r_cond_false rfl ?_; refine r_sr ?_; refine r_ev rfl rfl ?_; refine r_ev rfl rfl ?_; refine r_nn ?_; refine r_cond_false rfl ?_; refine r_sr ?_; refine r_ev rfl rfl ?_; refine r_ev rfl rfl ?_; refine r_nn ?_; refine r_cond_false rfl ?_; refine r_sr ?_; refine r_ev rfl rfl ?_; refine r_ev rfl rfl ?_; refine r_nn ?_; refine r_cond_true rfl ?_; refine r_sr ?_; refine r_fieldAddr rfl rfl ?_; refine r_loadB1 0 rfl rfl rfl rfl ?_; refine r_ev rfl rfl ?_; refine r_nn ?_; refine r_retc ?_; refine r_in_ret ?_; refine r_then_ret ?_
      exact r_ret1 [] rfl rfl (by simp) ⟨rfl, rfl, rfl⟩
    | con n ta hn ha =>
      have hsh := showT_con ta (ne_arrow hn)
      rw [hsh, List.length_append] at hl
      rw [hsh]
      replace hs1 : SlAt g 5 sl ta.length xs := hs1
      replace ht1 : TysAt g ta xs := ht1
      obtain ⟨a, c, rfl⟩ := slForm2 hs1
      have hle := hs1.le
      refine spec_of_run Tryz.func35 rfl Tryz.ntmps35 rfl fun E hE => ?_
      refine r_sr ?_
      refine r_box rfl rfl rfl (fun b1 => ?_)
      refine r_ev rfl rfl ?_; refine r_nn ?_; refine r_seq ?_; refine r_sr ?_; refine r_fieldAddr rfl rfl ?_; refine r_loadB1 0 rfl rfl rfl rfl ?_; refine r_nn ?_; refine r_block ?_; refine r_sr ?_; refine r_ev rfl rfl ?_; refine r_ev rfl rfl ?_; refine r_nn ?_; refine r_cond_false rfl ?_; refine r_sr ?_; refine r_ev rfl rfl ?_; refine r_ev rfl rfl ?_; refine r_nn ?_; refine r_cond_false rfl ?_; refine r_sr ?_; refine r_ev rfl rfl ?_; refine r_ev rfl rfl ?_; refine r_nn ?_; refine r_cond_false rfl ?_; refine r_sr ?_; refine r_ev rfl rfl ?_; refine r_ev rfl rfl ?_; refine r_nn ?_; refine r_cond_false rfl ?_; refine r_skip ?_; refine r_in_normal ?_; refine r_then_normal ?_; refine r_seq ?_; refine r_sr ?_; refine r_loadB 0 rfl rfl rfl (by rfl) ?_
      refine r_callP rfl rfl (IsArrow_no g (isArrow_con ta hn) ⟨_, rfl, h1⟩) ?_
      refine r_ev rfl rfl ?_; refine r_ev rfl rfl ?_; refine r_ev rfl rfl ?_; refine r_ev rfl rfl ?_
      refine r_alloc rfl (fun b3 => ?_)
      skip
      refine r_alloc rfl (fun b4 => ?_)
      refine r_storeA 1 rfl rfl rfl rfl (by rfl) (by repeat' (first | exact rfl | assumption | refine all_cons ?_ ?_)) rfl ?_; refine r_storeA 0 rfl rfl rfl rfl (by rfl) (by repeat' (first | exact rfl | assumption | refine all_cons ?_ ?_)) rfl ?_; refine r_ev rfl rfl ?_; refine r_nn ?_; refine r_sr ?_; refine r_ev rfl rfl ?_; refine r_nn ?_; refine r_cond_false rfl ?_; refine r_skip ?_; refine r_then_normal ?_; refine r_sr ?_; refine r_fieldAddr rfl rfl ?_; refine r_loadB1 2 rfl rfl rfl rfl ?_; refine r_ev rfl rfl ?_; refine r_nn ?_; refine r_seq ?_; refine r_sr ?_; refine r_ev rfl rfl ?_; refine r_nn ?_; refine r_block ?_
      refine r_loop (ι := Nat) (fun i => [(1, ptr b1 0), (10, str (n ++ showArgs (ta.take i))), (11, .int .i64 i)]) (fun _ => g) (fun _ => [.blk b4 32 (tyCells noT (.slice none 0 0)), .blk b3 32 (tyCells noT (.slice none 0 0)), .blk b1 32 (tyCells (conT n ta) (.slice a ta.length c))]) (fun i => i ≤ ta.length) (fun i => ta.length - i) 0 (Nat.zero_le _) ⟨rfl, by simp [showArgs]; rfl, rfl, trivial⟩ rfl rfl ?_
      intro i hi
      refine r_seq ?_; refine r_sr ?_; refine r_ev rfl rfl ?_; refine r_fieldAddr rfl rfl ?_; refine r_loadB1 2 rfl rfl rfl rfl ?_; refine r_len_sl rfl rfl ?_; refine r_ev rfl rfl ?_; refine r_nn ?_
      refine r_cond rfl (fun hlt => ?_) (fun hlt => ?_)
      · have hlt' : i < ta.length := by omega
        obtain ⟨b, off, cap, hsl, hx⟩ := hs1.held hlt'
        cases hsl
        obtain ⟨sl', h2, hr⟩ := tys_rdA ht1 hx hlt'
        have hm := List.getElem_mem hlt'
        have hsz : SizeOf.sizeOf ta[i] < N := by
          have := List.sizeOf_lt_of_mem hm
          simp [conT] at h
          omega
        have hsu := showArgs_succ hlt'
        have hA := showArgs_take ta (i + 1)
        rw [hsu] at hA
        simp only [List.length_append, List.length_cons, List.length_nil] at hA
        have hge := showArg_ge ta[i]
        have hv2 : TyV g (.agg (tyCells ta[i] sl').toArray) ta[i] := ⟨sl', rfl, h2⟩
        refine r_skip ?_; refine r_then_normal ?_; refine r_seq ?_; refine r_block ?_; refine r_region ?_; refine r_ev rfl rfl ?_; refine r_fieldAddr rfl rfl ?_; refine r_loadB1 2 rfl rfl rfl rfl ?_; refine r_ev rfl rfl ?_; refine r_indexAddr rfl rfl rfl rfl (by omega) ?_
        refine r_load rfl rfl (hr _) rfl ?_
        refine r_callP rfl rfl (argument_of g ta[i] _ (by omega) hv2 (ih ta[i] _ hsz (ha _ hm) (by omega) hv2)) ?_
        refine r_add_str rfl rfl rfl (by simp; omega) ?_
        refine r_add_str rfl rfl rfl (by simp; omega) ?_
        refine r_ev rfl rfl ?_; refine r_nil ?_; refine r_in_normal ?_; refine r_then_normal ?_; refine r_region ?_; refine r_ev rfl rfl ?_; refine r_add rfl rfl rfl (by omega) ?_; refine r_ev rfl rfl ?_; refine r_nn ?_
        exact r_again (i + 1) (by omega) (by omega) ⟨rfl, by rw [hsu, ← List.append_assoc n]; rfl, rfl, trivial⟩ rfl rfl
      · have hil : i = ta.length := by omega
        subst hil
        refine r_exit ?_; refine r_then_exit ?_; refine r_then_exit ?_; refine r_in_exit ?_; refine r_then_normal ?_; refine r_sr ?_; refine r_ev rfl rfl ?_; refine r_ev rfl rfl ?_; refine r_nn ?_; refine r_retc ?_
        exact r_ret1 [] rfl rfl (by simp) ⟨by rw [List.take_length], rfl, rfl⟩
    | arrow a b ha hb =>
      have hsh := showT_arrow a b
      rw [hsh] at hl ⊢
      simp only [List.length_append, List.length_cons, List.length_nil] at hl
      have hge := showFrom_ge a
      obtain ⟨va, vb, hva, hvb, hP⟩ := IsArrow_yes g (v := .agg (tyCells (arrowT a b) sl).toArray) ⟨sl, rfl, h1⟩
      have hsa : SizeOf.sizeOf a < N := by simp [arrowT, conT] at h; omega
      have hsb : SizeOf.sizeOf b < N := by simp [arrowT, conT] at h; omega
      have iha := ih a va hsa ha (by omega) hva
      have ihb := ih b vb hsb hb (by omega) hvb
      obtain ⟨wa, wb, ua, ub, hwa, hwb, hQ⟩ := IsArrow_any g ha hva
      obtain ⟨x1, m1, c1, rfl, _⟩ := hva.cells5
      obtain ⟨x2, m2, c2, rfl, _⟩ := hvb.cells5
      obtain ⟨x3, m3, c3, rfl, _⟩ := hwa.cells5
      obtain ⟨x4, m4, c4, rfl, _⟩ := hwb.cells5
      obtain ⟨_, hs0, _⟩ := h1.args
      obtain ⟨y1, y2, rfl⟩ := slForm2 hs0
      have hno : isArrowT a = false → showFrom a = showT a := fun h => by unfold showFrom; rw [h]; rfl
      have hyes : isArrowT a = true → showFrom a = [40] ++ showT a ++ [41] := fun h => by unfold showFrom; rw [if_pos h]; rfl
      refine spec_of_run Tryz.func35 rfl Tryz.ntmps35 rfl fun E hE => ?_
      refine r_sr ?_
      refine r_box rfl rfl rfl (fun b1 => ?_)
      refine r_ev rfl rfl ?_; refine r_nn ?_; refine r_seq ?_; refine r_sr ?_; refine r_fieldAddr rfl rfl ?_; refine r_loadB1 0 rfl rfl rfl rfl ?_; refine r_nn ?_; refine r_block ?_; refine r_sr ?_; refine r_ev rfl rfl ?_; refine r_ev rfl rfl ?_; refine r_nn ?_; refine r_cond_false rfl ?_; refine r_sr ?_; refine r_ev rfl rfl ?_; refine r_ev rfl rfl ?_; refine r_nn ?_; refine r_cond_false rfl ?_; refine r_sr ?_; refine r_ev rfl rfl ?_; refine r_ev rfl rfl ?_; refine r_nn ?_; refine r_cond_false rfl ?_; refine r_sr ?_; refine r_ev rfl rfl ?_; refine r_ev rfl rfl ?_; refine r_nn ?_; refine r_cond_false rfl ?_; refine r_skip ?_; refine r_in_normal ?_; refine r_then_normal ?_; refine r_seq ?_; refine r_sr ?_; refine r_loadB 0 rfl rfl rfl (by rfl) ?_
      refine r_callP rfl rfl hP ?_
      refine r_ev rfl rfl ?_; refine r_ev rfl rfl ?_; refine r_ev rfl rfl ?_; refine r_ev rfl rfl ?_
      refine r_alloc rfl (fun b3 => ?_)
      skip
      refine r_alloc rfl (fun b4 => ?_)
      refine r_storeA 1 rfl rfl rfl rfl (by rfl) (by repeat' (first | exact rfl | assumption | refine all_cons ?_ ?_)) rfl ?_; refine r_storeA 0 rfl rfl rfl rfl (by rfl) (by repeat' (first | exact rfl | assumption | refine all_cons ?_ ?_)) rfl ?_; refine r_ev rfl rfl ?_; refine r_nn ?_; refine r_sr ?_; refine r_ev rfl rfl ?_; refine r_nn ?_; refine r_cond_true rfl ?_; refine r_sr ?_; refine r_loadB 1 rfl rfl rfl (by rfl) ?_
      refine r_callP rfl rfl iha ?_
      refine r_ev rfl rfl ?_; refine r_nn ?_; refine r_seq ?_; refine r_sr ?_; refine r_loadB 1 rfl rfl rfl (by rfl) ?_
      refine r_callP rfl rfl hQ ?_
      refine r_ev rfl rfl ?_; refine r_ev rfl rfl ?_; refine r_ev rfl rfl ?_; refine r_ev rfl rfl ?_
      refine r_alloc rfl (fun b7 => ?_)
      skip
      refine r_alloc rfl (fun b8 => ?_)
      refine r_storeA 1 rfl rfl rfl rfl (by rfl) (by repeat' (first | exact rfl | assumption | refine all_cons ?_ ?_)) rfl ?_; refine r_storeA 0 rfl rfl rfl rfl (by rfl) (by repeat' (first | exact rfl | assumption | refine all_cons ?_ ?_)) rfl ?_; refine r_ev rfl rfl ?_; refine r_nn ?_; refine r_sr ?_; refine r_ev rfl rfl ?_; refine r_nn ?_
      cases hia : isArrowT a with
      | true =>
        have he := hyes hia
        have hel := congrArg List.length he
        simp only [List.length_append, List.length_cons, List.length_nil] at hel
        refine r_cond_true rfl ?_; refine r_region ?_; refine r_ev rfl rfl ?_
        refine r_add_str rfl rfl rfl (by simp; omega) ?_
        refine r_add_str rfl rfl rfl (by simp; omega) ?_
        refine r_ev rfl rfl ?_; refine r_nn ?_; refine r_sr ?_; refine r_ev rfl rfl ?_
        refine r_add_str rfl rfl rfl (by simp; omega) ?_
        refine r_loadB 2 rfl rfl rfl (by rfl) ?_
        refine r_callP rfl rfl ihb ?_
        refine r_add_str rfl rfl rfl (by simp; omega) ?_
        refine r_ev rfl rfl ?_; refine r_nn ?_; refine r_retc ?_; refine r_then_ret ?_
        exact r_ret1 [] rfl rfl (by simp) ⟨by rw [he, ← List.append_assoc], rfl, rfl⟩
      | false =>
        have he := hno hia
        rw [he] at hl
        refine r_cond_false rfl ?_; refine r_skip ?_; refine r_then_normal ?_; refine r_sr ?_; refine r_ev rfl rfl ?_
        refine r_add_str rfl rfl rfl (by simp; omega) ?_
        refine r_loadB 2 rfl rfl rfl (by rfl) ?_
        refine r_callP rfl rfl ihb ?_
        refine r_add_str rfl rfl rfl (by simp; omega) ?_
        refine r_ev rfl rfl ?_; refine r_nn ?_; refine r_retc ?_; refine r_then_ret ?_
        exact r_ret1 [] rfl rfl (by simp) ⟨by rw [he, ← List.append_assoc], rfl, rfl⟩
theorem Type8_spec (g : Ghost) (t : Ty) (v : Value) (ht : GoodT t) (hl : (showT t).length ≤ 100000) (hv : TyV g v t) : Pure Tryz.prog 35 [v] g (str (showT t)) := Type8_aux g _ t v (Nat.lt_succ_self _) ht hl hv
theorem Few_spec (g : Ghost) (v : Value) (l : List Int) (hs : SlAt g 1 v l.length (l.map (Value.int .i64))) : Pure Tryz.prog 10 [v] g (.bool (decide ((l.length : Int) ≤ 60))) := by
  obtain ⟨a, c, rfl⟩ := slForm2 hs
  refine spec_of_run Tryz.func10 rfl Tryz.ntmps10 rfl fun E hE => ?_
  refine r_sr ?_; refine r_ev rfl rfl ?_; refine r_nn ?_; refine r_sr ?_; refine r_ev rfl rfl ?_; refine r_len_sl rfl rfl ?_; refine r_ev rfl rfl ?_; refine r_ev rfl rfl ?_; refine r_nn ?_; refine r_retc ?_
  exact r_ret1 [] rfl rfl (by simp) ⟨rfl, rfl, rfl⟩
end Go.Proofs.YtcapgcohhgjngaaGreatDoor
-- sum 033f8d2f3b7c42b5
/- Small walks for expressions: Tape.Variable, the reference's Number; facts about the declarations that programs are made of. -/
namespace Go.Th
/-- How long the text of an expression of a depth can be. -/
def bE : Nat → Nat
  | 0 => 5
  | d + 1 => 3 * bE d + 43
theorem bE_ge : ∀ d, 5 ≤ bE d
  | 0 => Nat.le_refl _
  | d + 1 => by have := bE_ge d; simp only [bE]; omega
def gcC (c : Cn) : Prop := kindOf c.name = 2 ∧ c.name.length ≤ 5 ∧ c.fields.length ≤ 2
def gcD (d : Da) : Prop := 1 ≤ d.cons.length ∧ d.cons.length ≤ 2 ∧ ∀ c ∈ d.cons, gcC c
def gcDB (d : Da) : Bool := decide (1 ≤ d.cons.length) && decide (d.cons.length ≤ 2) && d.cons.all fun c => decide (kindOf c.name = 2) && decide (c.name.length ≤ 5) && decide (c.fields.length ≤ 2)
theorem gcD_of {d : Da} (h : gcDB d = true) : gcD d := by
  simp only [gcDB, Bool.and_eq_true, decide_eq_true_eq, List.all_eq_true] at h
  exact ⟨h.1.1, h.1.2, fun c hc => ⟨(h.2 c hc).1.1, (h.2 c hc).1.2, (h.2 c hc).2⟩⟩
theorem allD_gc : ∀ d ∈ allD, gcD d := fun d hd => gcD_of (List.all_eq_true.1 (show allD.all gcDB = true by kernel_rfl) d hd)
def varNames : List Bytes := [[120], [121], [122], [102], [103], [118, 49], [118, 50], [105, 100]]
theorem var_good {k : Nat} (h : k < varNames.length) : kindOf varNames[k] = 1 ∧ varNames[k].length ≤ 2 := by
  have : ∀ v ∈ varNames, kindOf v = 1 ∧ v.length ≤ 2 := by decide
  exact this _ (List.getElem_mem h)
end Go.Th
namespace Go.Proofs.YtcapgcohhgjngaaGreatDoor
open Go Go.Eng Go.Th Go.Proofs
set_option maxRecDepth 10000
set_option maxHeartbeats 4000000
attribute [local irreducible] wpList Code.wp Run bodyPost Go.Eng.Ends Exit.then Exit.inBlock Again Wq Kq
theorem Variable_spec (g : Ghost) (codes : List Int) (hc : codes.length ≤ 1000000) (lv : Value) (hs : SlAt g 1 lv codes.length (codes.map (Value.int .i64))) (b i : Nat) (hi : i ≤ codes.length) :
    SpecL Tryz.prog 43 [ptr b 0] g (tpB b lv i) fun v g' r' => g' = g ∧ ∃ (n : Bytes) (i' : Nat), v = str n ∧ kindOf n = 1 ∧ n.length ≤ 2 ∧ r' = tpB b lv i' ∧ i' ≤ codes.length := by
  refine spec_of_run Tryz.func43 rfl Tryz.ntmps43 rfl fun E hE => ?_
  refine r_sr ?_; refine r_ev rfl rfl ?_; refine r_nn ?_; refine r_sr ?_
  refine r_buildSlice rfl rfl (by rfl) (by rfl) (by rfl) (by rfl) (by rfl) (fun b3 => ?_)
  refine r_ev rfl rfl ?_
  refine r_callL 1 rfl rfl rfl (Next_spec g codes hc lv hs b i hi 8 (by omega)) ?_
  rintro v g1 r' ⟨rfl, k, i1, rfl, hk1, hk2, rfl, hi1⟩ _
  have hk : k.toNat < varNames.length := by show _ < 8; omega
  obtain ⟨v1, v2⟩ := var_good hk
  skip
  refine r_indexAddr (j := k.toNat) rfl rfl rfl (by omega) (by omega) ?_
  refine r_load1 rfl rfl (v := str varNames[k.toNat]) (rd_row1 0 rfl ?_) ?_
  · rw [show 0 + k.toNat * 1 = k.toNat by omega]
    show (varNames.map str)[k.toNat]? = _
    rw [List.getElem?_map, List.getElem?_eq_getElem hk]
    rfl
  refine r_ev rfl rfl ?_; refine r_nn ?_; refine r_retc ?_
  exact r_ret1 [_] rfl rfl (.cons _ (List.Sublist.refl _)) ⟨_, rfl, rfl, _, i1, rfl, v1, v2, rfl, hi1⟩
def digitList : Bytes := [48, 49, 50, 51, 52, 53, 54, 55, 56, 57]
theorem digitList_at {d : Nat} (h : d < 10) : (digitList.take (d + 1)).drop d = [UInt8.ofNat (48 + d)] := by
  have : ∀ d : Fin 10, (digitList.take (d.val + 1)).drop d.val = [UInt8.ofNat (48 + d.val)] := by decide
  exact this ⟨d, h⟩
theorem dec_small {u : Nat} (h : u < 10) : Lib.decDigits u = [UInt8.ofNat (48 + u)] := by rw [Lib.decDigits, dif_pos h]
theorem dec_big {u : Nat} (h : ¬ u < 10) : Lib.decDigits u = Lib.decDigits (u / 10) ++ [UInt8.ofNat (48 + u % 10)] := by rw [Lib.decDigits, dif_neg h]
theorem rNumber_spec (g : Ghost) (n : Int) (hn : -9223372036854775808 ≤ n ∧ n ≤ 9223372036854775807) (hD : (Lib.decDigits n.natAbs).length ≤ 100) : Pure Tryz.prog 46 [.int .i64 n] g (str (Lib.itoa n)) := by
  refine spec_of_run Tryz.func46 rfl Tryz.ntmps46 rfl fun E hE => ?_
  refine r_sr ?_; refine r_ev rfl rfl ?_; refine r_nn ?_; refine r_seq ?_; refine r_sr ?_; refine r_ev rfl rfl ?_; refine r_ev rfl rfl ?_; refine r_nn ?_
  refine r_cond rfl (fun h0 => ?_) (fun h0 => ?_)
  · subst h0
    refine r_sr ?_; refine r_ev rfl rfl ?_; refine r_nn ?_; refine r_retc ?_; refine r_then_ret ?_
    exact r_ret1 [] rfl rfl (by simp) ⟨by
      have : Lib.itoa 0 = [48] := by unfold Lib.itoa; rw [if_neg (by omega)]; exact dec_small (by decide)
      rw [this], rfl, rfl⟩
  · refine r_skip ?_; refine r_then_normal ?_; refine r_sr ?_; refine r_ev rfl rfl ?_; refine r_nn ?_; refine r_seq ?_; refine r_sr ?_; refine r_ev rfl rfl ?_; refine r_ev rfl rfl ?_; refine r_nn ?_; refine r_block ?_
    refine r_loop (ι := Int × Bytes) (fun p => [(0, .int .i64 n), (3, str p.2), (4, .int .i64 p.1)]) (fun _ => g) (fun _ => []) (fun p => p.1.natAbs ≤ n.natAbs ∧ (p.1 ≠ 0 → Lib.decDigits n.natAbs = Lib.decDigits p.1.natAbs ++ p.2) ∧ (p.1 = 0 → Lib.decDigits n.natAbs = p.2)) (fun p => p.1.natAbs) (n, []) ⟨Nat.le_refl _, fun _ => by simp, fun h => absurd h h0⟩ ⟨rfl, rfl, rfl, trivial⟩ rfl rfl ?_
    rintro ⟨k, s⟩ ⟨hk, h1, h2⟩
    simp only at hk h1 h2
    show Run E _ [(0, .int .i64 n), (3, str s), (4, .int .i64 k)] g [] _
    refine r_seq ?_; refine r_sr ?_; refine r_ev rfl rfl ?_; refine r_ev rfl rfl ?_; refine r_nn ?_
    refine r_cond rfl (fun hk0 => ?_) (fun hk0 => ?_)
    · have hd := h1 hk0
      have hsl : s.length ≤ 100 := by have := congrArg List.length hd; rw [List.length_append] at this; omega
      have hm := Int.natAbs_tmod k 10
      have hq := Int.natAbs_tdiv k 10
      have hm' : (k.tmod 10).natAbs = k.natAbs % 10 := hm
      have hq' : (k.tdiv 10).natAbs = k.natAbs / 10 := hq
      obtain ⟨d, hdd⟩ : ∃ d : Nat, d = k.natAbs % 10 := ⟨_, rfl⟩
      have hd10 : d < 10 := by omega
      have hnext : (k.tdiv 10 ≠ 0 → Lib.decDigits n.natAbs = Lib.decDigits (k.tdiv 10).natAbs ++ ([UInt8.ofNat (48 + d)] ++ s)) ∧ (k.tdiv 10 = 0 → Lib.decDigits n.natAbs = [UInt8.ofNat (48 + d)] ++ s) := by
        constructor
        · intro h
          rw [hd, dec_big (by omega), hq', ← hdd, List.append_assoc]
        · intro h
          rw [hd, dec_small (by omega), show k.natAbs = d by omega]
      refine r_skip ?_; refine r_then_normal ?_; refine r_seq ?_; refine r_block ?_; refine r_sr ?_; refine r_ev rfl rfl ?_
      refine r_rem rfl rfl rfl (by omega) ?_
      refine r_ev rfl rfl ?_; refine r_nn ?_; refine r_seq ?_; refine r_sr ?_; refine r_ev rfl rfl ?_; refine r_ev rfl rfl ?_; refine r_nn ?_
      refine r_cond rfl (fun hdn => ?_) (fun hdn => ?_)
      · refine r_region ?_; refine r_ev rfl rfl ?_
        refine r_neg rfl rfl (by omega) ?_
        refine r_ev rfl rfl ?_; refine r_nn ?_; refine r_region ?_; refine r_ev rfl rfl ?_; refine r_ev rfl rfl ?_
        refine r_add rfl rfl rfl (by omega) ?_
        refine r_slice_str (l := digitList) (p := d) (q := d + 1) rfl rfl ⟨_, _, rfl, by omega⟩ ⟨_, _, rfl, by omega⟩ (by omega) (show d + 1 ≤ 10 by omega) ?_
        rw [digitList_at hd10]
        refine r_ev rfl rfl ?_
        refine r_add_str rfl rfl rfl (by simp; omega) ?_
        refine r_ev rfl rfl ?_; refine r_nil ?_; refine r_in_normal ?_; refine r_then_normal ?_; refine r_region ?_; refine r_ev rfl rfl ?_
        refine r_quo rfl rfl rfl (by omega) (by omega) ?_
        refine r_ev rfl rfl ?_; refine r_nn ?_
        exact r_again (k.tdiv 10, [UInt8.ofNat (48 + d)] ++ s) ⟨by simp only; omega, hnext.1, hnext.2⟩ (by simp only; omega) ⟨rfl, rfl, rfl, trivial⟩ rfl rfl
      · refine r_skip ?_; refine r_then_normal ?_; refine r_region ?_; refine r_ev rfl rfl ?_; refine r_ev rfl rfl ?_
        refine r_add rfl rfl rfl (by omega) ?_
        refine r_slice_str (l := digitList) (p := d) (q := d + 1) rfl rfl ⟨_, _, rfl, by omega⟩ ⟨_, _, rfl, by omega⟩ (by omega) (show d + 1 ≤ 10 by omega) ?_
        rw [digitList_at hd10]
        refine r_ev rfl rfl ?_
        refine r_add_str rfl rfl rfl (by simp; omega) ?_
        refine r_ev rfl rfl ?_; refine r_nil ?_; refine r_in_normal ?_; refine r_then_normal ?_; refine r_region ?_; refine r_ev rfl rfl ?_
        refine r_quo rfl rfl rfl (by omega) (by omega) ?_
        refine r_ev rfl rfl ?_; refine r_nn ?_
        exact r_again (k.tdiv 10, [UInt8.ofNat (48 + d)] ++ s) ⟨by simp only; omega, hnext.1, hnext.2⟩ (by simp only; omega) ⟨rfl, rfl, rfl, trivial⟩ rfl rfl
    · have hk1 : k = 0 := by omega
      have hd := h2 hk1
      have hsl : s.length ≤ 100 := by rw [← hd]; exact hD
      refine r_exit ?_; refine r_then_exit ?_; refine r_then_exit ?_; refine r_in_exit ?_; refine r_then_normal ?_; refine r_seq ?_; refine r_sr ?_; refine r_ev rfl rfl ?_; refine r_ev rfl rfl ?_; refine r_nn ?_
      refine r_cond rfl (fun hneg => ?_) (fun hneg => ?_)
      · refine r_region ?_; refine r_ev rfl rfl ?_
        refine r_add_str rfl rfl rfl (by simp; omega) ?_
        refine r_ev rfl rfl ?_; refine r_nn ?_; refine r_sr ?_; refine r_ev rfl rfl ?_; refine r_ev rfl rfl ?_; refine r_nn ?_; refine r_retc ?_
        exact r_ret1 [] rfl rfl (by simp) ⟨by rw [Lib.itoa, if_pos hneg, hd]; rfl, rfl, rfl⟩
      · refine r_skip ?_; refine r_then_normal ?_; refine r_sr ?_; refine r_ev rfl rfl ?_; refine r_ev rfl rfl ?_; refine r_nn ?_; refine r_retc ?_
        exact r_ret1 [] rfl rfl (by simp) ⟨by rw [Lib.itoa, if_neg hneg, ← hd, show n.natAbs = n.toNat by omega], rfl, rfl⟩
theorem Number1_spec (g : Ghost) (m : Nat) (hm : m < 10) : Pure Tryz.prog 46 [.int .i64 m] g (str [UInt8.ofNat (48 + m)]) := by
  have h := rNumber_spec g m (by omega) (by rw [dec_small (by omega)]; simp)
  have e : Lib.itoa (m : Int) = [UInt8.ofNat (48 + m)] := by
    unfold Lib.itoa
    rw [if_neg (by omega)]
    exact dec_small hm
  rw [e] at h
  exact h
end Go.Proofs.YtcapgcohhgjngaaGreatDoor
-- sum 46d5015d70a94a29

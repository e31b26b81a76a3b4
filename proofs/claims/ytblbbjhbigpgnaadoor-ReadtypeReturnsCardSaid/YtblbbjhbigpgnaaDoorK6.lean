/- Texts of types: the walks of typedholesref3.IsArrow and of typedholesref8.Type and argument; small walks of typedholesmake. -/
import Derived.Test.YtblbbjhbigpgnaaDoorK5
import Derived.Test.YtblbbjhbigpgnaaDoorTypJ
import Derived.Test.YtblbbjhbigpgnaaDoorTypM
namespace Go.Th
theorem showArgs_app : ∀ (x y : List Ty), showArgs (x ++ y) = showArgs x ++ showArgs y
  | [], y => by simp [showArgs]
  | a :: x, y => by rw [List.cons_append, showArgs_cons, showArgs_cons, showArgs_app x y]; simp
theorem showArgs_succ {ta : List Ty} {i : Nat} (h : i < ta.length) : showArgs (ta.take (i + 1)) = showArgs (ta.take i) ++ ([32] ++ showArg ta[i]) := by
  rw [List.take_succ_eq_append_getElem h, showArgs_app, showArgs_cons]
  simp [showArgs]
theorem showArgs_take (ta : List Ty) (i : Nat) : (showArgs (ta.take i)).length ≤ (showArgs ta).length := by
  have := congrArg List.length (showArgs_app (ta.take i) (ta.drop i))
  rw [List.take_append_drop, List.length_append] at this
  omega
theorem showArg_ge (t : Ty) : (showT t).length ≤ (showArg t).length := by
  unfold showArg
  split
  · simp only [List.length_cons, List.length_append, List.length_nil]; omega
  · exact Nat.le_refl _
theorem showFrom_ge (t : Ty) : (showT t).length ≤ (showFrom t).length := by
  unfold showFrom
  split
  · simp only [List.length_cons, List.length_append, List.length_nil]; omega
  · exact Nat.le_refl _
theorem isArrow_con {n : Bytes} (ta : List Ty) (h : kindOf n = 2) : isArrowT (conT n ta) = false := by
  simp [isArrowT, conT, Ty.kind, Ty.name, ne_arrow h]
theorem isArrow_name (n : Bytes) : isArrowT (nameT n) = false := rfl
def gdDB (d : Da) : Bool := decide (kindOf d.name = 2) && decide (d.name.length ≤ 6) && decide (d.params.length ≤ 2)
theorem gdD_of {d : Da} (h : gdDB d = true) : gdD d := by
  simp only [gdDB, Bool.and_eq_true, decide_eq_true_eq] at h
  exact ⟨h.1.1, h.1.2, h.2⟩
theorem allD_gd : ∀ d ∈ allD, gdD d := fun d hd => gdD_of (List.all_eq_true.1 (show allD.all gdDB = true by kernel_rfl) d hd)
def abc : List Ty := [nameT [97], nameT [98], nameT [99]]
theorem abc_good : ∀ t ∈ abc, GoodT t ∧ (showT t).length ≤ 3 := by
  intro t ht
  have : t = nameT [97] ∨ t = nameT [98] ∨ t = nameT [99] := by simpa [abc] using ht
  rcases this with rfl | rfl | rfl <;> exact ⟨.name _ (by decide), by rw [showT_name]; decide⟩
end Go.Th
namespace Go.Proofs.YtblbbjhbigpgnaaDoor
open Go Go.Eng Go.Th Go.Proofs
set_option maxRecDepth 10000
set_option maxHeartbeats 4000000
attribute [local irreducible] wpList Code.wp Run bodyPost Go.Eng.Ends Exit.then Exit.inBlock Again Wq Kq
abbrev noA : Value := .agg (tyCells noT (.slice none 0 0)).toArray
theorem IsArrow_no (g : Ghost) {t : Ty} {v : Value} (h0 : isArrowT t = false) (hv : TyV g v t) : Pure Tryd.prog 33 [v] g (.tuple #[noA, noA, .bool false]) := by
  obtain ⟨sl, rfl, h1⟩ := hv
  obtain ⟨xs, hs1, ht1⟩ := h1.args
  obtain ⟨a, c, rfl⟩ := slForm2 hs1
  refine spec_of_run Tryd.func33 rfl Tryd.ntmps33 rfl fun E hE => ?_
  refine r_sr ?_
  refine r_box rfl rfl rfl (fun b1 => ?_)
  skip
  refine r_alloc rfl (fun b2 => ?_)
  skip
  refine r_alloc rfl (fun b3 => ?_)
  refine r_ev rfl rfl ?_; refine r_nn ?_; refine r_seq ?_; refine r_sr ?_; refine r_fieldAddr rfl rfl ?_; refine r_loadB1 2 rfl rfl rfl rfl ?_; refine r_ev rfl rfl ?_; refine r_ev rfl rfl ?_
  refine r_gdec rfl rfl (fun k1 => ?_) (fun k1 => ?_)
  · refine r_take rfl ?_; refine r_fieldAddr rfl rfl ?_; refine r_take rfl ?_; refine r_loadB1 2 rfl rfl rfl rfl ?_; refine r_tev rfl rfl rfl ?_; refine r_ev rfl rfl ?_; refine r_ev rfl rfl ?_
    refine r_gdec rfl rfl (fun k2 => ?_) (fun k2 => ?_)
    · refine r_take rfl ?_; refine r_fieldAddr rfl rfl ?_; refine r_take rfl ?_; refine r_loadB1 2 rfl rfl rfl rfl ?_; refine r_take rfl ?_; refine r_len_sl rfl rfl ?_; refine r_tev rfl rfl rfl ?_; refine r_ev rfl rfl ?_; refine r_nn ?_
      refine r_cond rfl (fun k3 => ?_) (fun k3 => ?_)
      · have : t.args.length = 2 := by omega
        simp [isArrowT, k1, this, arrowB] at h0
        exact absurd k2 (of_decide_eq_false h0)
      · refine r_skip ?_; refine r_then_normal ?_; refine r_sr ?_; refine r_build rfl rfl (by rfl) ?_; refine r_build rfl rfl (by rfl) ?_; refine r_storeA 1 rfl rfl rfl rfl (by rfl) (by repeat' (first | exact rfl | assumption | refine all_cons ?_ ?_)) rfl ?_; refine r_storeA 0 rfl rfl rfl rfl (by rfl) (by repeat' (first | exact rfl | assumption | refine all_cons ?_ ?_)) rfl ?_; refine r_ev rfl rfl ?_; refine r_nn ?_; refine r_retc ?_
        exact r_ret3 [] rfl (res_blk 1 rfl rfl (by rfl)) (res_blk 0 rfl rfl (by rfl)) (.tmp rfl) (by simp) ⟨rfl, rfl, rfl⟩
    · refine r_pass rfl rfl rfl ?_; refine r_pass rfl rfl rfl ?_; refine r_pass rfl rfl rfl ?_; refine r_pass rfl rfl rfl ?_; refine r_ev rfl rfl ?_; refine r_nn ?_; refine r_cond_false rfl ?_; refine r_skip ?_; refine r_then_normal ?_; refine r_sr ?_; refine r_build rfl rfl (by rfl) ?_; refine r_build rfl rfl (by rfl) ?_; refine r_storeA 1 rfl rfl rfl rfl (by rfl) (by repeat' (first | exact rfl | assumption | refine all_cons ?_ ?_)) rfl ?_; refine r_storeA 0 rfl rfl rfl rfl (by rfl) (by repeat' (first | exact rfl | assumption | refine all_cons ?_ ?_)) rfl ?_; refine r_ev rfl rfl ?_; refine r_nn ?_; refine r_retc ?_
      exact r_ret3 [] rfl (res_blk 1 rfl rfl (by rfl)) (res_blk 0 rfl rfl (by rfl)) (.tmp rfl) (by simp) ⟨rfl, rfl, rfl⟩
  · refine r_pass rfl rfl rfl ?_; refine r_pass rfl rfl rfl ?_; refine r_pass rfl rfl rfl ?_; refine r_ev rfl rfl ?_; refine r_ev rfl rfl ?_; refine r_pass rfl rfl rfl ?_; refine r_pass rfl rfl rfl ?_; refine r_pass rfl rfl rfl ?_; refine r_pass rfl rfl rfl ?_; refine r_ev rfl rfl ?_; refine r_nn ?_; refine r_cond_false rfl ?_; refine r_skip ?_; refine r_then_normal ?_; refine r_sr ?_; refine r_build rfl rfl (by rfl) ?_; refine r_build rfl rfl (by rfl) ?_; refine r_storeA 1 rfl rfl rfl rfl (by rfl) (by repeat' (first | exact rfl | assumption | refine all_cons ?_ ?_)) rfl ?_; refine r_storeA 0 rfl rfl rfl rfl (by rfl) (by repeat' (first | exact rfl | assumption | refine all_cons ?_ ?_)) rfl ?_; refine r_ev rfl rfl ?_; refine r_nn ?_; refine r_retc ?_
    exact r_ret3 [] rfl (res_blk 1 rfl rfl (by rfl)) (res_blk 0 rfl rfl (by rfl)) (.tmp rfl) (by simp) ⟨rfl, rfl, rfl⟩
theorem IsArrow_yes (g : Ghost) {a b : Ty} {v : Value} (hv : TyV g v (arrowT a b)) : ∃ va vb, TyV g va a ∧ TyV g vb b ∧ Pure Tryd.prog 33 [v] g (.tuple #[va, vb, .bool true]) := by
  obtain ⟨sl, rfl, h1⟩ := hv
  obtain ⟨xs, hs1, ht1⟩ := h1.args
  replace hs1 : SlAt g 5 sl 2 xs := hs1
  replace ht1 : TysAt g [a, b] xs := ht1
  obtain ⟨b0, off, cap, rfl, hx⟩ := hs1.held (show 0 < 2 by omega)
  obtain ⟨s1, a1, r1⟩ := tys_rdA ht1 hx (i := 0) (by simp)
  obtain ⟨s2, a2, r2⟩ := tys_rdA ht1 hx (i := 1) (by simp)
  replace a1 : TyAt g a (tyCells a s1) := a1
  replace a2 : TyAt g b (tyCells b s2) := a2
  replace r1 : ∀ own, Rd g own b0 (off + 0 * 5) (tyCells a s1) := r1
  replace r2 : ∀ own, Rd g own b0 (off + 1 * 5) (tyCells b s2) := r2
  obtain ⟨_, hq1, _⟩ := a1.args
  obtain ⟨u1, w1, rfl⟩ := slForm2 hq1
  obtain ⟨_, hq2, _⟩ := a2.args
  obtain ⟨u2, w2, rfl⟩ := slForm2 hq2
  refine ⟨_, _, ⟨_, rfl, a1⟩, ⟨_, rfl, a2⟩, ?_⟩
  refine spec_of_run Tryd.func33 rfl Tryd.ntmps33 rfl fun E hE => ?_
  refine r_sr ?_
  refine r_box rfl rfl rfl (fun b1 => ?_)
  skip
  refine r_alloc rfl (fun b2 => ?_)
  skip
  refine r_alloc rfl (fun b3 => ?_)
  refine r_ev rfl rfl ?_; refine r_nn ?_; refine r_seq ?_; refine r_sr ?_; refine r_fieldAddr rfl rfl ?_; refine r_loadB1 2 rfl rfl rfl rfl ?_; refine r_ev rfl rfl ?_; refine r_ev rfl rfl ?_; refine r_take rfl ?_; refine r_fieldAddr rfl rfl ?_; refine r_take rfl ?_; refine r_loadB1 2 rfl rfl rfl rfl ?_; refine r_tev rfl rfl rfl ?_; refine r_ev rfl rfl ?_; refine r_ev rfl rfl ?_; refine r_take rfl ?_; refine r_fieldAddr rfl rfl ?_; refine r_take rfl ?_; refine r_loadB1 2 rfl rfl rfl rfl ?_; refine r_take rfl ?_; refine r_len_sl rfl rfl ?_; refine r_tev rfl rfl rfl ?_; refine r_ev rfl rfl ?_; refine r_nn ?_; refine r_cond_true rfl ?_; refine r_seq ?_
  refine h_beginE [1, 0] mixed (fun hG => ?_)
  refine h_takeX 0 rfl (by kernel_rfl) rfl hG (by first | exact Ghost.le_refl _ | assumption) (by repeat' (first | exact List.nil_sublist _ | refine List.Sublist.cons_cons _ ?_ | refine List.Sublist.cons _ ?_)) ?_; refine ⟨_, (val_fieldAddr rfl), ?_⟩; refine h_takeX 1 rfl (by kernel_rfl) rfl hG (by first | exact Ghost.le_refl _ | assumption) (by repeat' (first | exact List.nil_sublist _ | refine List.Sublist.cons_cons _ ?_ | refine List.Sublist.cons _ ?_)) ?_; refine ⟨_, (val_loadB1 0 rfl rfl rfl), ?_⟩
  refine h_takeX 2 rfl (by kernel_rfl) rfl hG (by first | exact Ghost.le_refl _ | assumption) (by repeat' (first | exact List.nil_sublist _ | refine List.Sublist.cons_cons _ ?_ | refine List.Sublist.cons _ ?_)) ⟨_, (val_indexAddr (j := 0) rfl rfl rfl (by omega)), ?_⟩
  refine h_takeX 3 rfl (by kernel_rfl) rfl hG (by first | exact Ghost.le_refl _ | assumption) (by repeat' (first | exact List.nil_sublist _ | refine List.Sublist.cons_cons _ ?_ | refine List.Sublist.cons _ ?_)) ⟨_, (val_load rfl (r1 _) rfl), ?_⟩
  refine h_takeX 4 rfl (by kernel_rfl) rfl hG (by first | exact Ghost.le_refl _ | assumption) (by repeat' (first | exact List.nil_sublist _ | refine List.Sublist.cons_cons _ ?_ | refine List.Sublist.cons _ ?_)) ?_; refine ⟨_, (val_fieldAddr rfl), ?_⟩; refine h_takeX 5 rfl (by kernel_rfl) rfl hG (by first | exact Ghost.le_refl _ | assumption) (by repeat' (first | exact List.nil_sublist _ | refine List.Sublist.cons_cons _ ?_ | refine List.Sublist.cons _ ?_)) ?_; refine ⟨_, (val_loadB1 0 rfl rfl rfl), ?_⟩
  refine h_takeX 6 rfl (by kernel_rfl) rfl hG (by first | exact Ghost.le_refl _ | assumption) (by repeat' (first | exact List.nil_sublist _ | refine List.Sublist.cons_cons _ ?_ | refine List.Sublist.cons _ ?_)) ⟨_, (val_indexAddr (j := 1) rfl rfl rfl (by omega)), ?_⟩
  refine h_takeX 7 rfl (by kernel_rfl) rfl hG (by first | exact Ghost.le_refl _ | assumption) (by repeat' (first | exact List.nil_sublist _ | refine List.Sublist.cons_cons _ ?_ | refine List.Sublist.cons _ ?_)) ⟨_, (val_load rfl (r2 _) rfl), ?_⟩
  refine h_one 8 (by kernel_rfl) rfl ?_
  refine r_storeA 1 rfl rfl rfl rfl (by rfl) (by repeat' (first | exact rfl | assumption | refine all_cons ?_ ?_)) rfl ?_; refine r_nn ?_
  refine h_kept hG (by first | exact Ghost.le_refl _ | assumption) (by repeat' (first | exact List.nil_sublist _ | refine List.Sublist.cons_cons _ ?_ | refine List.Sublist.cons _ ?_)) ?_
  refine h_one 9 (by kernel_rfl) rfl ?_
  refine r_storeA 0 rfl rfl rfl rfl (by rfl) (by repeat' (first | exact rfl | assumption | refine all_cons ?_ ?_)) rfl ?_; refine r_nn ?_
  refine h_kept hG (by first | exact Ghost.le_refl _ | assumption) (by repeat' (first | exact List.nil_sublist _ | refine List.Sublist.cons_cons _ ?_ | refine List.Sublist.cons _ ?_)) ?_
  refine h_one 10 (by kernel_rfl) rfl ?_
  refine r_ev rfl rfl ?_; refine r_nn ?_
  refine h_kept hG (by first | exact Ghost.le_refl _ | assumption) (by repeat' (first | exact List.nil_sublist _ | refine List.Sublist.cons_cons _ ?_ | refine List.Sublist.cons _ ?_)) ?_
  refine h_done (by kernel_rfl) ?_
  refine r_then_normal ?_; refine r_retc ?_; refine r_then_ret ?_
  exact r_ret3 [] rfl (res_blk 1 rfl rfl (by rfl)) (res_blk 0 rfl rfl (by rfl)) (.tmp rfl) (by simp) ⟨rfl, rfl, rfl⟩
theorem IsArrow_any (g : Ghost) {t : Ty} {v : Value} (ht : GoodT t) (hv : TyV g v t) : ∃ va vb ta tb, TyV g va ta ∧ TyV g vb tb ∧ Pure Tryd.prog 33 [v] g (.tuple #[va, vb, .bool (isArrowT t)]) := by
  have no : isArrowT t = false → ∃ va vb ta tb, TyV g va ta ∧ TyV g vb tb ∧ Pure Tryd.prog 33 [v] g (.tuple #[va, vb, .bool (isArrowT t)]) := fun h => by
    rw [h]
    have hn : TyV g noA noT := TyV.of (t := noT) (slNil g 5) (tysNil g)
    exact ⟨noA, noA, noT, noT, hn, hn, IsArrow_no g h hv⟩
  cases ht with
  | name n h => exact no (isArrow_name n)
  | con n ta h ha => exact no (isArrow_con ta h)
  | arrow a b ha hb =>
    obtain ⟨va, vb, h1, h2, h3⟩ := IsArrow_yes g hv
    exact ⟨va, vb, a, b, h1, h2, h3⟩
theorem argument_of (g : Ghost) (t : Ty) (v : Value) (hl : (showT t).length ≤ 100000) (hv : TyV g v t) (hT : Pure Tryd.prog 13 [v] g (str (showT t))) : Pure Tryd.prog 34 [v] g (str (showArg t)) := by
  obtain ⟨sl, rfl, h1⟩ := hv
  obtain ⟨xs, hs1, ht1⟩ := h1.args
  obtain ⟨a, c, rfl⟩ := slForm2 hs1
  have no : parenT t = false → showArg t = showT t := fun h => by unfold showArg; rw [h]; rfl
  refine spec_of_run Tryd.func34 rfl Tryd.ntmps34 rfl fun E hE => ?_
  refine r_sr ?_
  refine r_box rfl rfl rfl (fun b1 => ?_)
  refine r_ev rfl rfl ?_; refine r_nn ?_; refine r_seq ?_; refine r_sr ?_; refine r_fieldAddr rfl rfl ?_; refine r_loadB1 0 rfl rfl rfl rfl ?_; refine r_ev rfl rfl ?_; refine r_ev rfl rfl ?_
  refine r_gdec rfl rfl (fun k1 => ?_) (fun k1 => ?_)
  · refine r_take rfl ?_; refine r_fieldAddr rfl rfl ?_; refine r_take rfl ?_; refine r_loadB1 0 rfl rfl rfl rfl ?_; refine r_take rfl ?_; refine r_len_sl rfl rfl ?_; refine r_tev rfl rfl rfl ?_; refine r_ev rfl rfl ?_; refine r_nn ?_
    refine r_cond rfl (fun k2 => ?_) (fun k2 => ?_)
    · have hp : parenT t = true := by simp [parenT, k1]; omega
      have he : showArg t = [40] ++ showT t ++ [41] := by unfold showArg; rw [if_pos hp]; rfl
      refine r_sr ?_; refine r_loadB 0 rfl rfl rfl (by rfl) ?_
      refine r_callP rfl rfl hT ?_
      refine r_add_str rfl rfl rfl (by simp; omega) ?_
      refine r_add_str rfl rfl rfl (by simp; omega) ?_
      refine r_ev rfl rfl ?_; refine r_nn ?_; refine r_retc ?_; refine r_then_ret ?_
      exact r_ret1 [] rfl rfl (by simp) ⟨by rw [he], rfl, rfl⟩
    · have he := no (by simp [parenT]; intro _; exact List.length_eq_zero_iff.1 (by omega))
      refine r_skip ?_; refine r_then_normal ?_; refine r_sr ?_; refine r_loadB 0 rfl rfl rfl (by rfl) ?_
      refine r_callP rfl rfl hT ?_
      refine r_ev rfl rfl ?_; refine r_nn ?_; refine r_retc ?_
      exact r_ret1 [] rfl rfl (by simp) ⟨by rw [he], rfl, rfl⟩
  · have he := no (by simp [parenT, k1])
    refine r_pass rfl rfl rfl ?_; refine r_pass rfl rfl rfl ?_; refine r_pass rfl rfl rfl ?_; refine r_pass rfl rfl rfl ?_; refine r_ev rfl rfl ?_; refine r_nn ?_; refine r_cond_false rfl ?_; refine r_skip ?_; refine r_then_normal ?_; refine r_sr ?_; refine r_loadB 0 rfl rfl rfl (by rfl) ?_
    refine r_callP rfl rfl hT ?_
    refine r_ev rfl rfl ?_; refine r_nn ?_; refine r_retc ?_
    exact r_ret1 [] rfl rfl (by simp) ⟨by rw [he], rfl, rfl⟩
theorem Type8_aux (g : Ghost) : ∀ (N : Nat) (t : Ty) (v : Value), SizeOf.sizeOf t < N → GoodT t → (showT t).length ≤ 100000 → TyV g v t → Pure Tryd.prog 13 [v] g (str (showT t))
  | 0, _, _, h, _, _, _ => by omega
  | N + 1, t, v, h, ht, hl, hv => by
    have ih := Type8_aux g N
    obtain ⟨sl, rfl, h1⟩ := hv
    obtain ⟨xs, hs1, ht1⟩ := h1.args
    cases ht with
    | name n hn =>
      rw [showT_name] at hl ⊢
      refine spec_of_run Tryd.func13 rfl Tryd.ntmps13 rfl fun E hE => ?_
      refine r_sr ?_
      refine r_box rfl rfl rfl (fun b1 => ?_)
      refine r_ev rfl rfl ?_; refine r_nn ?_; refine r_seq ?_; refine r_sr ?_; refine r_fieldAddr rfl rfl ?_; refine r_loadB1 0 rfl rfl rfl rfl ?_; refine r_nn ?_; refine r_block ?_; refine r_sr ?_; refine r_ev rfl rfl ?_; refine r_ev rfl rfl ?_; refine r_nn ?_; refine r_cond_false rfl ?_; refine r_sr ?_; refine r_ev rfl rfl ?_; refine r_ev rfl rfl ?_; refine r_nn ?_; refine r_cond_false rfl ?_; refine r_sr ?_; refine r_ev rfl rfl ?_; refine r_ev rfl rfl ?_; refine r_nn ?_; refine r_cond_false rfl ?_; refine r_sr ?_; refine r_ev rfl rfl ?_; refine r_ev rfl rfl ?_; refine r_nn ?_; refine r_cond_true rfl ?_; refine r_sr ?_; refine r_fieldAddr rfl rfl ?_; refine r_loadB1 0 rfl rfl rfl rfl ?_; refine r_ev rfl rfl ?_; refine r_nn ?_; refine r_retc ?_; refine r_in_ret ?_; refine r_then_ret ?_
      exact r_ret1 [] rfl rfl (by simp) ⟨rfl, rfl, rfl⟩
    | con n ta hn ha =>
      have hsh := showT_con ta (ne_arrow hn)
      rw [hsh, List.length_append] at hl
      rw [hsh]
      replace hs1 : SlAt g 5 sl ta.length xs := hs1
      replace ht1 : TysAt g ta xs := ht1
      obtain ⟨a, c, rfl⟩ := slForm2 hs1
      have hle := hs1.le
      refine spec_of_run Tryd.func13 rfl Tryd.ntmps13 rfl fun E hE => ?_
      refine r_sr ?_
      refine r_box rfl rfl rfl (fun b1 => ?_)
      refine r_ev rfl rfl ?_; refine r_nn ?_; refine r_seq ?_; refine r_sr ?_; refine r_fieldAddr rfl rfl ?_; refine r_loadB1 0 rfl rfl rfl rfl ?_; refine r_nn ?_; refine r_block ?_; refine r_sr ?_; refine r_ev rfl rfl ?_; refine r_ev rfl rfl ?_; refine r_nn ?_; refine r_cond_false rfl ?_; refine r_sr ?_; refine r_ev rfl rfl ?_; refine r_ev rfl rfl ?_; refine r_nn ?_; refine r_cond_false rfl ?_; refine r_sr ?_; refine r_ev rfl rfl ?_; refine r_ev rfl rfl ?_; refine r_nn ?_; refine r_cond_false rfl ?_; refine r_sr ?_; refine r_ev rfl rfl ?_; refine r_ev rfl rfl ?_; refine r_nn ?_; refine r_cond_false rfl ?_; refine r_skip ?_; refine r_in_normal ?_; refine r_then_normal ?_; refine r_seq ?_; refine r_sr ?_; refine r_loadB 0 rfl rfl rfl (by rfl) ?_
      refine r_callP rfl rfl (IsArrow_no g (isArrow_con ta hn) ⟨_, rfl, h1⟩) ?_
      refine r_ev rfl rfl ?_; refine r_ev rfl rfl ?_; refine r_ev rfl rfl ?_; refine r_ev rfl rfl ?_
      refine r_alloc rfl (fun b3 => ?_)
      skip
      refine r_alloc rfl (fun b4 => ?_)
      refine r_storeA 1 rfl rfl rfl rfl (by rfl) (by repeat' (first | exact rfl | assumption | refine all_cons ?_ ?_)) rfl ?_; refine r_storeA 0 rfl rfl rfl rfl (by rfl) (by repeat' (first | exact rfl | assumption | refine all_cons ?_ ?_)) rfl ?_; refine r_ev rfl rfl ?_; refine r_nn ?_; refine r_sr ?_; refine r_ev rfl rfl ?_; refine r_nn ?_; refine r_cond_false rfl ?_; refine r_skip ?_; refine r_then_normal ?_; refine r_sr ?_; refine r_fieldAddr rfl rfl ?_; refine r_loadB1 2 rfl rfl rfl rfl ?_; refine r_ev rfl rfl ?_; refine r_nn ?_; refine r_seq ?_; refine r_sr ?_; refine r_ev rfl rfl ?_; refine r_nn ?_; refine r_block ?_
      refine r_loop (ι := Nat) (fun i => [(1, ptr b1 0), (10, str (n ++ showArgs (ta.take i))), (11, .int .i64 i)]) (fun _ => g) (fun _ => [.blk b4 30 (tyCells noT (.slice none 0 0)), .blk b3 30 (tyCells noT (.slice none 0 0)), .blk b1 30 (tyCells (conT n ta) (.slice a ta.length c))]) (fun i => i ≤ ta.length) (fun i => ta.length - i) 0 (Nat.zero_le _) ⟨rfl, by simp [showArgs]; rfl, rfl, trivial⟩ rfl rfl ?_
      intro i hi
      refine r_seq ?_; refine r_sr ?_; refine r_ev rfl rfl ?_; refine r_fieldAddr rfl rfl ?_; refine r_loadB1 2 rfl rfl rfl rfl ?_; refine r_len_sl rfl rfl ?_; refine r_ev rfl rfl ?_; refine r_nn ?_
      refine r_cond rfl (fun hlt => ?_) (fun hlt => ?_)
      · have hlt' : i < ta.length := by omega
        obtain ⟨b, off, cap, hsl, hx⟩ := hs1.held hlt'
        cases hsl
        obtain ⟨sl', h2, hr⟩ := tys_rdA ht1 hx hlt'
        have hm := List.getElem_mem hlt'
        have hsz : SizeOf.sizeOf ta[i] < N := by
          have := List.sizeOf_lt_of_mem hm
          simp [conT] at h
          omega
        have hsu := showArgs_succ hlt'
        have hA := showArgs_take ta (i + 1)
        rw [hsu] at hA
        simp only [List.length_append, List.length_cons, List.length_nil] at hA
        have hge := showArg_ge ta[i]
        have hv2 : TyV g (.agg (tyCells ta[i] sl').toArray) ta[i] := ⟨sl', rfl, h2⟩
        refine r_skip ?_; refine r_then_normal ?_; refine r_seq ?_; refine r_block ?_; refine r_region ?_; refine r_ev rfl rfl ?_; refine r_fieldAddr rfl rfl ?_; refine r_loadB1 2 rfl rfl rfl rfl ?_; refine r_ev rfl rfl ?_; refine r_indexAddr rfl rfl rfl rfl (by omega) ?_
        refine r_load rfl rfl (hr _) rfl ?_
        refine r_callP rfl rfl (argument_of g ta[i] _ (by omega) hv2 (ih ta[i] _ hsz (ha _ hm) (by omega) hv2)) ?_
        refine r_add_str rfl rfl rfl (by simp; omega) ?_
        refine r_add_str rfl rfl rfl (by simp; omega) ?_
        refine r_ev rfl rfl ?_; refine r_nil ?_; refine r_in_normal ?_; refine r_then_normal ?_; refine r_region ?_; refine r_ev rfl rfl ?_; refine r_add rfl rfl rfl (by omega) ?_; refine r_ev rfl rfl ?_; refine r_nn ?_
        exact r_again (i + 1) (by omega) (by omega) ⟨rfl, by rw [hsu, ← List.append_assoc n]; rfl, rfl, trivial⟩ rfl rfl
      · have hil : i = ta.length := by omega
        subst hil
        refine r_exit ?_; refine r_then_exit ?_; refine r_then_exit ?_; refine r_in_exit ?_; refine r_then_normal ?_; refine r_sr ?_; refine r_ev rfl rfl ?_; refine r_ev rfl rfl ?_; refine r_nn ?_; refine r_retc ?_
        exact r_ret1 [] rfl rfl (by simp) ⟨by rw [List.take_length], rfl, rfl⟩
    | arrow a b ha hb =>
      have hsh := showT_arrow a b
      rw [hsh] at hl ⊢
      simp only [List.length_append, List.length_cons, List.length_nil] at hl
      have hge := showFrom_ge a
      obtain ⟨va, vb, hva, hvb, hP⟩ := IsArrow_yes g (v := .agg (tyCells (arrowT a b) sl).toArray) ⟨sl, rfl, h1⟩
      have hsa : SizeOf.sizeOf a < N := by simp [arrowT, conT] at h; omega
      have hsb : SizeOf.sizeOf b < N := by simp [arrowT, conT] at h; omega
      have iha := ih a va hsa ha (by omega) hva
      have ihb := ih b vb hsb hb (by omega) hvb
      obtain ⟨wa, wb, ua, ub, hwa, hwb, hQ⟩ := IsArrow_any g ha hva
      obtain ⟨x1, m1, c1, rfl, _⟩ := hva.cells5
      obtain ⟨x2, m2, c2, rfl, _⟩ := hvb.cells5
      obtain ⟨x3, m3, c3, rfl, _⟩ := hwa.cells5
      obtain ⟨x4, m4, c4, rfl, _⟩ := hwb.cells5
      obtain ⟨_, hs0, _⟩ := h1.args
      obtain ⟨y1, y2, rfl⟩ := slForm2 hs0
      have hno : isArrowT a = false → showFrom a = showT a := fun h => by unfold showFrom; rw [h]; rfl
      have hyes : isArrowT a = true → showFrom a = [40] ++ showT a ++ [41] := fun h => by unfold showFrom; rw [if_pos h]; rfl
      refine spec_of_run Tryd.func13 rfl Tryd.ntmps13 rfl fun E hE => ?_
      refine r_sr ?_
      refine r_box rfl rfl rfl (fun b1 => ?_)
      refine r_ev rfl rfl ?_; refine r_nn ?_; refine r_seq ?_; refine r_sr ?_; refine r_fieldAddr rfl rfl ?_; refine r_loadB1 0 rfl rfl rfl rfl ?_; refine r_nn ?_; refine r_block ?_; refine r_sr ?_; refine r_ev rfl rfl ?_; refine r_ev rfl rfl ?_; refine r_nn ?_; refine r_cond_false rfl ?_; refine r_sr ?_; refine r_ev rfl rfl ?_; refine r_ev rfl rfl ?_; refine r_nn ?_; refine r_cond_false rfl ?_; refine r_sr ?_; refine r_ev rfl rfl ?_; refine r_ev rfl rfl ?_; refine r_nn ?_; refine r_cond_false rfl ?_; refine r_sr ?_; refine r_ev rfl rfl ?_; refine r_ev rfl rfl ?_; refine r_nn ?_; refine r_cond_false rfl ?_; refine r_skip ?_; refine r_in_normal ?_; refine r_then_normal ?_; refine r_seq ?_; refine r_sr ?_; refine r_loadB 0 rfl rfl rfl (by rfl) ?_
      refine r_callP rfl rfl hP ?_
      refine r_ev rfl rfl ?_; refine r_ev rfl rfl ?_; refine r_ev rfl rfl ?_; refine r_ev rfl rfl ?_
      refine r_alloc rfl (fun b3 => ?_)
      skip
      refine r_alloc rfl (fun b4 => ?_)
      refine r_storeA 1 rfl rfl rfl rfl (by rfl) (by repeat' (first | exact rfl | assumption | refine all_cons ?_ ?_)) rfl ?_; refine r_storeA 0 rfl rfl rfl rfl (by rfl) (by repeat' (first | exact rfl | assumption | refine all_cons ?_ ?_)) rfl ?_; refine r_ev rfl rfl ?_; refine r_nn ?_; refine r_sr ?_; refine r_ev rfl rfl ?_; refine r_nn ?_; refine r_cond_true rfl ?_; refine r_sr ?_; refine r_loadB 1 rfl rfl rfl (by rfl) ?_
      refine r_callP rfl rfl iha ?_
      refine r_ev rfl rfl ?_; refine r_nn ?_; refine r_seq ?_; refine r_sr ?_; refine r_loadB 1 rfl rfl rfl (by rfl) ?_
      refine r_callP rfl rfl hQ ?_
      refine r_ev rfl rfl ?_; refine r_ev rfl rfl ?_; refine r_ev rfl rfl ?_; refine r_ev rfl rfl ?_
      refine r_alloc rfl (fun b7 => ?_)
      skip
      refine r_alloc rfl (fun b8 => ?_)
      refine r_storeA 1 rfl rfl rfl rfl (by rfl) (by repeat' (first | exact rfl | assumption | refine all_cons ?_ ?_)) rfl ?_; refine r_storeA 0 rfl rfl rfl rfl (by rfl) (by repeat' (first | exact rfl | assumption | refine all_cons ?_ ?_)) rfl ?_; refine r_ev rfl rfl ?_; refine r_nn ?_; refine r_sr ?_; refine r_ev rfl rfl ?_; refine r_nn ?_
      cases hia : isArrowT a with
      | true =>
        have he := hyes hia
        have hel := congrArg List.length he
        simp only [List.length_append, List.length_cons, List.length_nil] at hel
        refine r_cond_true rfl ?_; refine r_region ?_; refine r_ev rfl rfl ?_
        refine r_add_str rfl rfl rfl (by simp; omega) ?_
        refine r_add_str rfl rfl rfl (by simp; omega) ?_
        refine r_ev rfl rfl ?_; refine r_nn ?_; refine r_sr ?_; refine r_ev rfl rfl ?_
        refine r_add_str rfl rfl rfl (by simp; omega) ?_
        refine r_loadB 2 rfl rfl rfl (by rfl) ?_
        refine r_callP rfl rfl ihb ?_
        refine r_add_str rfl rfl rfl (by simp; omega) ?_
        refine r_ev rfl rfl ?_; refine r_nn ?_; refine r_retc ?_; refine r_then_ret ?_
        exact r_ret1 [] rfl rfl (by simp) ⟨by rw [he, ← List.append_assoc], rfl, rfl⟩
      | false =>
        have he := hno hia
        rw [he] at hl
        refine r_cond_false rfl ?_; refine r_skip ?_; refine r_then_normal ?_; refine r_sr ?_; refine r_ev rfl rfl ?_
        refine r_add_str rfl rfl rfl (by simp; omega) ?_
        refine r_loadB 2 rfl rfl rfl (by rfl) ?_
        refine r_callP rfl rfl ihb ?_
        refine r_add_str rfl rfl rfl (by simp; omega) ?_
        refine r_ev rfl rfl ?_; refine r_nn ?_; refine r_retc ?_; refine r_then_ret ?_
        exact r_ret1 [] rfl rfl (by simp) ⟨by rw [he, ← List.append_assoc], rfl, rfl⟩
theorem Type8_spec (g : Ghost) (t : Ty) (v : Value) (ht : GoodT t) (hl : (showT t).length ≤ 100000) (hv : TyV g v t) : Pure Tryd.prog 13 [v] g (str (showT t)) := Type8_aux g _ t v (Nat.lt_succ_self _) ht hl hv
theorem Named_spec (g : Ghost) : SpecN Tryd.prog 11 [] g fun v g' => ∃ xl, SlAt g' 5 v 3 xl ∧ TysAt g' abc xl := by
  refine spec_of_run Tryd.func11 rfl Tryd.ntmps11 rfl fun E hE => ?_
  refine r_sr ?_; refine r_ev rfl rfl ?_; refine r_nn ?_; refine r_sr ?_
  refine r_callP rfl rfl (rNamed_spec g [97]) ?_
  refine r_callP rfl rfl (rNamed_spec g [98]) ?_
  refine r_callP rfl rfl (rNamed_spec g [99]) ?_
  refine r_buildSlice rfl rfl (by rfl) (by rfl) (by rfl) (by rfl) (by rfl) (fun b4 => ?_)
  refine r_ev rfl rfl ?_; refine r_nn ?_; refine r_retc ?_
  refine r_publishRow (fun g5 hle5 hs5 => ?_)
  exact r_ret1 [] rfl rfl (by simp) ⟨⟨_, hs5, ⟨_, _, rfl, TyAt.mk (t := nameT [97]) (slNil g5 5) (tysNil g5), ⟨_, _, rfl, TyAt.mk (t := nameT [98]) (slNil g5 5) (tysNil g5), ⟨_, _, rfl, TyAt.mk (t := nameT [99]) (slNil g5 5) (tysNil g5), rfl⟩⟩⟩⟩, rfl⟩
theorem Few_spec (g : Ghost) (v : Value) (l : List Int) (hs : SlAt g 1 v l.length (l.map (Value.int .i64))) : Pure Tryd.prog 8 [v] g (.bool (decide ((l.length : Int) ≤ 60))) := by
  obtain ⟨a, c, rfl⟩ := slForm2 hs
  refine spec_of_run Tryd.func8 rfl Tryd.ntmps8 rfl fun E hE => ?_
  refine r_sr ?_; refine r_ev rfl rfl ?_; refine r_nn ?_; refine r_sr ?_; refine r_ev rfl rfl ?_; refine r_len_sl rfl rfl ?_; refine r_ev rfl rfl ?_; refine r_ev rfl rfl ?_; refine r_nn ?_; refine r_retc ?_
  exact r_ret1 [] rfl rfl (by simp) ⟨rfl, rfl, rfl⟩
end Go.Proofs.YtblbbjhbigpgnaaDoor
-- sum 607eb0927b4e6a1f
/- The canonical text of a type is read as this type, in parentheses too. -/
namespace Go.Proofs.YtblbbjhbigpgnaaDoor
open Go Go.Eng Go.Th Go.Proofs
theorem kt_scan {s : Bytes} {ws : List Bytes} (h : Scans s ws) (hl : s.length ≤ 4000) : kt (toksOf s) = kts ws := by
  have h1 := h 0 [] [] apart_nil (fun j => ⟨[], rfl, rfl⟩)
  rw [List.append_nil, List.append_nil] at h1
  obtain ⟨l, e1, e2⟩ := scan_okKt hl h1
  rw [toksOf, e1]
  exact e2
theorem ktl_len (l : List Tok) : List.length (kt l) = l.length := by simp [kt]
theorem ktAt_zero {l : List Tok} {ws : List (Int × Bytes)} (h : kt l = ws) : KtAt l 0 ws := by
  unfold KtAt
  rw [List.drop_zero, h]
theorem stopT_nil : StopT [] := ⟨(fun _ _ _ e => by cases e), (fun _ _ _ e => by cases e)⟩
theorem stopT_semi (ws : List (Int × Bytes)) : StopT ((5, [59]) :: ws) := ⟨(fun k w r e => by cases e; decide), (fun k w r e => by cases e; decide)⟩
theorem idx_zero (n : Nat) : idxOf n 0 = 0 := by unfold idxOf; split <;> omega
theorem show_reads {t : Ty} (h : GoodT t) (hl : (showT t).length ≤ 4000) {l r : List Tok} (he : l = toksOf (showT t) ++ r) (hr : StopT (kt r)) : tread l .whole (idxOf l.length 0) = .ok (t, (toksOf (showT t)).length) := by
  have h1 := kt_scan (scans_T h) hl
  have h2 : kt l = kts (toksT t) ++ kt r := by
    rw [he, ← h1]
    simp [kt]
  have h3 := (reads_T h l 0 (kt r)).1 hr (ktAt_zero h2)
  have h4 := congrArg List.length h1
  rw [ktl_len, kts_len] at h4
  rw [idx_zero, h3, h4, Nat.zero_add]
/-- A text in parentheses. -/
def parS : Nat → Bytes → Bytes
  | 0, s => s
  | k + 1, s => [40] ++ parS k s ++ [41]
def parW : Nat → List Bytes → List Bytes
  | 0, s => s
  | k + 1, s => [40] :: (parW k s ++ [[41]])
theorem parS_len (k : Nat) (s : Bytes) : (parS k s).length = s.length + 2 * k := by
  induction k with
  | zero => rfl
  | succ k ih => simp only [parS, List.length_append, List.length_cons, List.length_nil, ih]; omega
theorem scans_par {s : Bytes} {ws : List Bytes} (h : Scans s ws) : ∀ k, Scans (parS k s) (parW k ws)
  | 0 => h
  | k + 1 => Scans.paren (scans_par h k)
theorem applied_paren {l : List Tok} {i : Nat} {ws : List (Int × Bytes)} (h : KtAt l i ((5, [40]) :: ws)) : tread l .applied i = tread l .atom i := by
  obtain ⟨x, h1, h2, _, _⟩ := ktAt_cons h
  rw [tread_applied, h1]
  simp only
  rw [if_neg (by rw [h2]; decide)]
theorem ktAt_paren {l : List Tok} {i : Nat} {W : List Bytes} {ws : List (Int × Bytes)} (h : KtAt l i (kts ([40] :: (W ++ [[41]])) ++ ws)) : KtAt l i ((5, [40]) :: (kts W ++ (5, [41]) :: ws)) := by
  rw [ktsP] at h
  exact h
theorem par_whole {t : Ty} (h : GoodT t) (l : List Tok) : ∀ (k i : Nat) (ws : List (Int × Bytes)), KtAt l i (kts (parW k (toksT t)) ++ (5, [41]) :: ws) → tread l .whole i = .ok (t, i + (parW k (toksT t)).length)
  | 0, i, ws, hk => (reads_T h l i _).1 (stopT_close ws) hk
  | k + 1, i, ws, hk => by
    have h1 := ktAt_paren hk
    have h2 := atom_paren (t := t) (kts_len _) h1 (fun h3 => par_whole h l k (i + 1) _ h3)
    rw [← applied_paren h1] at h2
    have h4 := ktAt_app hk
    rw [kts_len] at h4
    have hn : (parW (k + 1) (toksT t)).length = (parW k (toksT t)).length + 2 := by simp only [parW, List.length_cons, List.length_append, List.length_nil]
    rw [hn] at h4 ⊢
    exact whole_applied h2 h4 (stopT_close ws)
theorem par_atom {t : Ty} (h : GoodT t) (k : Nat) (hl : (parS (k + 1) (showT t)).length ≤ 4000) : tread (toksOf (parS (k + 1) (showT t))) .atom (idxOf (toksOf (parS (k + 1) (showT t))).length 0) = .ok (t, (toksOf (parS (k + 1) (showT t))).length) := by
  have h1 := kt_scan (scans_par (scans_T h) (k + 1)) hl
  have h4 := congrArg List.length h1
  rw [ktl_len, kts_len] at h4
  rw [h4, idx_zero]
  generalize toksOf (parS (k + 1) (showT t)) = l at h1
  have h0 : KtAt l 0 (kts ([40] :: (parW k (toksT t) ++ [[41]])) ++ []) := by rw [List.append_nil]; exact ktAt_zero h1
  have h2 := atom_paren (t := t) (kts_len _) (ktAt_paren h0) (fun h3 => par_whole h l k (0 + 1) _ h3)
  rw [h2]
  simp only [parW, List.length_cons, List.length_append, List.length_nil]
  congr 2
  omega
end Go.Proofs.YtblbbjhbigpgnaaDoor
-- sum 49bd6b92d173152f

/- The walks of package readexpr: strconv.Atoi at digits; atom. -/
import Derived.Test.YtpjehhnaojjanaaGreatDoorK10
import Derived.Test.YtpjehhnaojjanaaGreatDoorShelf
import Derived.Test.YtpjehhnaojjanaaGreatDoorK6
namespace Go.Th
def TQ.moves : TQ → Bool
 | .args _ _ => false
 | _ => true
theorem tread_bnd (l : List Tok) : ∀ (N : Nat) (q : TQ) (i : Nat) (x : Ty × Nat), tmu l q i < N → i ≤ l.length → tread l q i = .ok x → x.2 ≤ l.length ∧ (q.moves = true → i < x.2)
 | 0, _, _, _, h, _, _ => by omega
 | N + 1, q, i, x, hN, hi, h => by
  have ih := tread_bnd l N
  cases q with
  | atom =>
   rw [tread_atom] at h
   split at h
   ·cases h
   ·rename_i t ht
    have hi := (List.getElem?_eq_some_iff.1 ht).1
    split at h
    ·cases h; exact ⟨hi, fun _ => Nat.lt_succ_self _⟩
    ·split at h
     ·cases h; exact ⟨hi, fun _ => Nat.lt_succ_self _⟩
     ·split at h
      ·split at h
       ·cases h
       ·rename_i y j h1
        have i1 := ih .whole (i + 1) (y, j) (by simp only [tmu, TQ.rank] at *; omega) hi h1
        have i2 := i1.2 rfl
        simp only at i2
        split at h
        ·rename_i hm
         have := tokAt_lt hm
         cases h; exact ⟨this, fun _ => by simp only; omega⟩
        ·cases h
      ·cases h
  | args n acc =>
   rw [tread_args] at h
   split at h
   ·rename_i hs
    have hi := startsAt_lt hs
    split at h
    ·cases h
    ·rename_i y j h1
     have i0 := ih .atom i (y, j) (by simp only [tmu, TQ.rank] at *; omega) (by omega) h1
     split at h
     ·rename_i hij
      have i1 := ih _ j x (by simp only [tmu, TQ.rank] at *; omega) i0.1 h
      exact ⟨i1.1, fun h => by cases h⟩
     ·cases h
   ·cases h; exact ⟨hi, fun h => by cases h⟩
  | applied =>
   rw [tread_applied] at h
   split at h
   ·rename_i t ht
    have hi := (List.getElem?_eq_some_iff.1 ht).1
    split at h
    ·have i1 := ih _ (i + 1) x (by simp only [tmu, TQ.rank] at *; omega) hi h
     have i2 := tread_prog l _ _ _ _ (Nat.lt_succ_self _) h
     exact ⟨i1.1, fun _ => by omega⟩
    ·have i1 := ih .atom i x (by simp only [tmu, TQ.rank] at *; omega) (by omega) h
     exact ⟨i1.1, fun _ => i1.2 rfl⟩
   ·have i1 := ih .atom i x (by simp only [tmu, TQ.rank] at *; omega) (by omega) h
    exact ⟨i1.1, fun _ => i1.2 rfl⟩
  | whole =>
   rw [tread_whole] at h
   split at h
   ·cases h
   ·rename_i a j h1
    have i1 := ih .applied i (a, j) (by simp only [tmu, TQ.rank] at *; omega) hi h1
    have i1' := i1.2 rfl
    simp only at i1'
    split at h
    ·rename_i hm
     have hj := tokAt_lt hm
     split at h
     ·split at h
      ·cases h
      ·rename_i b k h2
       have i2 := ih .whole (j + 1) (b, k) (by simp only [tmu, TQ.rank] at *; omega) hj h2
       have i2' := i2.2 rfl
       simp only at i2'
       cases h
       exact ⟨i2.1, fun _ => by simp only; omega⟩
     ·cases h
    ·cases h; exact ⟨i1.1, fun _ => i1'⟩
end Go.Th
namespace Go.Proofs.YtpjehhnaojjanaaGreatDoor
open Go Go.Eng Go.Th Go.Proofs
set_option maxRecDepth 10000
set_option maxHeartbeats 4000000
attribute [local irreducible] wpList Code.wp Run bodyPost Go.Eng.Ends Exit.then Exit.inBlock Again Wq Kq
theorem decFrom_num : ∀ (s : Bytes) (acc : Nat), (∀ c ∈ s, digit c = true) → ∃ n : Nat, Lib.decFrom acc s = some n ∧ (n : Int) = s.foldl (fun n c => 10 * n + (c.toNat - 48 : Int)) (acc : Int)
 | [], acc, _ => ⟨acc, rfl, rfl⟩
 | c :: r, acc, h => by
  have hc := h c (List.mem_cons_self ..)
  simp only [digit, Bool.and_eq_true, decide_eq_true_eq] at hc
  have hd : Lib.digitVal c = some (c.toNat - 48) := by
   unfold Lib.digitVal
   rw [if_pos hc]
  obtain ⟨n, h1, h2⟩ := decFrom_num r (acc * 10 + (c.toNat - 48)) (fun x hx => h x (List.mem_cons_of_mem _ hx))
  refine ⟨n, by unfold Lib.decFrom; rw [hd]; exact h1, ?_⟩
  rw [h2, List.foldl_cons]
  congr 1
  omega
theorem atoi_num {s : Bytes} (h : kindOf s = 3) : Lib.atoi s = some (numOf s) ∧ s.length ≤ 9 := by
 have h3 := kind3 h
 refine ⟨?_, h3.1⟩
 cases s with
 | nil => exact absurd h (by decide)
 | cons c r =>
  obtain ⟨n, h1, h2⟩ := decFrom_num (c :: r) 0 h3.2
  have hc := h3.2 c (List.mem_cons_self ..)
  simp only [digit, Bool.and_eq_true, decide_eq_true_eq] at hc
  unfold Lib.atoi
  have e1 : (c == 45) = false := by
   rw [beq_eq_false_iff_ne]
   rintro rfl
   exact absurd hc.1 (by decide)
  have e2 : (c == 43) = false := by
   rw [beq_eq_false_iff_ne]
   rintro rfl
   exact absurd hc.1 (by decide)
  simp only [e1, e2, Bool.false_eq_true, if_false]
  unfold Lib.decNat
  simp only [List.isEmpty_cons, Bool.false_eq_true, if_false, h1, Option.map_some]
  rw [h2]
  rfl
theorem Atoi_num (g : Ghost) {s : Bytes} (h : kindOf s = 3) : Pure Tryz.prog 213 [str s] g (.tuple #[.int .i64 (numOf s), .nilIface]) := by
 obtain ⟨h1, h2⟩ := atoi_num h
 refine pure_of_below fun w hH => (Tryz.strconv_Atoi ⟨⟨s⟩⟩ (numOf s) (by show s.length ≤ _; omega) h1 w).mono fun e w' hh => ?_
 obtain ⟨he, t, rfl⟩ := hh
 exact ⟨he, Lib.bytesWorld_below _ _ _⟩
theorem idx_nat {n k : Nat} (h : k ≤ n) : idxOf n (k : Int) = k := by
 unfold idxOf
 rw [if_neg (by omega)]
 omega
theorem ansP_ok {t : Ty} {j : Nat} {v : Value} {g' : Ghost} (h : ansPost (.ok (t, j)) v g') : ∃ tv, v = .tuple #[tv, .int .i64 j, .agg #[.int .i64 0, .int .i64 0]] ∧ TyV g' tv t := h
theorem errV_unexp : ErrV unexpV := ⟨_, _, rfl, .inr ⟨rfl, rfl⟩⟩
section
variable {l : List Tok} (hb : TB l) (hkw : KW l) (m : Nat) (lv : Value) (b : Nat)
 (hX : ∀ g i, ErrT g → ToksAt g lv l → i ≤ l.length → l.length - i < m → SpecL Tryz.prog 118 [ptr b 0] g (rdE b lv i 0) (postE l i b lv (eread l .expr i)))
include hb hkw hX
theorem eatom_step (g : Ghost) (i : Nat) (hg : ErrT g) (hs : ToksAt g lv l) (hi : i ≤ l.length) (hm : l.length - i < m + 1) :
  SpecL Tryz.prog 191 [ptr b 0] g (rdE b lv i 0) (postE l i b lv (eread l .atom i)) := by
 have hb1 := hb.1
 have hr := eread_step l .atom i
 simp only [estep] at hr
 obtain ⟨la, lc, rfl⟩ := slForm2 hs
 refine spec_of_run Tryz.func191 rfl Tryz.ntmps191 rfl fun E hE => ?_
 refine r_sr ?_
 refine r_alloc rfl (fun b2 => ?_)
 refine r_ev rfl rfl <| r_nn <| r_seq <| r_seq ?_
 refine h_beginE [] mixed (fun hG => ?_)
 refine h_takeXA 0 rfl (by kernel_rfl) rfl hG ?_; refine ⟨_, (val_ev rfl), ?_⟩; refine h_takeXA 1 rfl (by kernel_rfl) rfl hG ?_; refine ⟨_, (val_ev rfl), ?_⟩; refine h_takeXA 2 rfl (by kernel_rfl) rfl hG ?_; refine ⟨_, (val_fieldAddr rfl), ?_⟩; refine h_takeXA 3 rfl (by kernel_rfl) rfl hG ?_; refine ⟨_, (val_loadB1 1 rfl rfl rfl), ?_⟩; refine h_takeXA 4 rfl (by kernel_rfl) rfl hG ?_; refine ⟨_, (val_ev rfl), ?_⟩; refine h_takeXA 5 rfl (by kernel_rfl) rfl hG ?_; refine ⟨_, (val_ev rfl), ?_⟩; refine h_takeXA 6 rfl (by kernel_rfl) rfl hG ?_; refine ⟨_, (val_fieldAddr rfl), ?_⟩; refine h_takeXA 7 rfl (by kernel_rfl) rfl hG ?_; refine ⟨_, (val_loadB1 1 rfl rfl rfl), ?_⟩; refine h_takeXA 8 rfl (by kernel_rfl) rfl hG ?_; refine ⟨_, (val_len_sl rfl), ?_⟩; refine h_takeXA 9 rfl (by kernel_rfl) rfl hG ?_; refine ⟨_, (val_ev rfl), ?_⟩; refine h_takeXA 10 rfl (by kernel_rfl) rfl hG ?_; refine ⟨_, (val_ev rfl), ?_⟩
 refine r_dec 21 rfl (fun hlt => ?_) (fun hlt => ?_)
 ·rw [List.getElem?_eq_none (by omega)] at hr
  refine h_passA 11 rfl rfl rfl (by kernel_rfl) rfl hG ?_; refine h_passA 12 rfl rfl rfl (by kernel_rfl) rfl hG ?_; refine h_passA 13 rfl rfl rfl (by kernel_rfl) rfl hG ?_; refine h_passA 14 rfl rfl rfl (by kernel_rfl) rfl hG ?_; refine h_passA 15 rfl rfl rfl (by kernel_rfl) rfl hG ?_; refine h_passA 16 rfl rfl rfl (by kernel_rfl) rfl hG ?_; refine h_passA 17 rfl rfl rfl (by kernel_rfl) rfl hG ?_; refine h_passA 18 rfl rfl rfl (by kernel_rfl) rfl hG ?_; refine h_passA 19 rfl rfl rfl (by kernel_rfl) rfl hG ?_; refine h_passA 20 rfl rfl rfl (by kernel_rfl) rfl hG ?_; refine h_passA 21 rfl rfl rfl (by kernel_rfl) rfl hG ?_; refine h_passA 22 rfl rfl rfl (by kernel_rfl) rfl hG ?_; refine h_takeXA 23 rfl (by kernel_rfl) rfl hG ?_; refine ⟨_, (val_ev rfl), ?_⟩
  refine h_done (by kernel_rfl) ?_
  refine r_then_normal <| r_cond_true rfl <| r_sr <| r_build rfl rfl (by rfl) ?_; refine r_ev rfl rfl ?_
  refine r_callL 1 rfl rfl rfl (efail_spec g l hb _ hs b i _) ?_
  rintro v g1 r' ⟨rfl, rfl, rfl⟩ _
  refine r_storeA 0 rfl rfl rfl rfl (by rfl) (by repeat' (first | exact rfl | assumption | refine all_cons ?_ ?_)) rfl ?_; refine r_ev rfl rfl <| r_nn <| r_retc <| r_then_ret ?_
  refine r_ret2 [_] rfl (res_blk 0 rfl rfl (by rfl)) (.tmp rfl) (.cons _ (List.Sublist.refl _)) ⟨_, rfl, ?_⟩
  rw [hr]
  exact ⟨_, _, _, rfl, noE_V g1, errV_miss _, i, hi, rfl⟩
 have hlt' : i < l.length := by omega
 obtain ⟨b0, off, cap, hsl, hxx⟩ := hs.held hlt'
 cases hsl
 rw [toks_some hlt'] at hr
 simp only at hr
 refine h_takeGXA 11 rfl rfl (by kernel_rfl) rfl hG ?_; refine ⟨_, (val_ev rfl), ?_⟩; refine h_takeGXA 12 rfl rfl (by kernel_rfl) rfl hG ?_; refine ⟨_, (val_ev rfl), ?_⟩; refine h_takeGXA 13 rfl rfl (by kernel_rfl) rfl hG ?_; refine ⟨_, (val_fieldAddr rfl), ?_⟩; refine h_takeGXA 14 rfl rfl (by kernel_rfl) rfl hG ?_; refine ⟨_, (val_loadB1 1 rfl rfl rfl), ?_⟩; refine h_takeGXA 15 rfl rfl (by kernel_rfl) rfl hG ?_; refine ⟨_, (val_ev rfl), ?_⟩; refine h_takeGXA 16 rfl rfl (by kernel_rfl) rfl hG ?_; refine ⟨_, (val_ev rfl), ?_⟩; refine h_takeGXA 17 rfl rfl (by kernel_rfl) rfl hG ?_; refine ⟨_, (val_fieldAddr rfl), ?_⟩; refine h_takeGXA 18 rfl rfl (by kernel_rfl) rfl hG ?_; refine ⟨_, (val_loadB1 1 rfl rfl rfl), ?_⟩
 refine h_takeGXA 19 rfl rfl (by kernel_rfl) rfl hG ⟨_, (val_indexAddr (j := i) rfl rfl rfl hlt'), ?_⟩
 refine h_takeGXA 20 rfl rfl (by kernel_rfl) rfl hG ⟨_, (val_load rfl (toks_rd hxx hlt') rfl), ?_⟩
 refine h_one 21 (by kernel_rfl) rfl ?_
 refine r_take rfl ?_
 refine r_callP rfl rfl (estarts_spec g l[i]) ?_
 refine r_nn ?_
 refine h_keptA hG ?_
 refine h_takeGXA 22 rfl rfl (by kernel_rfl) rfl hG ?_; refine ⟨_, (val_ev rfl), ?_⟩; refine h_takeXA 23 rfl (by kernel_rfl) rfl hG ?_; refine ⟨_, (val_ev rfl), ?_⟩
 refine h_done (by kernel_rfl) ?_
 cases hst : startsE l[i] with
 | false =>
  have hr' : eread l .atom i = .error (failPos l i) := by
   rw [hr]
   simp only [startsE, Bool.or_eq_false_iff, Bool.and_eq_false_iff, decide_eq_false_iff_not] at hst
   obtain ⟨⟨⟨k1, k2⟩, k3⟩, k4⟩ := hst
   rw [if_neg k1, if_neg k2, if_neg k3, if_neg (fun h => k4.elim (fun k => k h.1) (fun k => k.1.1 h.2)), if_neg (fun h => k4.elim (fun k => k h.1) (fun k => k.2 h.2)), if_neg (fun h => k4.elim (fun k => k h.1) (fun k => k.1.2 h.2))]
  refine r_then_normal <| r_cond_true rfl <| r_sr <| r_build rfl rfl (by rfl) ?_; refine r_ev rfl rfl ?_
  refine r_callL 1 rfl rfl rfl (efail_spec g l hb _ hs b i _) ?_
  rintro v g1 r' ⟨rfl, rfl, rfl⟩ _
  refine r_storeA 0 rfl rfl rfl rfl (by rfl) (by repeat' (first | exact rfl | assumption | refine all_cons ?_ ?_)) rfl ?_; refine r_ev rfl rfl <| r_nn <| r_retc <| r_then_ret ?_
  refine r_ret2 [_] rfl (res_blk 0 rfl rfl (by rfl)) (.tmp rfl) (.cons _ (List.Sublist.refl _)) ⟨_, rfl, ?_⟩
  rw [hr']
  exact ⟨_, _, _, rfl, noE_V g1, errV_miss _, i, hi, rfl⟩
 | true =>
 refine r_then_normal <| r_cond_false rfl <| r_skip <| r_then_normal <| r_seq ?_
 refine h_beginE [] mixed (fun hG => ?_)
 refine h_takeXA 0 rfl (by kernel_rfl) rfl hG ?_; refine ⟨_, (val_ev rfl), ?_⟩; refine h_takeXA 1 rfl (by kernel_rfl) rfl hG ?_; refine ⟨_, (val_ev rfl), ?_⟩; refine h_takeXA 2 rfl (by kernel_rfl) rfl hG ?_; refine ⟨_, (val_fieldAddr rfl), ?_⟩; refine h_takeXA 3 rfl (by kernel_rfl) rfl hG ?_; refine ⟨_, (val_loadB1 1 rfl rfl rfl), ?_⟩; refine h_takeXA 4 rfl (by kernel_rfl) rfl hG ?_; refine ⟨_, (val_ev rfl), ?_⟩; refine h_takeXA 5 rfl (by kernel_rfl) rfl hG ?_; refine ⟨_, (val_ev rfl), ?_⟩; refine h_takeXA 6 rfl (by kernel_rfl) rfl hG ?_; refine ⟨_, (val_fieldAddr rfl), ?_⟩; refine h_takeXA 7 rfl (by kernel_rfl) rfl hG ?_; refine ⟨_, (val_loadB1 1 rfl rfl rfl), ?_⟩
 refine h_takeXA 8 rfl (by kernel_rfl) rfl hG ⟨_, (val_indexAddr (j := i) rfl rfl rfl hlt'), ?_⟩
 refine h_takeXA 9 rfl (by kernel_rfl) rfl hG ⟨_, (val_load rfl (toks_rd hxx hlt') rfl), ?_⟩
 refine h_one 10 (by kernel_rfl) rfl ?_
 refine r_alloc rfl (fun b4 => ?_)
 refine r_nn ?_
 refine h_keptA hG ?_
 refine h_one 11 (by kernel_rfl) rfl ?_
 refine r_storeA 0 rfl rfl rfl rfl (by rfl) (by repeat' (first | exact rfl | assumption | refine all_cons ?_ ?_)) rfl ?_; refine r_nn ?_
 refine h_keptA hG ?_
 refine h_done (by kernel_rfl) ?_
 refine r_then_normal <| r_sr <| r_ev rfl rfl <| r_ev rfl rfl <| r_fieldAddr rfl rfl <| r_loadB1 2 rfl rfl rfl rfl <| r_add rfl rfl rfl (by omega) ?_; refine r_ev rfl rfl <| r_fieldAddr rfl rfl <| r_store1 2 rfl rfl rfl rfl rfl rfl <| r_nn <| r_sr <| r_fieldAddr rfl rfl <| r_loadB1 0 rfl rfl rfl rfl <| r_build rfl rfl (by rfl) ?_
 refine r_alloc rfl (fun b5 => ?_)
 refine r_storeA 0 rfl rfl rfl rfl (by rfl) (by repeat' (first | exact rfl | assumption | refine all_cons ?_ ?_)) rfl ?_; refine r_nn <| r_seq <| r_block <| r_sr <| r_fieldAddr rfl rfl <| r_loadB1 1 rfl rfl rfl rfl <| r_ev rfl rfl <| r_ev rfl rfl <| r_nn ?_
 -- STOPA
 have hpos : l[i].pos = posOf l i := by unfold posOf; rw [toks_some hlt']
 refine r_cond rfl (fun h1 => ?_) (fun h1 => ?_)
 ·rw [if_pos h1] at hr
  refine r_seq ?_
  refine h_beginE [0] mixed (fun hG => ?_)
  refine h_takeXA 0 rfl (by kernel_rfl) rfl hG ?_; refine ⟨_, (val_fieldAddr rfl), ?_⟩; refine h_takeXA 1 rfl (by kernel_rfl) rfl hG ?_; refine ⟨_, (val_loadB1 0 rfl rfl rfl), ?_⟩; refine h_takeXA 2 rfl (by kernel_rfl) rfl hG ?_; refine ⟨_, (val_fieldAddr rfl), ?_⟩
  refine h_one 3 (by kernel_rfl) rfl ?_
  refine r_store1 0 rfl rfl rfl rfl rfl rfl <| r_nn ?_
  refine h_keptA hG ?_
  refine h_takeXA 4 rfl (by kernel_rfl) rfl hG ?_; refine ⟨_, (val_fieldAddr rfl), ?_⟩
  refine h_one 5 (by kernel_rfl) rfl ?_
  refine r_store1 0 rfl rfl rfl rfl rfl rfl <| r_nn ?_
  refine h_keptA hG ?_
  refine h_done (by kernel_rfl) ?_
  refine r_then_normal <| r_sr <| r_loadB 0 rfl rfl rfl (by rfl) ?_; refine r_storeA 2 rfl rfl rfl rfl (by rfl) (by repeat' (first | exact rfl | assumption | refine all_cons ?_ ?_)) rfl ?_; refine r_ev rfl rfl <| r_nn <| r_retc <| r_in_ret <| r_then_ret ?_
  refine r_ret2 [_] rfl (res_blk 2 rfl rfl (by rfl)) (.tmp rfl) (.cons _ (.cons _ (.cons _ (List.Sublist.refl _)))) ⟨_, rfl, ?_⟩
  rw [hr]
  exact ⟨_, rfl, leafE_V g 1 _ _ 0, rfl, by omega, by omega⟩
 rw [if_neg h1] at hr
 refine r_sr <| r_fieldAddr rfl rfl <| r_loadB1 1 rfl rfl rfl rfl <| r_ev rfl rfl <| r_ev rfl rfl <| r_nn ?_
 refine r_cond rfl (fun h2 => ?_) (fun h2 => ?_)
 ·rw [if_pos h2] at hr
  refine r_seq ?_
  refine h_beginE [0] mixed (fun hG => ?_)
  refine h_takeXA 0 rfl (by kernel_rfl) rfl hG ?_; refine ⟨_, (val_fieldAddr rfl), ?_⟩; refine h_takeXA 1 rfl (by kernel_rfl) rfl hG ?_; refine ⟨_, (val_loadB1 0 rfl rfl rfl), ?_⟩; refine h_takeXA 2 rfl (by kernel_rfl) rfl hG ?_; refine ⟨_, (val_fieldAddr rfl), ?_⟩
  refine h_one 3 (by kernel_rfl) rfl ?_
  refine r_store1 0 rfl rfl rfl rfl rfl rfl <| r_nn ?_
  refine h_keptA hG ?_
  refine h_takeXA 4 rfl (by kernel_rfl) rfl hG ?_; refine ⟨_, (val_fieldAddr rfl), ?_⟩
  refine h_one 5 (by kernel_rfl) rfl ?_
  refine r_store1 0 rfl rfl rfl rfl rfl rfl <| r_nn ?_
  refine h_keptA hG ?_
  refine h_done (by kernel_rfl) ?_
  refine r_then_normal <| r_sr <| r_loadB 0 rfl rfl rfl (by rfl) ?_; refine r_storeA 2 rfl rfl rfl rfl (by rfl) (by repeat' (first | exact rfl | assumption | refine all_cons ?_ ?_)) rfl ?_; refine r_ev rfl rfl <| r_nn <| r_retc <| r_in_ret <| r_then_ret ?_
  refine r_ret2 [_] rfl (res_blk 2 rfl rfl (by rfl)) (.tmp rfl) (.cons _ (.cons _ (.cons _ (List.Sublist.refl _)))) ⟨_, rfl, ?_⟩
  rw [hr]
  exact ⟨_, rfl, leafE_V g 2 _ _ 0, rfl, by omega, by omega⟩
 rw [if_neg h2] at hr
 refine r_sr <| r_fieldAddr rfl rfl <| r_loadB1 1 rfl rfl rfl rfl <| r_ev rfl rfl <| r_ev rfl rfl <| r_nn ?_
 refine r_cond rfl (fun h3 => ?_) (fun h3 => ?_)
 ·rw [if_pos h3] at hr
  have hk3 : kindOf l[i].text = 3 := (hkw _ (List.getElem_mem hlt')).symm.trans h3
  refine r_sr <| r_fieldAddr rfl rfl <| r_store1 0 rfl rfl rfl rfl rfl rfl <| r_nn <| r_sr <| r_fieldAddr rfl rfl <| r_loadB1 1 rfl rfl rfl rfl ?_
  refine r_callP rfl rfl (Atoi_num g hk3) ?_
  refine r_ev rfl rfl <| r_ev rfl rfl <| r_ev rfl rfl <| r_fieldAddr rfl rfl <| r_store1 0 rfl rfl rfl rfl rfl rfl <| r_nn <| r_sr <| r_loadB 0 rfl rfl rfl (by rfl) ?_; refine r_storeA 2 rfl rfl rfl rfl (by rfl) (by repeat' (first | exact rfl | assumption | refine all_cons ?_ ?_)) rfl ?_; refine r_ev rfl rfl <| r_nn <| r_retc <| r_in_ret <| r_then_ret ?_
  refine r_ret2 [_] rfl (res_blk 2 rfl rfl (by rfl)) (.tmp rfl) (.cons _ (.cons _ (.cons _ (List.Sublist.refl _)))) ⟨_, rfl, ?_⟩
  rw [hr]
  exact ⟨_, rfl, leafE_V g 3 _ [] _, rfl, by omega, by omega⟩
 rw [if_neg h3] at hr
 have h5 : l[i].kind = 5 ∧ (l[i].text = [63] ∨ l[i].text = [40] ∨ l[i].text = [123]) := by
  simp only [startsE, h1, h2, h3, decide_false, Bool.false_or, Bool.and_eq_true, Bool.or_eq_true, decide_eq_true_eq] at hst
  exact ⟨hst.1, hst.2.elim (fun h => h.elim .inl (fun h => .inr (.inl h))) (fun h => .inr (.inr h))⟩
 obtain ⟨h5, h6⟩ := h5
 refine r_sr <| r_fieldAddr rfl rfl <| r_loadB1 1 rfl rfl rfl rfl <| r_ev rfl rfl <| r_ev rfl rfl <| r_nn ?_
 refine r_cond rfl (fun h7 => ?_) (fun h7 => ?_)
 ·have h7' : l[i].text = [63] := h7
  rw [if_pos ⟨h5, h7'⟩] at hr
  refine r_sr <| r_fieldAddr rfl rfl <| r_store1 0 rfl rfl rfl rfl rfl rfl <| r_nn <| r_sr <| r_loadB 0 rfl rfl rfl (by rfl) ?_; refine r_storeA 2 rfl rfl rfl rfl (by rfl) (by repeat' (first | exact rfl | assumption | refine all_cons ?_ ?_)) rfl ?_; refine r_ev rfl rfl <| r_nn <| r_retc <| r_in_ret <| r_then_ret ?_
  refine r_ret2 [_] rfl (res_blk 2 rfl rfl (by rfl)) (.tmp rfl) (.cons _ (.cons _ (.cons _ (List.Sublist.refl _)))) ⟨_, rfl, ?_⟩
  rw [hr]
  exact ⟨_, rfl, leafE_V g 10 _ [] 0, rfl, by omega, by omega⟩
 have h7' : ¬ l[i].text = [63] := h7
 rw [if_neg (fun h => h7' h.2)] at hr
 refine r_skip <| r_in_normal <| r_then_normal <| r_sr <| r_ev rfl rfl ?_
 refine r_callL 3 rfl rfl rfl (hX g (i + 1) hg hs (by omega) (by omega)) ?_
 rintro v g1 r' hw hle
 have hg1 := hg.mono hle
 have hs1 := hs.mono hle
 have hrE : ∀ p, eread l .expr (i + 1) = .error p → eread l .atom i = .error p := by
  intro p hp
  rw [hr, hp]
  rcases h6 with h6 | h6 | h6
  ·exact absurd h6 h7'
  ·rw [if_neg (fun h => by rw [h6] at h; exact absurd h.2 (by decide)), if_pos ⟨h5, h6⟩]
  ·rw [if_pos ⟨h5, h6⟩]
 cases hq : eread l .expr (i + 1) with
 | error p =>
  rw [hq] at hw
  obtain ⟨ev, e, er, rfl, he, ⟨t, u, rfl, her⟩, j, hj, rfl⟩ := hw
  obtain ⟨a1, m1, c1, a2, m2, c2, a3, m3, c3, rfl, he'⟩ := he.form
  refine r_ev rfl rfl <| r_ev rfl rfl <| r_ev rfl rfl ?_
  refine r_alloc rfl (fun b6 => ?_)
  refine r_storeA 0 rfl rfl rfl rfl (by rfl) (by repeat' (first | exact rfl | assumption | refine all_cons ?_ ?_)) rfl ?_; refine r_ev rfl rfl <| r_nn <| r_seq <| r_block <| r_sr <| r_ev rfl rfl <| r_neq_nil_held rfl rfl <| r_ev rfl rfl <| r_nn <| r_cond_true rfl <| r_sr <| r_loadB 0 rfl rfl rfl (by rfl) ?_; refine r_ev rfl rfl <| r_storeA 3 rfl rfl rfl rfl (by rfl) (by repeat' (first | exact rfl | assumption | refine all_cons ?_ ?_)) rfl ?_; refine r_ev rfl rfl <| r_nn <| r_retc <| r_in_ret <| r_then_ret ?_
  refine r_ret2 [_] rfl (res_blk 3 rfl rfl (by rfl)) (.tmp rfl) (.cons _ (.cons _ (.cons _ (.cons _ (List.Sublist.refl _))))) ⟨_, rfl, ?_⟩
  rw [hrE p hq]
  exact ⟨_, e, _, rfl, ⟨_, rfl, he'⟩, ⟨t, u, rfl, her⟩, j, hj, rfl⟩
 | ok q =>
 clear hrE
 obtain ⟨x, j⟩ := q
 rw [hq] at hw
 obtain ⟨ev, rfl, he, rfl, hj1, hj2⟩ := hw
 obtain ⟨a1, m1, c1, a2, m2, c2, a3, m3, c3, rfl, he'⟩ := he.form
 refine r_ev rfl rfl <| r_ev rfl rfl <| r_ev rfl rfl ?_
 refine r_alloc rfl (fun b6 => ?_)
 refine r_storeA 0 rfl rfl rfl rfl (by rfl) (by repeat' (first | exact rfl | assumption | refine all_cons ?_ ?_)) rfl ?_; refine r_ev rfl rfl <| r_nn <| r_seq <| r_block <| r_sr <| r_ev rfl rfl <| r_neq_nil_nil rfl rfl <| r_ev rfl rfl <| r_nn <| r_cond_false rfl <| r_sr <| r_fieldAddr rfl rfl <| r_loadB1 2 rfl rfl rfl rfl <| r_ev rfl rfl ?_; refine r_ev rfl rfl <| r_nn ?_
 -- STOPB
 rw [hq] at hr
 simp only at hr
 refine r_cond rfl (fun h8 => ?_) (fun h8 => ?_)
 ·have h8' : l[i].text = [123] := h8
  rw [if_pos ⟨h5, h8'⟩] at hr
  refine r_cutG (ι := Ghost × Nat) (fun p => [(0, ptr b 0), (2, ptr b2 0), (5, ptr b5 0)]) (fun p => p.1)
   (fun p => [.blk b6 51 (exCells x (.slice a1 m1 c1) (.slice a2 m2 c2) (.slice a3 m3 c3)), .blk b5 51 [.int .i64 11, .int .i64 l[i].pos, str [], .int .i64 0, .slice (some ⟨p.2, 0, none⟩) 1 1, .slice none 0 0, .int .i64 0, str [], .int .i64 0, .int .i64 0, .slice none 0 0], .blk b4 132 (tokCells l[i]), .blk b2 51 noEc, rdE b (.slice (some ⟨b0, off, none⟩) l.length lc) j 0])
   (fun p => Ghost.le g1 p.1 ∧ SlAt p.1 11 (.slice (some ⟨p.2, 0, none⟩) 1 1) 1 (exCells x (.slice a1 m1 c1) (.slice a2 m2 c2) (.slice a3 m3 c3))) ?_ ?_
  ·rintro ⟨g2, b7⟩ ⟨hg2, hs7⟩
   simp only at hg2 hs7
   show Run E _ [(0, ptr b 0), (2, ptr b2 0), (5, ptr b5 0)] g2 [.blk b6 51 (exCells x (.slice a1 m1 c1) (.slice a2 m2 c2) (.slice a3 m3 c3)), .blk b5 51 [.int .i64 11, .int .i64 l[i].pos, str [], .int .i64 0, .slice (some ⟨b7, 0, none⟩) 1 1, .slice none 0 0, .int .i64 0, str [], .int .i64 0, .int .i64 0, .slice none 0 0], .blk b4 132 (tokCells l[i]), .blk b2 51 noEc, rdE b (.slice (some ⟨b0, off, none⟩) l.length lc) j 0] _
   have hs2 := hs1.mono hg2
   have hV := kidsE_V (ks := [x]) g2 11 l[i].pos [] hs7 (exs1 (he'.mono hg2))
   refine r_seq ?_
   refine h_beginE [4, 3] mixed (fun hG => ?_)
   refine h_takeXA 0 rfl (by kernel_rfl) rfl hG ?_; refine ⟨_, (val_loadB 1 rfl rfl (by rfl)), ?_⟩; refine h_takeXA 1 rfl (by kernel_rfl) rfl hG ?_; refine ⟨_, (val_ev rfl), ?_⟩
   refine h_one 2 (by kernel_rfl) rfl ?_
   refine r_callL 4 rfl rfl rfl (ewant_spec g2 l hb _ hs2 b j 5 [125]) ?_
   rintro v gw r' ⟨rfl, hv⟩ _
   rcases hv with ⟨hk, rfl, rfl⟩ | ⟨hk, rfl, rfl⟩
   ·refine r_nn ?_
    refine h_keptA hG ?_
    refine h_one 3 (by kernel_rfl) rfl ?_
    refine r_storeA 3 rfl rfl rfl rfl (by rfl) (by repeat' (first | exact rfl | assumption | refine all_cons ?_ ?_)) rfl ?_; refine r_nn ?_
    refine h_keptA hG ?_
    refine h_one 4 (by kernel_rfl) rfl ?_
    refine r_ev rfl rfl <| r_nn ?_
    refine h_keptA hG ?_
    refine h_done (by kernel_rfl) ?_
    refine r_then_normal <| r_retc <| r_in_ret <| r_then_ret ?_
    refine r_ret2 [_] rfl (res_blk 3 rfl rfl (by rfl)) (.tmp rfl) (.cons _ (.cons _ (.cons _ (.cons _ (List.Sublist.refl _))))) ⟨_, rfl, ?_⟩
    rw [show markAt l j [125] = true from hk] at hr
    rw [hr]
    have := tokAt_lt hk
    exact ⟨_, rfl, hV, rfl, by omega, by omega⟩
   ·refine r_nn ?_
    refine h_keptA hG ?_
    refine h_one 3 (by kernel_rfl) rfl ?_
    refine r_storeA 3 rfl rfl rfl rfl (by rfl) (by repeat' (first | exact rfl | assumption | refine all_cons ?_ ?_)) rfl ?_; refine r_nn ?_
    refine h_keptA hG ?_
    refine h_one 4 (by kernel_rfl) rfl ?_
    refine r_ev rfl rfl <| r_nn ?_
    refine h_keptA hG ?_
    refine h_done (by kernel_rfl) ?_
    refine r_then_normal <| r_retc <| r_in_ret <| r_then_ret ?_
    refine r_ret2 [_] rfl (res_blk 3 rfl rfl (by rfl)) (.tmp rfl) (.cons _ (.cons _ (.cons _ (.cons _ (List.Sublist.refl _))))) ⟨_, rfl, ?_⟩
    rw [show markAt l j [125] = false from hk] at hr
    rw [hr]
    exact ⟨_, _, _, rfl, hV, errV_miss _, j, hj2, rfl⟩
  ·intro K hK
   skip
   refine h_beginE [1] mixed (fun hG => ?_)
   refine h_takeXA 0 rfl (by kernel_rfl) rfl hG ?_; refine ⟨_, (val_loadB 0 rfl rfl (by rfl)), ?_⟩
   refine h_takeXA 2 rfl (by kernel_rfl) rfl hG ?_; refine ⟨_, (val_fieldAddr rfl), ?_⟩
   refine h_two 1 3 (by kernel_rfl) rfl rfl ?_ ?_
   ·refine r_buildSlice rfl rfl (by rfl) (by rfl) (by rfl) (by rfl) (by rfl) (fun b7 => ?_)
    refine r_publishRow (fun g2 hg2 hs7 => ?_)
    refine r_nn ?_
    refine h_keptA hG ?_
    refine h_one 3 (by kernel_rfl) rfl ?_
    refine r_store1 1 rfl rfl rfl rfl rfl rfl <| r_nn ?_
    refine h_keptA hG ?_
    refine h_takeXA 4 rfl (by kernel_rfl) rfl hG ?_; refine ⟨_, (val_fieldAddr rfl), ?_⟩
    refine h_one 5 (by kernel_rfl) rfl ?_
    refine r_store1 1 rfl rfl rfl rfl rfl rfl <| r_nn ?_
    refine h_keptA hG ?_
    refine h_done (by kernel_rfl) ?_
    refine r_then_normal ?_
    exact hK (g2, b7) _ ⟨hg2, hs7⟩ ⟨rfl, rfl, rfl, trivial⟩
   ·refine r_store1 1 rfl rfl rfl rfl rfl rfl <| r_nn ?_
    refine h_keptA hG ?_
    refine h_one 1 (by kernel_rfl) rfl ?_
    refine r_buildSlice rfl rfl (by rfl) (by rfl) (by rfl) (by rfl) (by rfl) (fun b7 => ?_)
    refine r_publishRow (fun g2 hg2 hs7 => ?_)
    refine r_nn ?_
    refine h_keptA hG ?_
    refine h_takeXA 4 rfl (by kernel_rfl) rfl hG ?_; refine ⟨_, (val_fieldAddr rfl), ?_⟩
    refine h_one 5 (by kernel_rfl) rfl ?_
    refine r_store1 1 rfl rfl rfl rfl rfl rfl <| r_nn ?_
    refine h_keptA hG ?_
    refine h_done (by kernel_rfl) ?_
    refine r_then_normal ?_
    exact hK (g2, b7) _ ⟨hg2, hs7⟩ ⟨rfl, rfl, rfl, trivial⟩
 have h8' : l[i].text = [40] := by
  rcases h6 with h6 | h6 | h6
  ·exact absurd h6 h7'
  ·exact h6
  ·exact absurd h6 h8
 rw [if_neg (fun h => h8 h.2), if_pos ⟨h5, h8'⟩] at hr
 refine r_sr <| r_ev rfl rfl ?_
 refine r_callL 4 rfl rfl rfl (eread_spec g1 l hb _ hs1 b j 0 5 [58]) ?_
 rintro v g1' r' ⟨rfl, rfl, rfl⟩ _
 rw [show tokAt l j 5 [58] = markAt l j [58] from rfl]
 cases hk0 : markAt l j [58] with
 | false =>
  rw [hk0] at hr
  simp only [Bool.false_eq_true, if_false] at hr ⊢
  refine r_ev rfl rfl <| r_ev rfl rfl <| r_nn <| r_cond_true rfl <| r_seq ?_
  refine h_beginE [4, 3] mixed (fun hG => ?_)
  refine h_takeXA 0 rfl (by kernel_rfl) rfl hG ?_; refine ⟨_, (val_loadB 0 rfl rfl (by rfl)), ?_⟩; refine h_takeXA 1 rfl (by kernel_rfl) rfl hG ?_; refine ⟨_, (val_ev rfl), ?_⟩
  refine h_one 2 (by kernel_rfl) rfl ?_
  refine r_callL 4 rfl rfl rfl (ewant_spec g1' l hb _ hs1 b j 5 [41]) ?_
  rintro v gw r' ⟨rfl, hv⟩ _
  rcases hv with ⟨hk, rfl, rfl⟩ | ⟨hk, rfl, rfl⟩
  ·refine r_nn ?_
   refine h_keptA hG ?_
   refine h_one 3 (by kernel_rfl) rfl ?_
   refine r_storeA 3 rfl rfl rfl rfl (by rfl) (by repeat' (first | exact rfl | assumption | refine all_cons ?_ ?_)) rfl ?_; refine r_nn ?_
   refine h_keptA hG ?_
   refine h_one 4 (by kernel_rfl) rfl ?_
   refine r_ev rfl rfl <| r_nn ?_
   refine h_keptA hG ?_
   refine h_done (by kernel_rfl) ?_
   refine r_then_normal <| r_retc <| r_in_ret <| r_then_ret ?_
   refine r_ret2 [_] rfl (res_blk 3 rfl rfl (by rfl)) (.tmp rfl) (.cons _ (.cons _ (.cons _ (.cons _ (List.Sublist.refl _))))) ⟨_, rfl, ?_⟩
   rw [show markAt l j [41] = true from hk] at hr
   rw [hr]
   have := tokAt_lt hk
   exact ⟨_, rfl, ⟨_, rfl, he'⟩, rfl, by omega, by omega⟩
  ·refine r_nn ?_
   refine h_keptA hG ?_
   refine h_one 3 (by kernel_rfl) rfl ?_
   refine r_storeA 3 rfl rfl rfl rfl (by rfl) (by repeat' (first | exact rfl | assumption | refine all_cons ?_ ?_)) rfl ?_; refine r_nn ?_
   refine h_keptA hG ?_
   refine h_one 4 (by kernel_rfl) rfl ?_
   refine r_ev rfl rfl <| r_nn ?_
   refine h_keptA hG ?_
   refine h_done (by kernel_rfl) ?_
   refine r_then_normal <| r_retc <| r_in_ret <| r_then_ret ?_
   refine r_ret2 [_] rfl (res_blk 3 rfl rfl (by rfl)) (.tmp rfl) (.cons _ (.cons _ (.cons _ (.cons _ (List.Sublist.refl _))))) ⟨_, rfl, ?_⟩
   rw [show markAt l j [41] = false from hk] at hr
   rw [hr]
   exact ⟨_, _, _, rfl, ⟨_, rfl, he'⟩, errV_miss _, j, hj2, rfl⟩
 | true =>
 have hlt2 := tokAt_lt hk0
 rw [hk0] at hr
 simp only [if_true] at hr ⊢
 refine r_ev rfl rfl <| r_ev rfl rfl <| r_nn <| r_cond_false rfl <| r_skip <| r_in_normal <| r_then_normal ?_
 -- STOPD
 refine r_cutG (ι := Ghost × Value × Nat × Nat) (fun p => [(0, ptr b 0), (2, ptr b2 0), (5, ptr b5 0), (6, ptr b6 0), (8, ptr p.2.2.1 0), (9, .int .i64 (ansI (tread l .whole (j + 1)))), (10, ptr p.2.2.2 0)]) (fun p => p.1)
  (fun p => [.blk p.2.2.1 49 (tyCells (ansT (tread l .whole (j + 1))) p.2.1), .blk p.2.2.2 32 [.int .i64 (ansE (tread l .whole (j + 1))), .int .i64 (ansP (tread l .whole (j + 1)))], .blk b6 51 (exCells x (.slice a1 m1 c1) (.slice a2 m2 c2) (.slice a3 m3 c3)), .blk b5 51 [.int .i64 0, .int .i64 l[i].pos, str [], .int .i64 0, .slice none 0 0, .slice none 0 0, .int .i64 0, str [], .int .i64 0, .int .i64 0, .slice none 0 0], .blk b4 132 (tokCells l[i]), .blk b2 51 noEc, rdE b (.slice (some ⟨b0, off, none⟩) l.length lc) (j + 1) 0])
  (fun p => Ghost.le g1' p.1 ∧ TyAt p.1 (ansT (tread l .whole (j + 1))) (tyCells (ansT (tread l .whole (j + 1))) p.2.1)) ?_ ?_
 ·rintro ⟨g2, sl, b8, b10⟩ ⟨hle2, hty⟩
  simp only at hle2 hty
  show Run E _ [(0, ptr b 0), (2, ptr b2 0), (5, ptr b5 0), (6, ptr b6 0), (8, ptr b8 0), (9, .int .i64 (ansI (tread l .whole (j + 1)))), (10, ptr b10 0)] g2 [.blk b8 49 (tyCells (ansT (tread l .whole (j + 1))) sl), .blk b10 32 [.int .i64 (ansE (tread l .whole (j + 1))), .int .i64 (ansP (tread l .whole (j + 1)))], .blk b6 51 (exCells x (.slice a1 m1 c1) (.slice a2 m2 c2) (.slice a3 m3 c3)), .blk b5 51 [.int .i64 0, .int .i64 l[i].pos, str [], .int .i64 0, .slice none 0 0, .slice none 0 0, .int .i64 0, str [], .int .i64 0, .int .i64 0, .slice none 0 0], .blk b4 132 (tokCells l[i]), .blk b2 51 noEc, rdE b (.slice (some ⟨b0, off, none⟩) l.length lc) (j + 1) 0] _
  have hs2 := hs1.mono hle2
  have he2 := he'.mono hle2
  obtain ⟨_, hsl, _⟩ := hty.args
  obtain ⟨ta, tm, tc, rfl⟩ := SlAt.form hsl
  cases hq3 : tread l .whole (j + 1) with
  | error p =>
   rw [hq3] at hr
   simp only at hr
   unfold ansE ansP ansI
   simp only
   refine r_seq <| r_sr <| r_fieldAddr rfl rfl <| r_loadB1 1 rfl rfl rfl rfl <| r_ev rfl rfl <| r_nn <| r_cond_true rfl <| r_sr <| r_ev rfl rfl <| r_fieldAddr rfl rfl <| r_loadB1 1 rfl rfl rfl rfl <| r_ev rfl rfl <| r_fieldAddr rfl rfl ?_
   refine r_store1 6 rfl rfl rfl (by rfl) (by rfl) rfl ?_
   refine r_drop (own' := [_, _, _, _, _]) (.cons _ (.cons _ (List.Sublist.refl _))) ?_
   refine r_nn <| r_sr <| r_loadB 0 rfl rfl rfl (by rfl) ?_; refine r_build rfl rfl (by rfl) ?_; refine r_mkIface rfl rfl <| r_storeA 3 rfl rfl rfl rfl (by rfl) (by repeat' (first | exact rfl | assumption | refine all_cons ?_ ?_)) rfl ?_; refine r_ev rfl rfl <| r_nn <| r_retc <| r_then_ret ?_
   refine r_ret2 [_] rfl (res_blk 3 rfl rfl (by rfl)) (.tmp rfl) (.cons _ (.cons _ (.cons _ (.cons _ (List.Sublist.refl _))))) ⟨_, rfl, ?_⟩
   rw [hr]
   exact ⟨_, x, _, rfl, ⟨_, rfl, he2⟩, errV_unexp, j + 1, by omega, rfl⟩
  | ok q =>
   obtain ⟨t, k⟩ := q
   have hpk := tread_bnd l _ .whole (j + 1) (t, k) (Nat.lt_succ_self _) (by omega) hq3
   have hpk1 : j + 1 < k := hpk.2 rfl
   have hpk2 : k ≤ l.length := hpk.1
   rw [hq3] at hr hty
   simp only at hr
   unfold ansE ansP ansI ansT
   simp only
   have hty' : TyAt g2 t (tyCells t (.slice ta tm tc)) := hty
   refine r_seq <| r_sr <| r_fieldAddr rfl rfl <| r_loadB1 1 rfl rfl rfl rfl <| r_ev rfl rfl <| r_nn <| r_cond_false rfl <| r_skip <| r_then_normal <| r_sr <| r_ev rfl rfl <| r_ev rfl rfl <| r_ev rfl rfl <| r_fieldAddr rfl rfl ?_
   refine r_store1 6 rfl rfl rfl (by rfl) (by rfl) rfl ?_
   refine r_nn ?_
   -- STOPE
   refine r_cutG (ι := Ghost × Nat) (fun p => [(0, ptr b 0), (2, ptr b2 0), (5, ptr b5 0)]) (fun p => p.1)
    (fun p => [.blk b6 51 (exCells x (.slice a1 m1 c1) (.slice a2 m2 c2) (.slice a3 m3 c3)), .blk b5 51 ([.int .i64 9, .int .i64 l[i].pos, str [], .int .i64 0, .slice (some ⟨p.2, 0, none⟩) 1 1, .slice none 0 0] ++ tyCells t (.slice ta tm tc)), .blk b4 132 (tokCells l[i]), .blk b2 51 noEc, rdE b (.slice (some ⟨b0, off, none⟩) l.length lc) k 0])
    (fun p => Ghost.le g2 p.1 ∧ SlAt p.1 11 (.slice (some ⟨p.2, 0, none⟩) 1 1) 1 (exCells x (.slice a1 m1 c1) (.slice a2 m2 c2) (.slice a3 m3 c3))) ?_ ?_
   ·rintro ⟨g3, b7⟩ ⟨hg3, hs7⟩
    simp only at hg3 hs7
    show Run E _ [(0, ptr b 0), (2, ptr b2 0), (5, ptr b5 0)] g3 [.blk b6 51 (exCells x (.slice a1 m1 c1) (.slice a2 m2 c2) (.slice a3 m3 c3)), .blk b5 51 ([.int .i64 9, .int .i64 l[i].pos, str [], .int .i64 0, .slice (some ⟨b7, 0, none⟩) 1 1, .slice none 0 0] ++ tyCells t (.slice ta tm tc)), .blk b4 132 (tokCells l[i]), .blk b2 51 noEc, rdE b (.slice (some ⟨b0, off, none⟩) l.length lc) k 0] _
    have hs3 := hs2.mono hg3
    have hV := annE_V g3 l[i].pos t hs7 (he2.mono hg3) (hty'.mono hg3)
    refine r_seq ?_
    refine h_beginE [4, 3] mixed (fun hG => ?_)
    refine h_takeXA 0 rfl (by kernel_rfl) rfl hG ?_; refine ⟨_, (val_loadB 1 rfl rfl (by rfl)), ?_⟩; refine h_takeXA 1 rfl (by kernel_rfl) rfl hG ?_; refine ⟨_, (val_ev rfl), ?_⟩
    refine h_one 2 (by kernel_rfl) rfl ?_
    refine r_callL 4 rfl rfl rfl (ewant_spec g3 l hb _ hs3 b k 5 [41]) ?_
    rintro v gw r' ⟨rfl, hv⟩ _
    rcases hv with ⟨hk, rfl, rfl⟩ | ⟨hk, rfl, rfl⟩
    ·refine r_nn ?_
     refine h_keptA hG ?_
     refine h_one 3 (by kernel_rfl) rfl ?_
     refine r_storeA 3 rfl rfl rfl rfl (by rfl) (by repeat' (first | exact rfl | assumption | refine all_cons ?_ ?_)) rfl ?_; refine r_nn ?_
     refine h_keptA hG ?_
     refine h_one 4 (by kernel_rfl) rfl ?_
     refine r_ev rfl rfl <| r_nn ?_
     refine h_keptA hG ?_
     refine h_done (by kernel_rfl) ?_
     refine r_then_normal <| r_retc ?_
     refine r_ret2 [_] rfl (res_blk 3 rfl rfl (by rfl)) (.tmp rfl) (.cons _ (.cons _ (.cons _ (.cons _ (List.Sublist.refl _))))) ⟨_, rfl, ?_⟩
     rw [show markAt l k [41] = true from hk] at hr
     rw [hr]
     have := tokAt_lt hk
     exact ⟨_, rfl, hV, rfl, by omega, by omega⟩
    ·refine r_nn ?_
     refine h_keptA hG ?_
     refine h_one 3 (by kernel_rfl) rfl ?_
     refine r_storeA 3 rfl rfl rfl rfl (by rfl) (by repeat' (first | exact rfl | assumption | refine all_cons ?_ ?_)) rfl ?_; refine r_nn ?_
     refine h_keptA hG ?_
     refine h_one 4 (by kernel_rfl) rfl ?_
     refine r_ev rfl rfl <| r_nn ?_
     refine h_keptA hG ?_
     refine h_done (by kernel_rfl) ?_
     refine r_then_normal <| r_retc ?_
     refine r_ret2 [_] rfl (res_blk 3 rfl rfl (by rfl)) (.tmp rfl) (.cons _ (.cons _ (.cons _ (.cons _ (List.Sublist.refl _))))) ⟨_, rfl, ?_⟩
     rw [show markAt l k [41] = false from hk] at hr
     rw [hr]
     exact ⟨_, _, _, rfl, hV, errV_miss _, k, hpk2, rfl⟩
   ·intro K hK
    skip
    refine h_beginE [3] mixed (fun hG => ?_)
    refine h_takeXA 0 rfl (by kernel_rfl) rfl hG ?_; refine ⟨_, (val_loadB 2 rfl rfl (by rfl)), ?_⟩
    refine h_takeXA 2 rfl (by kernel_rfl) rfl hG ?_; refine ⟨_, (val_loadB 0 rfl rfl (by rfl)), ?_⟩; refine h_takeXA 3 rfl (by kernel_rfl) rfl hG ?_; refine ⟨_, (val_fieldAddr rfl), ?_⟩
    refine h_two 1 4 (by kernel_rfl) rfl rfl ?_ ?_
    ·refine r_buildSlice rfl rfl (by rfl) (by rfl) (by rfl) (by rfl) (by rfl) (fun b7 => ?_)
     refine r_publishRow (fun g3 hg3 hs7 => ?_)
     refine r_nn ?_
     refine h_keptA hG ?_
     refine h_one 4 (by kernel_rfl) rfl ?_
     refine r_store1 3 rfl rfl rfl rfl rfl rfl <| r_nn ?_
     refine h_keptA hG ?_
     refine h_takeXA 5 rfl (by kernel_rfl) rfl hG ?_; refine ⟨_, (val_fieldAddr rfl), ?_⟩
     refine h_one 6 (by kernel_rfl) rfl ?_
     refine r_store1 3 rfl rfl rfl rfl rfl rfl <| r_nn ?_
     refine h_keptA hG ?_
     refine h_takeXA 7 rfl (by kernel_rfl) rfl hG ?_; refine ⟨_, (val_fieldAddr rfl), ?_⟩
     refine h_one 8 (by kernel_rfl) rfl ?_
     refine r_storeA 3 rfl rfl rfl rfl (by rfl) (by repeat' (first | exact rfl | assumption | refine all_cons ?_ ?_)) rfl ?_; refine r_nn ?_
     refine h_keptA hG ?_
     refine h_done (by kernel_rfl) ?_
     refine r_drop (own' := [_, _, _, _, _]) (.cons _ (.cons _ (List.Sublist.refl _))) ?_
     refine r_then_normal ?_
     exact hK (g3, b7) _ ⟨hg3, hs7⟩ ⟨rfl, rfl, rfl, trivial⟩
    ·refine r_store1 3 rfl rfl rfl rfl rfl rfl <| r_nn ?_
     refine h_keptA hG ?_
     refine h_one 1 (by kernel_rfl) rfl ?_
     refine r_buildSlice rfl rfl (by rfl) (by rfl) (by rfl) (by rfl) (by rfl) (fun b7 => ?_)
     refine r_publishRow (fun g3 hg3 hs7 => ?_)
     refine r_nn ?_
     refine h_keptA hG ?_
     refine h_takeXA 5 rfl (by kernel_rfl) rfl hG ?_; refine ⟨_, (val_fieldAddr rfl), ?_⟩
     refine h_one 6 (by kernel_rfl) rfl ?_
     refine r_store1 3 rfl rfl rfl rfl rfl rfl <| r_nn ?_
     refine h_keptA hG ?_
     refine h_takeXA 7 rfl (by kernel_rfl) rfl hG ?_; refine ⟨_, (val_fieldAddr rfl), ?_⟩
     refine h_one 8 (by kernel_rfl) rfl ?_
     refine r_storeA 3 rfl rfl rfl rfl (by rfl) (by repeat' (first | exact rfl | assumption | refine all_cons ?_ ?_)) rfl ?_; refine r_nn ?_
     refine h_keptA hG ?_
     refine h_done (by kernel_rfl) ?_
     refine r_drop (own' := [_, _, _, _, _]) (.cons _ (.cons _ (List.Sublist.refl _))) ?_
     refine r_then_normal ?_
     exact hK (g3, b7) _ ⟨hg3, hs7⟩ ⟨rfl, rfl, rfl, trivial⟩
 ·intro K hK
  skip
  refine h_beginE [] mixed (fun hG => ?_)
  refine h_takeXA 0 rfl (by kernel_rfl) rfl hG ?_; refine ⟨_, (val_ev rfl), ?_⟩; refine h_takeXA 1 rfl (by kernel_rfl) rfl hG ?_; refine ⟨_, (val_ev rfl), ?_⟩; refine h_takeXA 2 rfl (by kernel_rfl) rfl hG ?_; refine ⟨_, (val_fieldAddr rfl), ?_⟩; refine h_takeXA 3 rfl (by kernel_rfl) rfl hG ?_; refine ⟨_, (val_loadB1 4 rfl rfl rfl), ?_⟩; refine h_takeXA 4 rfl (by kernel_rfl) rfl hG ?_; refine ⟨_, (val_ev rfl), ?_⟩; refine h_takeXA 5 rfl (by kernel_rfl) rfl hG ?_; refine ⟨_, (val_ev rfl), ?_⟩; refine h_takeXA 6 rfl (by kernel_rfl) rfl hG ?_; refine ⟨_, (val_fieldAddr rfl), ?_⟩; refine h_takeXA 7 rfl (by kernel_rfl) rfl hG ?_; refine ⟨_, (val_loadB1 4 rfl rfl rfl), ?_⟩
  refine h_three 8 13 14 (by kernel_rfl) rfl rfl rfl ?_ ?_ ?_
  ·refine r_callN rfl rfl (rType_spec hb g1' hg1 _ ((j + 1 : Nat) : Int) hs1) ?_
   rintro w g2 hans hle2
   rw [idx_nat (show j + 1 ≤ l.length by omega)] at hans
   obtain ⟨tv, rfl, hty⟩ := hans
   obtain ⟨ta, tm, tc, rfl, ht⟩ := hty.cells5
   refine r_nn ?_
   refine h_keptA hG ?_
   refine h_takeXA 9 rfl (by kernel_rfl) rfl hG ?_; refine ⟨_, (val_ev rfl), ?_⟩; refine h_takeXA 10 rfl (by kernel_rfl) rfl hG ?_; refine ⟨_, (val_ev rfl), ?_⟩; refine h_takeXA 11 rfl (by kernel_rfl) rfl hG ?_; refine ⟨_, (val_ev rfl), ?_⟩; refine h_takeXA 12 rfl (by kernel_rfl) rfl hG ?_; refine ⟨_, (val_ev rfl), ?_⟩
   refine h_two 13 14 (by kernel_rfl) rfl rfl ?_ ?_
   ·refine r_alloc rfl (fun b8 => ?_)
    refine r_nn ?_
    refine h_keptA hG ?_
    refine h_one 14 (by kernel_rfl) rfl ?_
    refine r_alloc rfl (fun b10 => ?_)
    refine r_nn ?_
    refine h_keptA hG ?_
    refine h_one 15 (by kernel_rfl) rfl ?_
    refine r_storeA 1 rfl rfl rfl rfl (by rfl) (by repeat' (first | exact rfl | assumption | refine all_cons ?_ ?_)) rfl ?_; refine r_nn ?_
    refine h_keptA hG ?_
    refine h_takeXA 16 rfl (by kernel_rfl) rfl hG ?_; refine ⟨_, (val_ev rfl), ?_⟩
    refine h_one 17 (by kernel_rfl) rfl ?_
    refine r_storeA 0 rfl rfl rfl rfl (by rfl) (by repeat' (first | exact rfl | assumption | refine all_cons ?_ ?_)) rfl ?_; refine r_nn ?_
    refine h_keptA hG ?_
    refine h_done (by kernel_rfl) ?_
    refine r_perm (List.Perm.swap _ _ _) ?_
    refine r_then_normal ?_
    exact hK (g2, .slice ta tm tc, b8, b10) _ ⟨hle2, ht⟩ ⟨rfl, rfl, rfl, rfl, rfl, rfl, rfl, trivial⟩
   ·refine r_alloc rfl (fun b10 => ?_)
    refine r_nn ?_
    refine h_keptA hG ?_
    refine h_one 13 (by kernel_rfl) rfl ?_
    refine r_alloc rfl (fun b8 => ?_)
    refine r_nn ?_
    refine h_keptA hG ?_
    refine h_one 15 (by kernel_rfl) rfl ?_
    refine r_storeA 0 rfl rfl rfl rfl (by rfl) (by repeat' (first | exact rfl | assumption | refine all_cons ?_ ?_)) rfl ?_; refine r_nn ?_
    refine h_keptA hG ?_
    refine h_takeXA 16 rfl (by kernel_rfl) rfl hG ?_; refine ⟨_, (val_ev rfl), ?_⟩
    refine h_one 17 (by kernel_rfl) rfl ?_
    refine r_storeA 1 rfl rfl rfl rfl (by rfl) (by repeat' (first | exact rfl | assumption | refine all_cons ?_ ?_)) rfl ?_; refine r_nn ?_
    refine h_keptA hG ?_
    refine h_done (by kernel_rfl) ?_
    refine r_then_normal ?_
    exact hK (g2, .slice ta tm tc, b8, b10) _ ⟨hle2, ht⟩ ⟨rfl, rfl, rfl, rfl, rfl, rfl, rfl, trivial⟩
  ·refine r_alloc rfl (fun b8 => ?_)
   refine r_nn ?_
   refine h_keptA hG ?_
   refine h_two 8 14 (by kernel_rfl) rfl rfl ?_ ?_
   ·refine r_callN rfl rfl (rType_spec hb g1' hg1 _ ((j + 1 : Nat) : Int) hs1) ?_
    rintro w g2 hans hle2
    rw [idx_nat (show j + 1 ≤ l.length by omega)] at hans
    obtain ⟨tv, rfl, hty⟩ := hans
    obtain ⟨ta, tm, tc, rfl, ht⟩ := hty.cells5
    refine r_nn ?_
    refine h_keptA hG ?_
    refine h_takeXA 9 rfl (by kernel_rfl) rfl hG ?_; refine ⟨_, (val_ev rfl), ?_⟩; refine h_takeXA 10 rfl (by kernel_rfl) rfl hG ?_; refine ⟨_, (val_ev rfl), ?_⟩; refine h_takeXA 11 rfl (by kernel_rfl) rfl hG ?_; refine ⟨_, (val_ev rfl), ?_⟩; refine h_takeXA 12 rfl (by kernel_rfl) rfl hG ?_; refine ⟨_, (val_ev rfl), ?_⟩
    refine h_one 14 (by kernel_rfl) rfl ?_
    refine r_alloc rfl (fun b10 => ?_)
    refine r_nn ?_
    refine h_keptA hG ?_
    refine h_one 15 (by kernel_rfl) rfl ?_
    refine r_storeA 1 rfl rfl rfl rfl (by rfl) (by repeat' (first | exact rfl | assumption | refine all_cons ?_ ?_)) rfl ?_; refine r_nn ?_
    refine h_keptA hG ?_
    refine h_takeXA 16 rfl (by kernel_rfl) rfl hG ?_; refine ⟨_, (val_ev rfl), ?_⟩
    refine h_one 17 (by kernel_rfl) rfl ?_
    refine r_storeA 0 rfl rfl rfl rfl (by rfl) (by repeat' (first | exact rfl | assumption | refine all_cons ?_ ?_)) rfl ?_; refine r_nn ?_
    refine h_keptA hG ?_
    refine h_done (by kernel_rfl) ?_
    refine r_perm (List.Perm.swap _ _ _) ?_
    refine r_then_normal ?_
    exact hK (g2, .slice ta tm tc, b8, b10) _ ⟨hle2, ht⟩ ⟨rfl, rfl, rfl, rfl, rfl, rfl, rfl, trivial⟩
   ·refine r_alloc rfl (fun b10 => ?_)
    refine r_nn ?_
    refine h_keptA hG ?_
    refine h_one 8 (by kernel_rfl) rfl ?_
    refine r_callN rfl rfl (rType_spec hb g1' hg1 _ ((j + 1 : Nat) : Int) hs1) ?_
    rintro w g2 hans hle2
    rw [idx_nat (show j + 1 ≤ l.length by omega)] at hans
    obtain ⟨tv, rfl, hty⟩ := hans
    obtain ⟨ta, tm, tc, rfl, ht⟩ := hty.cells5
    refine r_nn ?_
    refine h_keptA hG ?_
    refine h_takeXA 9 rfl (by kernel_rfl) rfl hG ?_; refine ⟨_, (val_ev rfl), ?_⟩; refine h_takeXA 10 rfl (by kernel_rfl) rfl hG ?_; refine ⟨_, (val_ev rfl), ?_⟩; refine h_takeXA 11 rfl (by kernel_rfl) rfl hG ?_; refine ⟨_, (val_ev rfl), ?_⟩; refine h_takeXA 12 rfl (by kernel_rfl) rfl hG ?_; refine ⟨_, (val_ev rfl), ?_⟩
    refine h_one 15 (by kernel_rfl) rfl ?_
    refine r_storeA 1 rfl rfl rfl rfl (by rfl) (by repeat' (first | exact rfl | assumption | refine all_cons ?_ ?_)) rfl ?_; refine r_nn ?_
    refine h_keptA hG ?_
    refine h_takeXA 16 rfl (by kernel_rfl) rfl hG ?_; refine ⟨_, (val_ev rfl), ?_⟩
    refine h_one 17 (by kernel_rfl) rfl ?_
    refine r_storeA 0 rfl rfl rfl rfl (by rfl) (by repeat' (first | exact rfl | assumption | refine all_cons ?_ ?_)) rfl ?_; refine r_nn ?_
    refine h_keptA hG ?_
    refine h_done (by kernel_rfl) ?_
    refine r_perm (List.Perm.swap _ _ _) ?_
    refine r_then_normal ?_
    exact hK (g2, .slice ta tm tc, b8, b10) _ ⟨hle2, ht⟩ ⟨rfl, rfl, rfl, rfl, rfl, rfl, rfl, trivial⟩
  ·refine r_alloc rfl (fun b10 => ?_)
   refine r_nn ?_
   refine h_keptA hG ?_
   refine h_two 8 13 (by kernel_rfl) rfl rfl ?_ ?_
   ·refine r_callN rfl rfl (rType_spec hb g1' hg1 _ ((j + 1 : Nat) : Int) hs1) ?_
    rintro w g2 hans hle2
    rw [idx_nat (show j + 1 ≤ l.length by omega)] at hans
    obtain ⟨tv, rfl, hty⟩ := hans
    obtain ⟨ta, tm, tc, rfl, ht⟩ := hty.cells5
    refine r_nn ?_
    refine h_keptA hG ?_
    refine h_takeXA 9 rfl (by kernel_rfl) rfl hG ?_; refine ⟨_, (val_ev rfl), ?_⟩; refine h_takeXA 10 rfl (by kernel_rfl) rfl hG ?_; refine ⟨_, (val_ev rfl), ?_⟩; refine h_takeXA 11 rfl (by kernel_rfl) rfl hG ?_; refine ⟨_, (val_ev rfl), ?_⟩; refine h_takeXA 12 rfl (by kernel_rfl) rfl hG ?_; refine ⟨_, (val_ev rfl), ?_⟩
    refine h_one 13 (by kernel_rfl) rfl ?_
    refine r_alloc rfl (fun b8 => ?_)
    refine r_nn ?_
    refine h_keptA hG ?_
    refine h_one 15 (by kernel_rfl) rfl ?_
    refine r_storeA 0 rfl rfl rfl rfl (by rfl) (by repeat' (first | exact rfl | assumption | refine all_cons ?_ ?_)) rfl ?_; refine r_nn ?_
    refine h_keptA hG ?_
    refine h_takeXA 16 rfl (by kernel_rfl) rfl hG ?_; refine ⟨_, (val_ev rfl), ?_⟩
    refine h_one 17 (by kernel_rfl) rfl ?_
    refine r_storeA 1 rfl rfl rfl rfl (by rfl) (by repeat' (first | exact rfl | assumption | refine all_cons ?_ ?_)) rfl ?_; refine r_nn ?_
    refine h_keptA hG ?_
    refine h_done (by kernel_rfl) ?_
    refine r_then_normal ?_
    exact hK (g2, .slice ta tm tc, b8, b10) _ ⟨hle2, ht⟩ ⟨rfl, rfl, rfl, rfl, rfl, rfl, rfl, trivial⟩
   ·refine r_alloc rfl (fun b8 => ?_)
    refine r_nn ?_
    refine h_keptA hG ?_
    refine h_one 8 (by kernel_rfl) rfl ?_
    refine r_callN rfl rfl (rType_spec hb g1' hg1 _ ((j + 1 : Nat) : Int) hs1) ?_
    rintro w g2 hans hle2
    rw [idx_nat (show j + 1 ≤ l.length by omega)] at hans
    obtain ⟨tv, rfl, hty⟩ := hans
    obtain ⟨ta, tm, tc, rfl, ht⟩ := hty.cells5
    refine r_nn ?_
    refine h_keptA hG ?_
    refine h_takeXA 9 rfl (by kernel_rfl) rfl hG ?_; refine ⟨_, (val_ev rfl), ?_⟩; refine h_takeXA 10 rfl (by kernel_rfl) rfl hG ?_; refine ⟨_, (val_ev rfl), ?_⟩; refine h_takeXA 11 rfl (by kernel_rfl) rfl hG ?_; refine ⟨_, (val_ev rfl), ?_⟩; refine h_takeXA 12 rfl (by kernel_rfl) rfl hG ?_; refine ⟨_, (val_ev rfl), ?_⟩
    refine h_one 15 (by kernel_rfl) rfl ?_
    refine r_storeA 0 rfl rfl rfl rfl (by rfl) (by repeat' (first | exact rfl | assumption | refine all_cons ?_ ?_)) rfl ?_; refine r_nn ?_
    refine h_keptA hG ?_
    refine h_takeXA 16 rfl (by kernel_rfl) rfl hG ?_; refine ⟨_, (val_ev rfl), ?_⟩
    refine h_one 17 (by kernel_rfl) rfl ?_
    refine r_storeA 1 rfl rfl rfl rfl (by rfl) (by repeat' (first | exact rfl | assumption | refine all_cons ?_ ?_)) rfl ?_; refine r_nn ?_
    refine h_keptA hG ?_
    refine h_done (by kernel_rfl) ?_
    refine r_then_normal ?_
    exact hK (g2, .slice ta tm tc, b8, b10) _ ⟨hle2, ht⟩ ⟨rfl, rfl, rfl, rfl, rfl, rfl, rfl, trivial⟩
end
end Go.Proofs.YtpjehhnaojjanaaGreatDoor
-- sum a693a404f51b42f6


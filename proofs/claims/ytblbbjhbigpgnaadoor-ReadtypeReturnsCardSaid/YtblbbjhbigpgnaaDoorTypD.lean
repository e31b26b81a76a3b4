/- The walks of package readtype: atom, applied, whole, over every list of tokens. -/
import Derived.Test.YtblbbjhbigpgnaaDoorTypC
namespace Go.Proofs.YtblbbjhbigpgnaaDoor
open Go Go.Eng Go.Th Go.Proofs
set_option maxRecDepth 10000
set_option maxHeartbeats 4000000
attribute [local irreducible] wpList Code.wp Run bodyPost Go.Eng.Ends Exit.then Exit.inBlock Again Wq Kq
/-- What a reading function hands back. -/
def rdPost (n i : Nat) (r : TR) (v : Value) (g' : Ghost) : Prop := match r with
  | .ok (t, j) => ∃ tv, v = .tuple #[tv, .int .i64 j, .nilIface] ∧ TyV g' tv t ∧ i < j ∧ j ≤ n
  | .error p => ∃ (tv : Value) (j : Nat) (t : Ty), v = .tuple #[tv, .int .i64 j, failV p] ∧ TyV g' tv t ∧ j ≤ n + 1 + (n - i)
theorem toks_some {l : List Tok} {i : Nat} (h : i < l.length) : l[i]? = some l[i] := List.getElem?_eq_getElem h
theorem atom_step {l : List Tok} (hb : TB l) (m : Nat) (hW : ∀ g v i, ToksAt g v l → i ≤ l.length → l.length - i < m → SpecN Tryd.prog 36 [v, .int .i64 i] g (rdPost l.length i (tread l .whole i)))
    (g : Ghost) (v : Value) (i : Nat) (hs : ToksAt g v l) (hi : i ≤ l.length) (hm : l.length - i < m + 1) : SpecN Tryd.prog 43 [v, .int .i64 i] g (rdPost l.length i (tread l .atom i)) := by
  have hb1 := hb.1
  have hr := tread_atom l i
  refine spec_of_run Tryd.func43 rfl Tryd.ntmps43 rfl fun E hE => ?_
  refine r_sr ?_
  refine r_alloc rfl (fun b4 => ?_)
  refine r_ev rfl rfl ?_; refine r_ev rfl rfl ?_; refine r_nn ?_; refine r_seq ?_; refine r_block ?_; refine r_sr ?_; refine r_ev rfl rfl ?_; refine r_ev rfl rfl ?_; refine r_len_at rfl rfl (by assumption) ?_; refine r_ev rfl rfl ?_; refine r_ev rfl rfl ?_
  refine r_gdec rfl rfl (fun hge => ?_) (fun hge => ?_)
  · rw [List.getElem?_eq_none (by omega)] at hr
    refine r_pass rfl rfl rfl ?_; refine r_pass rfl rfl rfl ?_; refine r_pass rfl rfl rfl ?_; refine r_pass rfl rfl rfl ?_; refine r_pass rfl rfl rfl ?_; refine r_pass rfl rfl rfl ?_; refine r_ev rfl rfl ?_; refine r_ev rfl rfl ?_; refine r_nn ?_; refine r_cond_true rfl ?_; refine r_sr ?_; refine r_build rfl rfl (by rfl) ?_; refine r_ev rfl rfl ?_; refine r_ev rfl rfl ?_; refine r_ev rfl rfl ?_
    refine r_callP rfl rfl (unexpected_spec g v l hs hb i (by omega)) ?_
    refine r_storeA 0 rfl rfl rfl rfl (by rfl) (by repeat' (first | exact rfl | assumption | refine all_cons ?_ ?_)) rfl ?_; refine r_ev rfl rfl ?_; refine r_ev rfl rfl ?_; refine r_nn ?_; refine r_retc ?_; refine r_in_ret ?_; refine r_then_ret ?_
    refine r_ret3 [] rfl (res_blk 0 rfl rfl (by rfl)) (.tmp rfl) (.tmp rfl) (by simp) ⟨?_, rfl⟩
    rw [hr]
    exact ⟨_, i, noT, rfl, noT_V g, by omega⟩
  have hlt : i < l.length := by omega
  rw [toks_some hlt] at hr
  simp only at hr
  obtain ⟨b, off, cap, rfl, hx⟩ := hs.held hlt
  refine r_tev rfl rfl rfl ?_; refine r_tev rfl rfl rfl ?_; refine r_take rfl ?_; refine r_indexAddr rfl rfl rfl rfl (by omega) ?_; refine r_take rfl ?_
  refine r_load rfl rfl (vs := tokCells l[i]) (toks_rd hx hlt) rfl ?_
  refine r_take rfl ?_
  refine r_callP rfl rfl (starts_spec g l[i]) ?_
  cases hst : startsT l[i] with
  | false =>
    have hk : ¬ l[i].kind = 1 ∧ ¬ l[i].kind = 2 ∧ ¬ (l[i].kind = 5 ∧ l[i].text = [40]) := by
      simp only [startsT, Bool.or_eq_false_iff, Bool.and_eq_false_iff, decide_eq_false_iff_not] at hst
      exact ⟨hst.1.1, hst.1.2, fun h => hst.2.elim (fun h' => h' h.1) (fun h' => h' h.2)⟩
    rw [if_neg hk.1, if_neg hk.2.1, if_neg hk.2.2] at hr
    refine r_tev rfl rfl rfl ?_; refine r_ev rfl rfl ?_; refine r_ev rfl rfl ?_; refine r_nn ?_; refine r_cond_true rfl ?_; refine r_sr ?_; refine r_build rfl rfl (by rfl) ?_; refine r_ev rfl rfl ?_; refine r_ev rfl rfl ?_; refine r_ev rfl rfl ?_
    refine r_callP rfl rfl (unexpected_spec g _ l hs hb i (by omega)) ?_
    refine r_storeA 0 rfl rfl rfl rfl (by rfl) (by repeat' (first | exact rfl | assumption | refine all_cons ?_ ?_)) rfl ?_; refine r_ev rfl rfl ?_; refine r_ev rfl rfl ?_; refine r_nn ?_; refine r_retc ?_; refine r_in_ret ?_; refine r_then_ret ?_
    refine r_ret3 [] rfl (res_blk 0 rfl rfl (by rfl)) (.tmp rfl) (.tmp rfl) (by simp) ⟨?_, rfl⟩
    rw [hr]
    exact ⟨_, i, noT, rfl, noT_V g, by omega⟩
  | true =>
    refine r_tev rfl rfl rfl ?_; refine r_ev rfl rfl ?_; refine r_ev rfl rfl ?_; refine r_nn ?_; refine r_cond_false rfl ?_; refine r_sr ?_; refine r_ev rfl rfl ?_; refine r_ev rfl rfl ?_; refine r_indexAddr rfl rfl rfl rfl (by omega) ?_; refine r_fieldAddr rfl rfl ?_
    refine r_load1 rfl rfl (SlAt.cell tokCells_len hx hlt 0 rfl) ?_
    refine r_ev rfl rfl ?_; refine r_ev rfl rfl ?_; refine r_nn ?_
    refine r_cond rfl (fun h1 => ?_) (fun h1 => ?_)
    · rw [if_pos h1] at hr
      refine r_sr ?_; refine r_ev rfl rfl ?_; refine r_ev rfl rfl ?_; refine r_indexAddr rfl rfl rfl rfl (by omega) ?_; refine r_fieldAddr rfl rfl ?_
      refine r_load1 rfl rfl (SlAt.cell tokCells_len hx hlt 1 rfl) ?_
      refine r_build rfl rfl (by rfl) ?_; refine r_ev rfl rfl ?_; refine r_add rfl rfl rfl (by omega) ?_; refine r_storeA 0 rfl rfl rfl rfl (by rfl) (by repeat' (first | exact rfl | assumption | refine all_cons ?_ ?_)) rfl ?_; refine r_ev rfl rfl ?_; refine r_ev rfl rfl ?_; refine r_nn ?_; refine r_retc ?_; refine r_in_ret ?_; refine r_then_ret ?_
      refine r_ret3 [] rfl (res_blk 0 rfl rfl (by rfl)) (.tmp rfl) (.tmp rfl) (by simp) ⟨?_, rfl⟩
      rw [hr]
      exact ⟨_, rfl, nameT_V g _, by omega, by omega⟩
    rw [if_neg h1] at hr
    refine r_sr ?_; refine r_ev rfl rfl ?_; refine r_ev rfl rfl ?_; refine r_indexAddr rfl rfl rfl rfl (by omega) ?_; refine r_fieldAddr rfl rfl ?_
    refine r_load1 rfl rfl (SlAt.cell tokCells_len hx hlt 0 rfl) ?_
    refine r_ev rfl rfl ?_; refine r_ev rfl rfl ?_; refine r_nn ?_
    refine r_cond rfl (fun h2 => ?_) (fun h2 => ?_)
    · rw [if_pos h2] at hr
      refine r_sr ?_; refine r_ev rfl rfl ?_; refine r_ev rfl rfl ?_; refine r_indexAddr rfl rfl rfl rfl (by omega) ?_; refine r_fieldAddr rfl rfl ?_
      refine r_load1 rfl rfl (SlAt.cell tokCells_len hx hlt 1 rfl) ?_
      refine r_callN rfl rfl (tCon_spec g l[i].text _ [] _ (slNil g 5) (tysNil g) (by simp)) ?_
      rintro w g1 ⟨sl, rfl, hw⟩ hle
      obtain ⟨_, hsl, _⟩ := hw.args
      obtain ⟨a, m', c, rfl⟩ := SlAt.form hsl
      refine r_ev rfl rfl ?_; refine r_add rfl rfl rfl (by omega) ?_; refine r_storeA 0 rfl rfl rfl rfl (by rfl) (by repeat' (first | exact rfl | assumption | refine all_cons ?_ ?_)) rfl ?_; refine r_ev rfl rfl ?_; refine r_ev rfl rfl ?_; refine r_nn ?_; refine r_retc ?_; refine r_in_ret ?_; refine r_then_ret ?_
      refine r_ret3 [] rfl (res_blk 0 rfl rfl (by rfl)) (.tmp rfl) (.tmp rfl) (by simp) ⟨?_, rfl⟩
      rw [hr]
      exact ⟨_, rfl, ⟨_, rfl, hw⟩, by omega, by omega⟩
    rw [if_neg h2] at hr
    have hp : l[i].kind = 5 ∧ l[i].text = [40] := by
      simp only [startsT, h1, h2, decide_false, Bool.false_or, Bool.and_eq_true, decide_eq_true_eq] at hst
      exact hst
    rw [if_pos hp] at hr
    refine r_skip ?_; refine r_in_normal ?_; refine r_then_normal ?_; refine r_sr ?_; refine r_ev rfl rfl ?_; refine r_ev rfl rfl ?_; refine r_add rfl rfl rfl (by omega) ?_
    refine r_callN rfl (xs := _) rfl (hW g _ (i + 1) hs (by omega) (by omega)) ?_
    rintro w g1 hw hle
    cases hq : tread l .whole (i + 1) with
    | error p =>
      rw [hq] at hw hr
      simp only at hr
      obtain ⟨tv, j, t, rfl, ⟨sl, rfl, ht⟩, hj⟩ := hw
      obtain ⟨_, hsl, _⟩ := ht.args
      obtain ⟨a, m', c, rfl⟩ := SlAt.form hsl
      unfold failV
      refine r_ev rfl rfl ?_; refine r_ev rfl rfl ?_; refine r_ev rfl rfl ?_; refine r_ev rfl rfl ?_
      refine r_alloc rfl (fun b7 => ?_)
      refine r_storeA 0 rfl rfl rfl rfl (by rfl) (by repeat' (first | exact rfl | assumption | refine all_cons ?_ ?_)) rfl ?_; refine r_ev rfl rfl ?_; refine r_ev rfl rfl ?_; refine r_nn ?_; refine r_seq ?_; refine r_sr ?_; refine r_ev rfl rfl ?_; refine r_eql_nil_held rfl rfl ?_; refine r_ev rfl rfl ?_; refine r_pass rfl rfl rfl ?_; refine r_pass rfl rfl rfl ?_; refine r_pass rfl rfl rfl ?_; refine r_pass rfl rfl rfl ?_; refine r_ev rfl rfl ?_; refine r_nn ?_; refine r_cond_false rfl ?_; refine r_skip ?_; refine r_then_normal ?_; refine r_sr ?_; refine r_loadB 0 rfl rfl rfl (by rfl) ?_; refine r_ev rfl rfl ?_; refine r_add rfl rfl rfl (by omega) ?_; refine r_ev rfl rfl ?_; refine r_storeA 1 rfl rfl rfl rfl (by rfl) (by repeat' (first | exact rfl | assumption | refine all_cons ?_ ?_)) rfl ?_; refine r_ev rfl rfl ?_; refine r_ev rfl rfl ?_; refine r_nn ?_; refine r_retc ?_
      refine r_ret3 [] rfl (res_blk 1 rfl rfl (by rfl)) (.tmp rfl) (.tmp rfl) (by simp) ⟨?_, rfl⟩
      rw [hr]
      exact ⟨_, j + 1, t, rfl, ⟨_, rfl, ht⟩, by omega⟩
    | ok q =>
      obtain ⟨t, j⟩ := q
      rw [hq] at hw hr
      simp only at hr
      obtain ⟨tv, rfl, ⟨sl, rfl, ht⟩, hj1, hj2⟩ := hw
      obtain ⟨_, hsl, _⟩ := ht.args
      obtain ⟨a, m', c, rfl⟩ := SlAt.form hsl
      refine r_ev rfl rfl ?_; refine r_ev rfl rfl ?_; refine r_ev rfl rfl ?_; refine r_ev rfl rfl ?_
      refine r_alloc rfl (fun b7 => ?_)
      refine r_storeA 0 rfl rfl rfl rfl (by rfl) (by repeat' (first | exact rfl | assumption | refine all_cons ?_ ?_)) rfl ?_; refine r_ev rfl rfl ?_; refine r_ev rfl rfl ?_; refine r_nn ?_; refine r_seq ?_; refine r_sr ?_; refine r_ev rfl rfl ?_; refine r_eql_nil_nil rfl rfl ?_; refine r_ev rfl rfl ?_; refine r_tev rfl rfl rfl ?_; refine r_tev rfl rfl rfl ?_; refine r_take rfl ?_
      refine r_callP rfl rfl (mark_spec5 g1 _ l (hs.mono hle) j [41]) ?_
      cases hk : markAt l j [41] with
      | true =>
        rw [hk] at hr
        refine r_tev rfl rfl rfl ?_; refine r_ev rfl rfl ?_; refine r_nn ?_; refine r_cond_false rfl ?_; refine r_skip ?_; refine r_then_normal ?_; refine r_sr ?_; refine r_loadB 0 rfl rfl rfl (by rfl) ?_; refine r_ev rfl rfl ?_; refine r_add rfl rfl rfl (by omega) ?_; refine r_ev rfl rfl ?_; refine r_storeA 1 rfl rfl rfl rfl (by rfl) (by repeat' (first | exact rfl | assumption | refine all_cons ?_ ?_)) rfl ?_; refine r_ev rfl rfl ?_; refine r_ev rfl rfl ?_; refine r_nn ?_; refine r_retc ?_
        refine r_ret3 [] rfl (res_blk 1 rfl rfl (by rfl)) (.tmp rfl) (.tmp rfl) (by simp) ⟨?_, rfl⟩
        rw [hr]
        have := tokAt_lt hk
        exact ⟨_, rfl, ⟨_, rfl, ht⟩, by omega, by omega⟩
      | false =>
        rw [hk] at hr
        refine r_tev rfl rfl rfl ?_; refine r_ev rfl rfl ?_; refine r_nn ?_; refine r_cond_true rfl ?_; refine r_region ?_; refine r_ev rfl rfl ?_; refine r_ev rfl rfl ?_
        refine r_callP rfl rfl (unexpected_spec g1 _ l (hs.mono hle) hb j (by omega)) ?_
        refine r_ev rfl rfl ?_; refine r_nn ?_; refine r_sr ?_; refine r_loadB 0 rfl rfl rfl (by rfl) ?_; refine r_ev rfl rfl ?_; refine r_add rfl rfl rfl (by omega) ?_; refine r_ev rfl rfl ?_; refine r_storeA 1 rfl rfl rfl rfl (by rfl) (by repeat' (first | exact rfl | assumption | refine all_cons ?_ ?_)) rfl ?_; refine r_ev rfl rfl ?_; refine r_ev rfl rfl ?_; refine r_nn ?_; refine r_retc ?_
        refine r_ret3 [] rfl (res_blk 1 rfl rfl (by rfl)) (.tmp rfl) (.tmp rfl) (by simp) ⟨?_, rfl⟩
        rw [hr]
        exact ⟨_, j + 1, t, rfl, ⟨_, rfl, ht⟩, by omega⟩
end Go.Proofs.YtblbbjhbigpgnaaDoor
-- sum 788a582bd718c4eb

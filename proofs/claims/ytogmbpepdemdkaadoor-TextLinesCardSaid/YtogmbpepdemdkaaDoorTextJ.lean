/- The walks of chapter 1's laws: TextOffsets, TextReturns, TextLines. -/
import Derived.Test.YtogmbpepdemdkaaDoorFrameT
import Derived.Test.YtogmbpepdemdkaaDoorTextI
namespace Go.Proofs.YtogmbpepdemdkaaDoor
open Go Go.Eng Go.Proofs
set_option maxRecDepth 10000
attribute [local irreducible] wpList Code.wp Run bodyPost Go.Eng.Ends Exit.then Exit.inBlock Again Wq Kq
theorem offOf_form (s : Bytes) (line col : Int) : ∃ a b, offOf s line col = .tuple #[.int .i64 a, .bool b] := by
  unfold offOf
  cases offR (parts 10 s) line.toNat col.toNat with
  | none => exact ⟨_, _, rfl⟩
  | some i => exact ⟨_, _, rfl⟩
theorem modI_le (a m : Int) (h : 1 ≤ m) : 0 ≤ modI a m ∧ modI a m < m := by
  unfold modI; rw [if_neg (by omega)]
  exact ⟨Int.emod_nonneg _ (by omega), Int.emod_lt_of_pos _ (by omega)⟩
theorem TextOffsets_spec (g : Ghost) {o : Obj} (hp : PowTab o) (s : Bytes) (hs : s.length ≤ 9223372036854775807) (line : Int) (hline : -9223372036854775808 ≤ line ∧ line ≤ 9223372036854775807) (col : Int) (hcol : -9223372036854775808 ≤ col ∧ col ≤ 9223372036854775807) :
    PureO Tryd.prog 7 [str s, .int .i64 line, .int .i64 col] g (tabRes o) (.bool true) := by
  have hm1 := modI_le line 5 (by omega)
  have hm2 := modI_le col 9 (by omega)
  refine spec_of_run Tryd.func7 rfl Tryd.ntmps7 rfl fun E hE => ?_
  refine r_sr ?_; refine r_ev rfl rfl ?_; refine r_nn ?_; refine r_seq ?_; refine r_sr ?_
  refine r_callO 0 rfl rfl rfl (first_spec g hp) ?_
  refine r_ev rfl rfl ?_; refine r_nn ?_; refine r_cond_false rfl ?_; refine r_skip ?_; refine r_then_normal ?_; refine r_seq ?_; refine r_sr ?_; refine r_ev rfl rfl ?_; refine r_len_str rfl rfl ?_; refine r_ev rfl rfl ?_; refine r_nn ?_
  refine r_cond rfl (fun h100 => ?_) (fun h100 => ?_)
  · refine r_sr ?_; refine r_ev rfl rfl ?_; refine r_nn ?_; refine r_retc ?_; refine r_then_ret ?_
    exact r_ret1 [_] rfl rfl (List.Sublist.refl _) ⟨rfl, rfl, rfl⟩
  · obtain ⟨a, b, hab⟩ := offOf_form s line col
    obtain ⟨c, d, hcd⟩ := offOf_form s (modI line 5) (modI col 9)
    refine r_skip ?_; refine r_then_normal ?_; refine r_sr ?_; refine r_ev rfl rfl ?_; refine r_ev rfl rfl ?_; refine r_ev rfl rfl ?_
    refine r_callP rfl rfl (Offset_spec g s (by omega) line col hline hcol) ?_
    rw [hab]
    refine r_ev rfl rfl ?_; refine r_ev rfl rfl ?_; refine r_ev rfl rfl ?_; refine r_ev rfl rfl ?_; refine r_ev rfl rfl ?_; refine r_nn ?_; refine r_sr ?_; refine r_ev rfl rfl ?_; refine r_ev rfl rfl ?_; refine r_ev rfl rfl ?_
    refine r_callP rfl rfl (rOffset_spec g s (by omega) line col hline hcol) ?_
    rw [hab]
    refine r_ev rfl rfl ?_; refine r_ev rfl rfl ?_; refine r_ev rfl rfl ?_; refine r_ev rfl rfl ?_; refine r_ev rfl rfl ?_; refine r_nn ?_; refine r_sr ?_; refine r_ev rfl rfl ?_; refine r_ev rfl rfl ?_
    refine r_callP rfl rfl (Mod_spec g line 5 (by omega)) ?_
    refine r_ev rfl rfl ?_
    refine r_callP rfl rfl (Mod_spec g col 9 (by omega)) ?_
    skip
    refine r_callP rfl rfl (Offset_spec g s (by omega) (modI line 5) (modI col 9) (by omega) (by omega)) ?_
    rw [hcd]
    refine r_ev rfl rfl ?_; refine r_ev rfl rfl ?_; refine r_ev rfl rfl ?_; refine r_ev rfl rfl ?_; refine r_ev rfl rfl ?_; refine r_nn ?_; refine r_sr ?_; refine r_ev rfl rfl ?_; refine r_ev rfl rfl ?_
    refine r_callP rfl rfl (Mod_spec g line 5 (by omega)) ?_
    refine r_ev rfl rfl ?_
    refine r_callP rfl rfl (Mod_spec g col 9 (by omega)) ?_
    skip
    refine r_callP rfl rfl (rOffset_spec g s (by omega) (modI line 5) (modI col 9) (by omega) (by omega)) ?_
    rw [hcd]
    refine r_ev rfl rfl ?_; refine r_ev rfl rfl ?_; refine r_ev rfl rfl ?_; refine r_ev rfl rfl ?_; refine r_ev rfl rfl ?_; refine r_nn ?_; refine r_sr ?_; refine r_ev rfl rfl ?_; refine r_ev rfl rfl ?_; refine r_ev rfl rfl ?_; refine r_ev rfl rfl ?_
    refine r_gdec rfl rfl (fun _ => ?_) (fun h => absurd rfl h)
    refine r_tev rfl rfl rfl ?_; refine r_tev rfl rfl rfl ?_; refine r_take rfl ?_; refine r_v rfl (val_eql_bool rfl rfl (by kernel_rfl)) ?_; refine r_ev rfl rfl ?_; refine r_ev rfl rfl ?_
    refine r_gbool rfl rfl (fun _ => ?_) (fun h => by simp at h)
    refine r_tev rfl rfl rfl ?_; refine r_tev rfl rfl rfl ?_; refine r_tev rfl rfl rfl ?_; refine r_ev rfl rfl ?_; refine r_ev rfl rfl ?_
    refine r_gdec rfl rfl (fun _ => ?_) (fun h => absurd rfl h)
    refine r_tev rfl rfl rfl ?_; refine r_tev rfl rfl rfl ?_; refine r_take rfl ?_; refine r_v rfl (val_eql_bool rfl rfl (by kernel_rfl)) ?_; refine r_ev rfl rfl ?_; refine r_ev rfl rfl ?_; refine r_nn ?_; refine r_retc ?_
    exact r_ret1 [_] rfl rfl (List.Sublist.refl _) ⟨by simp, rfl, rfl⟩
theorem TextReturns_spec (g : Ghost) {o : Obj} (hp : PowTab o) (s : Bytes) (hs : s.length ≤ 9223372036854775807) (pos : Int) (hpos : -9223372036854775808 ≤ pos ∧ pos ≤ 9223372036854775807) :
    PureO Tryd.prog 8 [str s, .int .i64 pos] g (tabRes o) (.bool true) := by
  refine spec_of_run Tryd.func8 rfl Tryd.ntmps8 rfl fun E hE => ?_
  refine r_sr ?_; refine r_ev rfl rfl ?_; refine r_nn ?_; refine r_seq ?_; refine r_sr ?_
  refine r_callO 0 rfl rfl rfl (first_spec g hp) ?_
  refine r_ev rfl rfl ?_; refine r_nn ?_; refine r_cond_false rfl ?_; refine r_skip ?_; refine r_then_normal ?_; refine r_seq ?_; refine r_sr ?_; refine r_ev rfl rfl ?_; refine r_len_str rfl rfl ?_; refine r_ev rfl rfl ?_; refine r_nn ?_
  refine r_cond rfl (fun h300 => ?_) (fun h300 => ?_)
  · refine r_sr ?_; refine r_ev rfl rfl ?_; refine r_nn ?_; refine r_retc ?_; refine r_then_ret ?_
    exact r_ret1 [_] rfl rfl (List.Sublist.refl _) ⟨rfl, rfl, rfl⟩
  · have hm := modI_le pos (s.length + 1) (by omega)
    obtain ⟨k, hk⟩ : ∃ k : Nat, modI pos (s.length + 1) = k := ⟨_, (Int.toNat_of_nonneg hm.1).symm⟩
    have hcl : clamp (k : Int) s.length = k := by unfold clamp; omega
    have hb := place_le s k (by omega)
    have hof : offOf s ((pl s k).1 : Nat) ((pl s k).2 : Nat) = offV (some k) := by
      unfold offOf
      rw [Int.toNat_natCast, Int.toNat_natCast, (offR_iff s _ _ k).2 ⟨by omega, rfl⟩]
    rw [pl_eq] at hb
    refine r_skip ?_; refine r_then_normal ?_; refine r_sr ?_; refine r_ev rfl rfl ?_; refine r_ev rfl rfl ?_; refine r_len_str rfl rfl ?_; refine r_add rfl rfl rfl (by omega) ?_
    refine r_callP rfl rfl (Mod_spec g pos _ (by omega)) ?_
    rw [hk]
    refine r_ev rfl rfl ?_; refine r_nn ?_; refine r_sr ?_; refine r_ev rfl rfl ?_; refine r_ev rfl rfl ?_
    refine r_callP rfl rfl (Place_spec g s (by omega) k) ?_
    rw [hcl, pl_eq]
    refine r_ev rfl rfl ?_; refine r_ev rfl rfl ?_; refine r_ev rfl rfl ?_; refine r_ev rfl rfl ?_; refine r_ev rfl rfl ?_; refine r_nn ?_; refine r_sr ?_; refine r_ev rfl rfl ?_; refine r_ev rfl rfl ?_; refine r_ev rfl rfl ?_
    refine r_callP rfl rfl (Offset_spec g s (by omega) _ _ (by omega) (by omega)) ?_
    rw [hof]
    unfold offV
    refine r_ev rfl rfl ?_; refine r_ev rfl rfl ?_; refine r_ev rfl rfl ?_; refine r_ev rfl rfl ?_; refine r_ev rfl rfl ?_; refine r_nn ?_; refine r_sr ?_; refine r_ev rfl rfl ?_; refine r_ev rfl rfl ?_; refine r_tev rfl rfl rfl ?_; refine r_tev rfl rfl rfl ?_; refine r_tev rfl rfl rfl ?_; refine r_ev rfl rfl ?_; refine r_ev rfl rfl ?_; refine r_nn ?_; refine r_retc ?_
    exact r_ret1 [_] rfl rfl (List.Sublist.refl _) ⟨by simp, rfl, rfl⟩
theorem TextLines_spec (g : Ghost) {o : Obj} (hp : PowTab o) (s : Bytes) (hs : s.length ≤ 9223372036854775807) :
    PureO Tryd.prog 4 [str s] g (tabRes o) (.bool true) := by
  refine spec_of_run Tryd.func4 rfl Tryd.ntmps4 rfl fun E hE => ?_
  refine r_sr ?_; refine r_ev rfl rfl ?_; refine r_nn ?_; refine r_seq ?_; refine r_sr ?_
  refine r_callO 0 rfl rfl rfl (first_spec g hp) ?_
  refine r_ev rfl rfl ?_; refine r_nn ?_; refine r_cond_false rfl ?_; refine r_skip ?_; refine r_then_normal ?_; refine r_seq ?_; refine r_sr ?_; refine r_ev rfl rfl ?_; refine r_len_str rfl rfl ?_; refine r_ev rfl rfl ?_; refine r_nn ?_
  refine r_cond rfl (fun h300 => ?_) (fun h300 => ?_)
  · refine r_sr ?_; refine r_ev rfl rfl ?_; refine r_nn ?_; refine r_retc ?_; refine r_then_ret ?_
    exact r_ret1 [_] rfl rfl (List.Sublist.refl _) ⟨rfl, rfl, rfl⟩
  · refine r_skip ?_; refine r_then_normal ?_; refine r_sr ?_; refine r_ev rfl rfl ?_
    refine r_call rfl rfl (Lines_spec g s (by omega)) ?_
    rintro v g' own' ⟨rfl, b, rfl, rfl⟩ _
    refine r_publishBlk (fun g1 hg1 hx => ?_)
    have hsum := sumL_parts 10 s
    have hjoin := joinL_parts s
    have hclean := parts_clean 10 s
    have hne := parts_ne 10 s
    generalize parts 10 s = ps at hx hsum hjoin hclean hne ⊢
    have hcell' : ∀ (j : Nat) (h : j < ps.length), g1 b (0 + j * 1) = some (str ps[j]) := fun j h => by rw [show 0 + j * 1 = j by omega]; exact hx j _ (by simp [h])
    have hpl := len_sumL ps
    have hps : 0 < ps.length := List.length_pos_iff.2 hne
    refine r_ev rfl rfl ?_; refine r_nn ?_; refine r_seq ?_; refine r_sr ?_; refine r_ev rfl rfl ?_; refine r_nn ?_; refine r_block ?_
    refine r_loop (ι := Nat) (fun k => [(0, str s), (3, .slice (some ⟨b, 0, none⟩) ps.length ps.length), (4, .int .i64 k)]) (fun _ => g1) (fun _ => [tabRes o]) (fun k => k ≤ ps.length) (fun k => ps.length - k) 0 (by omega) ⟨rfl, rfl, rfl, trivial⟩ rfl rfl ?_
    intro k hk
    refine r_seq ?_; refine r_sr ?_; refine r_ev rfl rfl ?_; refine r_ev rfl rfl ?_; refine r_len_sl rfl rfl ?_; refine r_ev rfl rfl ?_; refine r_nn ?_
    refine r_cond rfl (fun hlt => ?_) (fun hlt => ?_)
    · have hlt' : k < ps.length := by omega
      have hgl := sumL_get hlt'
      have hck := hclean _ (List.getElem_mem hlt')
      refine r_skip ?_; refine r_then_normal ?_; refine r_seq ?_; refine r_block ?_; refine r_sr ?_; refine r_ev rfl rfl ?_; refine r_nn ?_; refine r_block ?_
      refine r_loop (ι := Nat) (fun j => [(0, str s), (3, .slice (some ⟨b, 0, none⟩) ps.length ps.length), (4, .int .i64 k), (5, .int .i64 j)]) (fun _ => g1) (fun _ => [tabRes o]) (fun j => j ≤ ps[k].length) (fun j => ps[k].length - j) 0 (by omega) ⟨rfl, rfl, rfl, rfl, trivial⟩ rfl rfl ?_
      intro j hj
      refine r_seq ?_; refine r_sr ?_; refine r_ev rfl rfl ?_; refine r_ev rfl rfl ?_; refine r_ev rfl rfl ?_; refine r_indexAddr rfl rfl rfl rfl (by omega) ?_
      refine r_load1 rfl rfl (rd_g1 (hcell' k hlt')) ?_
      refine r_len_str rfl rfl ?_; refine r_ev rfl rfl ?_; refine r_nn ?_
      refine r_cond rfl (fun hlt2 => ?_) (fun hlt2 => ?_)
      · have hlt3 : j < ps[k].length := by omega
        have hcj := hck _ (List.getElem_mem hlt3)
        refine r_skip ?_; refine r_then_normal ?_; refine r_seq ?_; refine r_block ?_; refine r_sr ?_; refine r_ev rfl rfl ?_; refine r_ev rfl rfl ?_; refine r_indexAddr rfl rfl rfl rfl (by omega) ?_
        refine r_load1 rfl rfl (rd_g1 (hcell' k hlt')) ?_
        refine r_ev rfl rfl ?_; refine r_index_str rfl rfl rfl rfl (by omega) ?_; refine r_ev rfl rfl ?_; refine r_nn ?_
        refine r_cond rfl (fun h10 => ?_) (fun h10 => ?_)
        · exact absurd (UInt8.toNat_inj.1 (by simpa using Int.ofNat.inj h10)) hcj
        · refine r_skip ?_; refine r_in_normal ?_; refine r_then_normal ?_; refine r_region ?_; refine r_ev rfl rfl ?_; refine r_add rfl rfl rfl (by omega) ?_; refine r_ev rfl rfl ?_; refine r_nn ?_
          exact r_again (j + 1) (by omega) (by omega) ⟨rfl, rfl, rfl, rfl, trivial⟩ rfl rfl
      · refine r_exit ?_; refine r_then_exit ?_; refine r_then_exit ?_; refine r_in_exit ?_; refine r_in_normal ?_; refine r_then_normal ?_; refine r_region ?_; refine r_ev rfl rfl ?_; refine r_add rfl rfl rfl (by omega) ?_; refine r_ev rfl rfl ?_; refine r_nn ?_
        exact r_again (k + 1) (by omega) (by omega) ⟨rfl, rfl, rfl, trivial⟩ rfl rfl
    · refine r_exit ?_; refine r_then_exit ?_; refine r_then_exit ?_; refine r_in_exit ?_; refine r_then_normal ?_; refine r_sr ?_; refine r_ev rfl rfl ?_; refine r_len_sl rfl rfl ?_; refine r_ev rfl rfl ?_; refine r_ev rfl rfl ?_
      refine r_gdec rfl rfl (fun hpos => ?_) (fun hpos => ?_)
      · refine r_tev rfl rfl rfl ?_; refine r_take rfl ?_
        refine r_callP rfl rfl (rJoin_spec g1 b ps hx (by omega) (by rw [hjoin]; omega)) ?_
        rw [hjoin]
        refine r_tev rfl rfl rfl ?_; refine r_tev rfl rfl rfl ?_; refine r_ev rfl rfl ?_; refine r_ev rfl rfl ?_; refine r_nn ?_; refine r_retc ?_
        refine r_shrink hE hg1 ?_
        exact r_ret1 [_] rfl rfl (List.Sublist.refl _) ⟨by simp, rfl, rfl⟩
      · omega
end Go.Proofs.YtogmbpepdemdkaaDoor

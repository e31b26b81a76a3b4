/- The walks of chapter 37: the reference's format, Valid and Format; same, piece. -/
import Derived.Test.YtogmbpepdemdkaaDoorCmdE
namespace Go.Proofs.YtogmbpepdemdkaaDoor
open Go Go.Eng Go.Proofs
set_option maxRecDepth 10000
attribute [local irreducible] wpList Code.wp Run bodyPost Go.Eng.Ends Exit.then Exit.inBlock Again Wq Kq
theorem fmtS_at {c : Cmd} {f : Form} (h : kindForm c.kind = some f) : fmtS c = (formatForm f c).getD [] := by unfold fmtS formatCmd; rw [h]
theorem rformat_spec (g : Ghost) (c : Cmd) (cv : Value) (hc : CmdAt g cv c) (ht : c.text.length ≤ 1000000) :
    Pure Tryd.prog 42 [cv] g (str (fmtS c)) := by
  obtain ⟨sl, rfl, h1, hs⟩ := hc
  refine spec_of_run Tryd.func42 rfl Tryd.ntmps42 rfl fun E hE => ?_
  refine r_sr ?_
  refine r_box rfl rfl rfl (fun b1 => ?_)
  refine r_ev rfl rfl ?_; refine r_nn ?_; refine r_sr ?_
  refine r_call rfl rfl (rows_spec g) ?_
  rintro v g0 own' ⟨rfl, bf, rfl, rfl⟩ _
  refine r_publishRow (fun g1 hg1 hsl => ?_)
  obtain ⟨_, _, _, he1, hx⟩ := hsl.held (j := 0) (by decide)
  simp only [Value.slice.injEq, Option.some.injEq, Addr.mk.injEq, and_true, true_and] at he1
  obtain ⟨⟨rfl, rfl⟩, rfl⟩ := he1
  have hs1 := hs.mono hg1
  refine r_ev rfl rfl ?_; refine r_nn ?_; refine r_seq ?_; refine r_sr ?_; refine r_ev rfl rfl ?_; refine r_nn ?_; refine r_block ?_
  refine r_loop (ι := Nat) (fun i => [(1, ptr b1 0), (3, .slice (some ⟨bf, 0, none⟩) 11 11), (4, .int .i64 i)]) (fun _ => g1)
    (fun _ => [.blk b1 42 (cmdCells c sl)]) (fun i => i ≤ 11 ∧ ∀ (j : Nat) (hj : j < formList.length), j < i → formList[j].kind ≠ c.kind) (fun i => 11 - i) 0 ⟨by omega, fun j _ h => by omega⟩ ⟨rfl, rfl, rfl, trivial⟩ rfl rfl ?_
  rintro i ⟨hi, hno⟩
  refine r_seq ?_; refine r_sr ?_; refine r_ev rfl rfl ?_; refine r_ev rfl rfl ?_; refine r_len_sl rfl rfl ?_; refine r_ev rfl rfl ?_; refine r_nn ?_
  refine r_cond rfl (fun hlt => ?_) (fun hlt => ?_)
  · have hlt' : i < formList.length := by simp only [formList, List.length_cons, List.length_nil]; omega
    have hff := form_facts _ (List.getElem_mem hlt')
    refine r_skip ?_; refine r_then_normal ?_; refine r_seq ?_; refine r_block ?_; refine r_seq ?_; refine r_seq ?_
    refine r_qregion mixed (by kernel_rfl) ?_
    refine q_ev rfl rfl ?_; refine q_ev rfl rfl ?_; refine q_v rfl (val_indexAddr rfl rfl rfl (by omega)) ?_; refine q_v rfl (val_fieldAddr rfl) ?_
    refine q_v rfl (val_load1 rfl (SlAt.cell formCells_len hx hlt' 1 rfl)) ?_
    refine q_v rfl (val_fieldAddr rfl) ?_; refine q_v rfl (val_loadB1 0 rfl rfl rfl) ?_; refine q_ev rfl rfl ?_; refine q_end ?_; refine r_then_normal ?_
    refine r_cond rfl (fun hk => ?_) (fun hk => ?_)
    · refine r_exit ?_; refine r_then_exit ?_; refine r_in_exit ?_; refine r_then_normal ?_; refine r_region ?_; refine r_ev rfl rfl ?_; refine r_add rfl rfl rfl (by omega) ?_; refine r_ev rfl rfl ?_; refine r_nn ?_
      exact r_again (i + 1) ⟨by omega, fun j hj hji => by
        by_cases he : j = i
        · subst he; exact hk
        · exact hno j hj (by omega)⟩ (by omega) ⟨rfl, rfl, rfl, trivial⟩ rfl rfl
    have hfm := fmtS_at (kind_at hlt' (Decidable.not_not.1 hk))
    refine r_skip ?_; refine r_then_normal ?_; refine r_seq ?_; refine r_seq ?_
    refine r_qregion mixed (by kernel_rfl) ?_
    refine q_v rfl (val_fieldAddr rfl) ?_; refine q_v rfl (val_loadB1 0 rfl rfl rfl) ?_; refine q_v rfl (val_len_at rfl (by assumption)) ?_; refine q_ev rfl rfl ?_; refine q_ev rfl rfl ?_; refine q_v rfl (val_indexAddr rfl rfl rfl (by omega)) ?_; refine q_v rfl (val_fieldAddr rfl) ?_
    refine q_v rfl (val_load1 rfl (SlAt.cell formCells_len hx hlt' 2 rfl)) ?_
    refine q_ev rfl rfl ?_; refine q_ev rfl rfl ?_
    -- STOP1
    refine q_gdec rfl rfl (fun hn => ?_) (fun hn => ?_)
    · have hb := fmt_none (f := formList[i]) (c := c) (.inl (.inl (fun h => hn (by rw [h]))))
      refine q_pass rfl rfl rfl ?_; refine q_pass rfl rfl rfl ?_; refine q_pass rfl rfl rfl ?_; refine q_pass rfl rfl rfl ?_; refine q_pass rfl rfl rfl ?_; refine q_pass rfl rfl rfl ?_; refine q_pass rfl rfl rfl ?_; refine q_pass rfl rfl rfl ?_; refine q_pass rfl rfl rfl ?_; refine q_ev rfl rfl ?_; refine q_end ?_; refine r_then_normal ?_; refine r_cond_true rfl ?_; refine r_sr ?_; refine r_ev rfl rfl ?_; refine r_nn ?_; refine r_retc ?_; refine r_then_ret ?_; refine r_in_ret ?_; refine r_then_ret ?_; refine r_then_ret ?_; refine r_in_ret ?_; refine r_then_ret ?_
      refine r_shrink hE hg1 ?_
      exact r_ret1 [] rfl rfl (by simp) ⟨by rw [hfm, hb]; rfl, rfl, rfl⟩
    have hn' : c.nums.length = formList[i].cnt := by omega
    refine q_take rfl ?_; refine q_v rfl (val_fieldAddr rfl) ?_; refine q_take rfl ?_; refine q_v rfl (val_loadB1 0 rfl rfl rfl) ?_; refine q_tev rfl rfl rfl ?_; refine q_tev rfl rfl rfl ?_; refine q_tev rfl rfl rfl ?_; refine q_take rfl ?_; refine q_v rfl (val_indexAddr rfl rfl rfl (by omega)) ?_; refine q_take rfl ?_; refine q_v rfl (val_fieldAddr rfl) ?_; refine q_take rfl ?_
    refine q_v rfl (val_load1 rfl (SlAt.cell formCells_len hx hlt' 3 rfl)) ?_
    refine q_take rfl ?_; refine q_v rfl (val_neq_bool rfl rfl (by kernel_rfl)) ?_; refine q_ev rfl rfl ?_; refine q_end ?_; refine r_then_normal ?_
    refine r_condb rfl (fun htx => ?_) (fun htx => ?_)
    · have hb := fmt_none (f := formList[i]) (c := c) (.inl (.inr (by simpa using htx)))
      refine r_sr ?_; refine r_ev rfl rfl ?_; refine r_nn ?_; refine r_retc ?_; refine r_then_ret ?_; refine r_in_ret ?_; refine r_then_ret ?_; refine r_then_ret ?_; refine r_in_ret ?_; refine r_then_ret ?_
      refine r_shrink hE hg1 ?_
      exact r_ret1 [] rfl rfl (by simp) ⟨by rw [hfm, hb]; rfl, rfl, rfl⟩
    have htx' : decide (c.text ≠ []) = formList[i].txt := by simpa using htx
    have hcnt := hff.2.2.2.2.1
    have hwl := hff.2.2.2.2.2
    refine r_skip ?_; refine r_then_normal ?_; refine r_sr ?_; refine r_ev rfl rfl ?_; refine r_ev rfl rfl ?_; refine r_indexAddr rfl rfl rfl rfl (by omega) ?_; refine r_fieldAddr rfl rfl ?_
    refine r_load1 rfl rfl (SlAt.cell formCells_len hx hlt' 0 rfl) ?_
    refine r_ev rfl rfl ?_; refine r_nn ?_; refine r_seq ?_; refine r_sr ?_; refine r_ev rfl rfl ?_; refine r_nn ?_; refine r_block ?_
    refine r_loop (ι := Nat) (fun k => [(1, ptr b1 0), (3, .slice (some ⟨bf, 0, none⟩) 11 11), (4, .int .i64 i), (5, str (formList[i].word ++ numsText (c.nums.take k))), (6, .int .i64 k)]) (fun _ => g1) (fun _ => [.blk b1 42 (cmdCells c sl)])
      (fun k => k ≤ c.nums.length ∧ ∀ n ∈ c.nums.take k, 0 ≤ n ∧ n ≤ 999999) (fun k => c.nums.length - k) 0 ⟨by omega, by simp⟩ ⟨rfl, rfl, rfl, lkStr rfl (by simp [numsText]), rfl, trivial⟩ rfl rfl ?_
    rintro k ⟨hkl, hall⟩
    have hnl := numsText_len _ hall
    rw [List.length_take] at hnl
    refine r_seq ?_; refine r_sr ?_; refine r_ev rfl rfl ?_; refine r_fieldAddr rfl rfl ?_; refine r_loadB1 0 rfl rfl rfl rfl ?_; refine r_len_at rfl rfl (by assumption) ?_; refine r_ev rfl rfl ?_; refine r_nn ?_
    refine r_cond rfl (fun hlt2 => ?_) (fun hlt2 => ?_)
    · have hlt3 : k < c.nums.length := by omega
      obtain ⟨bn, off, cap, rfl, hxn⟩ := hs1.held hlt3
      have hcell : g1 bn (off + k * 1) = some (.int .i64 c.nums[k]) := by rw [Nat.mul_one]; exact hxn k _ (by simp [ints, hlt3])
      have htk := List.take_succ_eq_append_getElem hlt3
      have hbad : ¬ (0 ≤ c.nums[k] ∧ c.nums[k] ≤ 999999) → fmtS c = [] := fun h => by rw [hfm, fmt_none (.inr fun h' => h (h' _ (List.getElem_mem hlt3)))]; rfl
      refine r_skip ?_; refine r_then_normal ?_; refine r_seq ?_; refine r_block ?_; refine r_seq ?_; refine r_sr ?_; refine r_fieldAddr rfl rfl ?_; refine r_loadB1 0 rfl rfl rfl rfl ?_; refine r_ev rfl rfl ?_; refine r_indexAddr rfl rfl rfl rfl (by omega) ?_
      refine r_load1 rfl rfl (rd_g1 hcell) ?_
      refine r_ev rfl rfl ?_; refine r_ev rfl rfl ?_
      refine r_gdec rfl rfl (fun ha => ?_) (fun ha => ?_)
      · refine r_pass rfl rfl rfl ?_; refine r_pass rfl rfl rfl ?_; refine r_pass rfl rfl rfl ?_; refine r_pass rfl rfl rfl ?_; refine r_pass rfl rfl rfl ?_; refine r_pass rfl rfl rfl ?_; refine r_ev rfl rfl ?_; refine r_nn ?_; refine r_cond_true rfl ?_; refine r_sr ?_; refine r_ev rfl rfl ?_; refine r_nn ?_; refine r_retc ?_; refine r_then_ret ?_; refine r_in_ret ?_; refine r_then_ret ?_; refine r_then_ret ?_; refine r_in_ret ?_; refine r_then_ret ?_; refine r_in_ret ?_; refine r_then_ret ?_; refine r_then_ret ?_; refine r_in_ret ?_; refine r_then_ret ?_
        refine r_shrink hE hg1 ?_
        exact r_ret1 [] rfl rfl (by simp) ⟨by rw [hbad (by omega)], rfl, rfl⟩
      refine r_take rfl ?_; refine r_fieldAddr rfl rfl ?_; refine r_take rfl ?_; refine r_loadB1 0 rfl rfl rfl rfl ?_; refine r_tev rfl rfl rfl ?_; refine r_take rfl ?_; refine r_indexAddr rfl rfl rfl rfl (by omega) ?_; refine r_take rfl ?_
      refine r_load1 rfl rfl (rd_g1 hcell) ?_
      refine r_tev rfl rfl rfl ?_; refine r_ev rfl rfl ?_; refine r_nn ?_
      refine r_cond rfl (fun hb => ?_) (fun hb => ?_)
      · refine r_sr ?_; refine r_ev rfl rfl ?_; refine r_nn ?_; refine r_retc ?_; refine r_then_ret ?_; refine r_in_ret ?_; refine r_then_ret ?_; refine r_then_ret ?_; refine r_in_ret ?_; refine r_then_ret ?_; refine r_in_ret ?_; refine r_then_ret ?_; refine r_then_ret ?_; refine r_in_ret ?_; refine r_then_ret ?_
        refine r_shrink hE hg1 ?_
        exact r_ret1 [] rfl rfl (by simp) ⟨by rw [hbad (by omega)], rfl, rfl⟩
      have hok : 0 ≤ c.nums[k] ∧ c.nums[k] ≤ 999999 := by omega
      have h6 := itoa_six hok
      refine r_skip ?_; refine r_then_normal ?_; refine r_region ?_; refine r_ev rfl rfl ?_; refine r_fieldAddr rfl rfl ?_; refine r_loadB1 0 rfl rfl rfl rfl ?_; refine r_ev rfl rfl ?_; refine r_indexAddr rfl rfl rfl rfl (by omega) ?_
      refine r_load1 rfl rfl (rd_g1 hcell) ?_
      skip
      refine r_callP rfl rfl (rNumber_spec g1 _ (by omega) (Nat.le_trans (dec_le _ (by omega)) (by omega))) ?_
      refine r_add_str rfl rfl rfl (by rw [List.length_singleton]; omega) ?_
      refine r_add_str rfl rfl rfl (by rw [List.length_append, List.length_append, List.length_singleton]; omega) ?_
      refine r_ev rfl rfl ?_; refine r_nil ?_; refine r_in_normal ?_; refine r_then_normal ?_; refine r_region ?_; refine r_ev rfl rfl ?_; refine r_add rfl rfl rfl (by omega) ?_; refine r_ev rfl rfl ?_; refine r_nn ?_
      refine r_again (k + 1) ⟨by omega, ?_⟩ (by omega) ⟨rfl, rfl, rfl, lkStr rfl (by rw [htk, numsText_snoc]; simp), rfl, trivial⟩ rfl rfl
      intro n hn
      rw [htk] at hn
      rcases List.mem_append.1 hn with hn | hn
      · exact hall n hn
      · rw [List.mem_singleton] at hn
        subst hn; omega
    · have hk' : k = c.nums.length := by omega
      subst hk'
      rw [List.take_length] at hall hnl ⊢
      have hfs := fmt_some hn' htx' hall
      have hto : textOf formList[i] c = formList[i].word ++ numsText c.nums ++ (if formList[i].txt then 32 :: c.text else []) := rfl
      refine r_exit ?_; refine r_then_exit ?_; refine r_then_exit ?_; refine r_in_exit ?_; refine r_then_normal ?_; refine r_seq ?_; refine r_sr ?_; refine r_ev rfl rfl ?_; refine r_ev rfl rfl ?_; refine r_indexAddr rfl rfl rfl rfl (by omega) ?_; refine r_fieldAddr rfl rfl ?_
      refine r_load1 rfl rfl (SlAt.cell formCells_len hx hlt' 3 rfl) ?_
      refine r_nn ?_
      refine r_condb rfl (fun htt => ?_) (fun htt => ?_)
      · rw [if_pos htt] at hto
        refine r_region ?_; refine r_ev rfl rfl ?_; refine r_fieldAddr rfl rfl ?_; refine r_loadB1 0 rfl rfl rfl rfl ?_
        refine r_add_str rfl rfl rfl (by rw [List.length_singleton]; omega) ?_
        refine r_add_str rfl rfl rfl (by rw [List.length_append, List.length_append, List.length_singleton]; omega) ?_
        have hto' : formList[i].word ++ numsText c.nums ++ ([32] ++ c.text) = textOf formList[i] c := by rw [hto]; simp
        rw [hto']
        refine r_ev rfl rfl ?_; refine r_nn ?_; refine r_seq ?_; refine r_sr ?_; refine r_ev rfl rfl ?_; refine r_len_str rfl rfl ?_; refine r_ev rfl rfl ?_; refine r_nn ?_
        refine r_cond rfl (fun hlen => ?_) (fun hlen => ?_)
        · refine r_sr ?_; refine r_ev rfl rfl ?_; refine r_nn ?_; refine r_retc ?_; refine r_then_ret ?_; refine r_in_ret ?_; refine r_then_ret ?_; refine r_then_ret ?_; refine r_in_ret ?_; refine r_then_ret ?_
          refine r_shrink hE hg1 ?_
          exact r_ret1 [] rfl rfl (by simp) ⟨by rw [hfm, hfs, if_neg (by omega)]; rfl, rfl, rfl⟩
        · refine r_skip ?_; refine r_then_normal ?_; refine r_sr ?_; refine r_ev rfl rfl ?_; refine r_ev rfl rfl ?_; refine r_nn ?_; refine r_retc ?_; refine r_in_ret ?_; refine r_then_ret ?_; refine r_then_ret ?_; refine r_in_ret ?_; refine r_then_ret ?_
          refine r_shrink hE hg1 ?_
          exact r_ret1 [] rfl rfl (by simp) ⟨by rw [hfm, hfs, if_pos (by omega)]; rfl, rfl, rfl⟩
      · rw [if_neg (by simp [htt]), List.append_nil] at hto
        rw [← hto]
        refine r_skip ?_; refine r_then_normal ?_; refine r_seq ?_; refine r_sr ?_; refine r_ev rfl rfl ?_; refine r_len_str rfl rfl ?_; refine r_ev rfl rfl ?_; refine r_nn ?_
        refine r_cond rfl (fun hlen => ?_) (fun hlen => ?_)
        · refine r_sr ?_; refine r_ev rfl rfl ?_; refine r_nn ?_; refine r_retc ?_; refine r_then_ret ?_; refine r_in_ret ?_; refine r_then_ret ?_; refine r_then_ret ?_; refine r_in_ret ?_; refine r_then_ret ?_
          refine r_shrink hE hg1 ?_
          exact r_ret1 [] rfl rfl (by simp) ⟨by rw [hfm, hfs, if_neg (by omega)]; rfl, rfl, rfl⟩
        · refine r_skip ?_; refine r_then_normal ?_; refine r_sr ?_; refine r_ev rfl rfl ?_; refine r_ev rfl rfl ?_; refine r_nn ?_; refine r_retc ?_; refine r_in_ret ?_; refine r_then_ret ?_; refine r_then_ret ?_; refine r_in_ret ?_; refine r_then_ret ?_
          refine r_shrink hE hg1 ?_
          exact r_ret1 [] rfl rfl (by simp) ⟨by rw [hfm, hfs, if_pos (by omega)]; rfl, rfl, rfl⟩
  · have hn := kind_none fun j hj => hno j hj (by simp only [formList, List.length_cons, List.length_nil] at hj; omega)
    refine r_exit ?_; refine r_then_exit ?_; refine r_then_exit ?_; refine r_in_exit ?_; refine r_then_normal ?_; refine r_sr ?_; refine r_ev rfl rfl ?_; refine r_nn ?_; refine r_retc ?_
    refine r_shrink hE hg1 ?_
    exact r_ret1 [] rfl rfl (by simp) ⟨by unfold fmtS formatCmd; rw [hn]; rfl, rfl, rfl⟩
theorem rFormat_spec (g : Ghost) (c : Cmd) (cv : Value) (hc : CmdAt g cv c) (ht : c.text.length ≤ 1000000) :
    Pure Tryd.prog 32 [cv] g (str (fmtS c)) := by
  have hc' := hc
  obtain ⟨sl, rfl, h1, hs⟩ := hc'
  refine spec_of_run Tryd.func32 rfl Tryd.ntmps32 rfl fun E hE => ?_
  refine r_sr ?_; refine r_box rfl rfl rfl (fun b => ?_); refine r_ev rfl rfl ?_; refine r_nn ?_; refine r_sr ?_; refine r_loadB 0 rfl rfl rfl (by rfl) ?_
  refine r_callP rfl rfl (rformat_spec g c _ hc ht) ?_
  refine r_ev rfl rfl ?_; refine r_nn ?_; refine r_retc ?_
  exact r_ret1 [] rfl rfl (by simp) ⟨rfl, rfl, rfl⟩
theorem fmtS_some (c : Cmd) : decide (fmtS c ≠ []) = (formatCmd c).isSome := by
  unfold fmtS
  cases h : formatCmd c with
  | none => rfl
  | some t => have := fmt_ne h; simp [this]
theorem rValid_spec (g : Ghost) (c : Cmd) (cv : Value) (hc : CmdAt g cv c) (ht : c.text.length ≤ 1000000) :
    Pure Tryd.prog 31 [cv] g (.bool (formatCmd c).isSome) := by
  have hc' := hc
  obtain ⟨sl, rfl, h1, hs⟩ := hc'
  refine spec_of_run Tryd.func31 rfl Tryd.ntmps31 rfl fun E hE => ?_
  refine r_sr ?_; refine r_box rfl rfl rfl (fun b => ?_); refine r_ev rfl rfl ?_; refine r_nn ?_; refine r_sr ?_; refine r_loadB 0 rfl rfl rfl (by rfl) ?_
  refine r_callP rfl rfl (rformat_spec g c _ hc ht) ?_
  refine r_ev rfl rfl ?_; refine r_ev rfl rfl ?_; refine r_nn ?_; refine r_retc ?_
  exact r_ret1 [] rfl rfl (by simp) ⟨by rw [fmtS_some], rfl, rfl⟩
theorem same_spec (g : Ghost) (a : Cmd) (u v : Value) (ha : CmdAt g u a) (hb : CmdAt g v a) : Pure Tryd.prog 28 [u, v] g (.bool true) := by
  obtain ⟨sl, rfl, h1, hs⟩ := ha
  obtain ⟨sl', rfl, h1', hs'⟩ := hb
  have hle := hs.le
  refine spec_of_run Tryd.func28 rfl Tryd.ntmps28 rfl fun E hE => ?_
  refine r_sr ?_
  refine r_box rfl rfl rfl (fun b2 => ?_)
  refine r_box rfl rfl rfl (fun b3 => ?_)
  refine r_ev rfl rfl ?_; refine r_nn ?_; refine r_seq ?_; refine r_sr ?_; refine r_fieldAddr rfl rfl ?_; refine r_loadB1 1 rfl rfl rfl rfl ?_; refine r_fieldAddr rfl rfl ?_; refine r_loadB1 0 rfl rfl rfl rfl ?_; refine r_ev rfl rfl ?_; refine r_ev rfl rfl ?_
  refine r_gdec rfl rfl (fun h => absurd rfl h) (fun _ => ?_)
  refine r_take rfl ?_; refine r_fieldAddr rfl rfl ?_; refine r_take rfl ?_; refine r_loadB1 1 rfl rfl rfl rfl ?_; refine r_take rfl ?_; refine r_fieldAddr rfl rfl ?_; refine r_take rfl ?_; refine r_loadB1 0 rfl rfl rfl rfl ?_; refine r_tev rfl rfl rfl ?_; refine r_ev rfl rfl ?_; refine r_ev rfl rfl ?_
  refine r_gdec rfl rfl (fun h => absurd rfl h) (fun _ => ?_)
  refine r_take rfl ?_; refine r_fieldAddr rfl rfl ?_; refine r_take rfl ?_; refine r_loadB1 1 rfl rfl rfl rfl ?_; refine r_take rfl ?_; refine r_len_at rfl rfl (by assumption) ?_; refine r_take rfl ?_; refine r_fieldAddr rfl rfl ?_; refine r_take rfl ?_; refine r_loadB1 0 rfl rfl rfl rfl ?_; refine r_take rfl ?_; refine r_len_at rfl rfl (by assumption) ?_; refine r_tev rfl rfl rfl ?_; refine r_ev rfl rfl ?_; refine r_nn ?_
  refine r_cond rfl (fun h => absurd rfl h) (fun _ => ?_)
  refine r_skip ?_; refine r_then_normal ?_; refine r_seq ?_; refine r_sr ?_; refine r_ev rfl rfl ?_; refine r_nn ?_; refine r_block ?_
  refine r_loop (ι := Nat) (fun k => [(2, ptr b2 0), (3, ptr b3 0), (5, .int .i64 k)]) (fun _ => g) (fun _ => [.blk b3 42 (cmdCells a sl'), .blk b2 42 (cmdCells a sl)]) (fun k => k ≤ a.nums.length) (fun k => a.nums.length - k) 0 (by omega) ⟨rfl, rfl, rfl, trivial⟩ rfl rfl ?_
  intro k hk
  refine r_seq ?_; refine r_sr ?_; refine r_ev rfl rfl ?_; refine r_fieldAddr rfl rfl ?_; refine r_loadB1 1 rfl rfl rfl rfl ?_; refine r_len_at rfl rfl (by assumption) ?_; refine r_ev rfl rfl ?_; refine r_nn ?_
  refine r_cond rfl (fun hlt => ?_) (fun hlt => ?_)
  · have hlt' : k < a.nums.length := by omega
    obtain ⟨bn, off, cap, rfl, hxn⟩ := hs.held hlt'
    obtain ⟨bn', off', cap', rfl, hxn'⟩ := hs'.held hlt'
    have hcell : g bn (off + k * 1) = some (.int .i64 a.nums[k]) := by rw [Nat.mul_one]; exact hxn k _ (by simp [ints, hlt'])
    have hcell' : g bn' (off' + k * 1) = some (.int .i64 a.nums[k]) := by rw [Nat.mul_one]; exact hxn' k _ (by simp [ints, hlt'])
    refine r_skip ?_; refine r_then_normal ?_; refine r_seq ?_; refine r_block ?_; refine r_seq ?_
    refine r_qregion mixed (by kernel_rfl) ?_
    refine q_v rfl (val_fieldAddr rfl) ?_; refine q_v rfl (val_loadB1 1 rfl rfl rfl) ?_; refine q_ev rfl rfl ?_; refine q_v rfl (val_indexAddr rfl rfl rfl (by omega)) ?_
    refine q_v rfl (val_load1 rfl (rd_g1 hcell)) ?_
    refine q_v rfl (val_fieldAddr rfl) ?_; refine q_v rfl (val_loadB1 0 rfl rfl rfl) ?_; refine q_ev rfl rfl ?_; refine q_v rfl (val_indexAddr rfl rfl rfl (by omega)) ?_
    refine q_v rfl (val_load1 rfl (rd_g1 hcell')) ?_
    refine q_ev rfl rfl ?_; refine q_end ?_; refine r_then_normal ?_
    refine r_cond rfl (fun h => absurd rfl h) (fun _ => ?_)
    refine r_skip ?_; refine r_in_normal ?_; refine r_then_normal ?_; refine r_region ?_; refine r_ev rfl rfl ?_; refine r_add rfl rfl rfl (by omega) ?_; refine r_ev rfl rfl ?_; refine r_nn ?_
    exact r_again (k + 1) (by omega) (by omega) ⟨rfl, rfl, rfl, trivial⟩ rfl rfl
  · refine r_exit ?_; refine r_then_exit ?_; refine r_then_exit ?_; refine r_in_exit ?_; refine r_then_normal ?_; refine r_sr ?_; refine r_ev rfl rfl ?_; refine r_nn ?_; refine r_retc ?_
    exact r_ret1 [] rfl rfl (by simp) ⟨rfl, rfl, rfl⟩
end Go.Proofs.YtogmbpepdemdkaaDoor

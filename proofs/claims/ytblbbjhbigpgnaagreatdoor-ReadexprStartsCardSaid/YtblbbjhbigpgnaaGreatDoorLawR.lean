/- The walk of ReadexprStarts. -/
import Derived.Test.YtblbbjhbigpgnaaGreatDoorK4
namespace Go.Proofs.YtblbbjhbigpgnaaGreatDoor
open Go Go.Eng Go.Th Go.Proofs
set_option maxRecDepth 10000
set_option maxHeartbeats 4000000
attribute [local irreducible] wpList Code.wp Run bodyPost Go.Eng.Ends Exit.then Exit.inBlock Again Wq Kq
theorem ReadexprStarts_spec (g : Ghost) (hg : ErrT g) (kd : Int) (_hk : -9223372036854775808 ≤ kd ∧ kd ≤ 9223372036854775807) (pc : Int) (_hp : -9223372036854775808 ≤ pc ∧ pc ≤ 9223372036854775807) (s : Bytes) (hs : s.length ≤ 9223372036854775807) :
    Pure Tryz.prog 4 [.int .i64 kd, .int .i64 pc, str s] g (.bool true) := by
  refine spec_of_run Tryz.func4 rfl Tryz.ntmps4 rfl fun E hE => ?_
  refine r_sr ?_
  refine r_ev rfl rfl ?_; refine r_nn ?_; refine r_seq ?_; refine r_sr ?_
  refine r_callN rfl rfl (first6_spec g hg) ?_
  rintro _ g1 rfl hle1
  refine r_ev rfl rfl ?_; refine r_nn ?_; refine r_cond_false rfl ?_; refine r_skip ?_; refine r_then_normal ?_; refine r_seq ?_; refine r_sr ?_; refine r_ev rfl rfl ?_; refine r_len_str rfl rfl ?_; refine r_ev rfl rfl ?_; refine r_nn ?_
  refine r_cond rfl (fun h20 => ?_) (fun h20 => ?_)
  · refine r_shrink hE hle1 ?_
    refine r_sr ?_; refine r_ev rfl rfl ?_; refine r_nn ?_; refine r_retc ?_; refine r_then_ret ?_
    exact r_ret1 [] rfl rfl (by simp) ⟨rfl, rfl, rfl⟩
  refine r_skip ?_; refine r_then_normal ?_; refine r_seq ?_; refine r_sr ?_; refine r_ev rfl rfl ?_
  refine r_buildSlice rfl rfl (by rfl) (by rfl) (by rfl) (by rfl) (by rfl) (fun b15 => ?_)
  refine r_publishRow (fun g2 hle2 hs15 => ?_)
  refine r_call' (lent := []) (kept := _) rfl rfl (List.Perm.refl _) (words6_row g2 _ [pc] (by simp) hs15) ?_
  rintro w g3 own' ⟨rfl, rfl⟩ _
  refine r_rowForm 0 rfl ?_
  rintro ⟨wa, wm, wc, rfl⟩
  have hTB := toksOf_TB (words6 [pc])
  have hlen := (toksOf_facts (words6 [pc])).1
  generalize toksOf (words6 [pc]) = l at hTB hlen
  refine r_ev rfl rfl ?_; refine r_ev rfl rfl ?_; refine r_build rfl rfl (by rfl) ?_; refine r_ev rfl rfl ?_
  refine r_callP rfl rfl (Mod_spec g3 kd 6 (by omega)) ?_
  generalize hk6 : modI kd 6 = k6
  refine r_build rfl rfl (by rfl) ?_; refine r_ev rfl rfl ?_
  refine r_callP rfl rfl (Mod_spec g3 kd 6 (by omega)) ?_
  rw [hk6]
  refine r_build rfl rfl (by rfl) ?_
  refine r_buildSlice rfl rfl (by rfl) (by rfl) (by rfl) (by rfl) (by rfl) (fun b23 => ?_)
  refine r_appendRow 1 0 rfl rfl rfl rfl rfl (by rfl) (by rfl) rfl (by unfold maxLen; omega) (by omega) (fun v' _ => ?_)
  refine r_drop (own' := [_]) (.cons _ (List.Sublist.refl _)) ?_
  refine r_publishRow (fun g4 hle4 hs4 => ?_)
  have hs4' : ToksAt g4 v' (l ++ [⟨kd, s, 0⟩, ⟨k6, [63], 0⟩, ⟨k6, [123], 0⟩]) := by
    have : (l ++ [(⟨kd, s, 0⟩ : Tok), ⟨k6, [63], 0⟩, ⟨k6, [123], 0⟩]).flatMap tokCells = l.flatMap tokCells ++ [.int .i64 kd, str s, .int .i64 0, .int .i64 k6, str [63], .int .i64 0, .int .i64 k6, str [123], .int .i64 0] := by rw [List.flatMap_append]; rfl
    show SlAt g4 3 v' (l ++ [(⟨kd, s, 0⟩ : Tok), ⟨k6, [63], 0⟩, ⟨k6, [123], 0⟩]).length _
    rw [this, List.length_append]
    exact hs4
  have hbd : ∀ t ∈ l ++ [(⟨kd, s, 0⟩ : Tok), ⟨k6, [63], 0⟩, ⟨k6, [123], 0⟩], t.text.length ≤ 1000000 := by
    intro t ht
    rcases List.mem_append.1 ht with h | h
    · exact (hTB.2 t h).2.2
    · simp only [List.mem_cons, List.not_mem_nil, or_false] at h
      rcases h with rfl | rfl | rfl
      · show s.length ≤ 1000000; omega
      · simp
      · simp
  have hL : (l ++ [(⟨kd, s, 0⟩ : Tok), ⟨k6, [63], 0⟩, ⟨k6, [123], 0⟩]).length ≤ 4003 := by rw [List.length_append]; simp; omega
  generalize l ++ [(⟨kd, s, 0⟩ : Tok), ⟨k6, [63], 0⟩, ⟨k6, [123], 0⟩] = q at hs4' hbd hL
  obtain ⟨qa, qc, rfl⟩ := slForm2 hs4'
  refine r_len_sl rfl rfl ?_; refine r_ev rfl rfl ?_; refine r_nn ?_; refine r_block ?_
  have hle14 := Ghost.le_trans hle1 (Ghost.le_trans hle2 hle4)
  refine r_loop (ι := Nat) (fun k => [(27, .slice qa q.length qc), (28, .int .i64 q.length), (29, .int .i64 k)]) (fun _ => g4) (fun _ => []) (fun k => k ≤ q.length) (fun k => q.length - k) 0 (by omega) ⟨rfl, rfl, rfl, trivial⟩ rfl rfl ?_
  intro k hk
  refine r_sr ?_; refine r_ev rfl rfl ?_; refine r_nn ?_; refine r_seq ?_
  refine r_cond rfl (fun hlt => ?_) (fun hlt => ?_)
  · have hlt' : k < q.length := by omega
    have ht := hbd _ (List.getElem_mem hlt')
    obtain ⟨b0, off, cap, hsl, hx⟩ := hs4'.held hlt'
    cases hsl
    refine r_skip ?_; refine r_then_normal ?_; refine r_seq ?_; refine r_block ?_; refine r_sr ?_; refine r_indexAddr rfl rfl rfl rfl (by omega) ?_
    refine r_load rfl rfl (vs := tokCells q[k]) (toks_rd hx hlt') rfl ?_
    skip
    refine r_alloc rfl (fun b8 => ?_)
    refine r_storeA 0 rfl rfl rfl rfl (by rfl) (by repeat' (first | exact rfl | assumption | refine all_cons ?_ ?_)) rfl ?_; refine r_nn ?_; refine r_seq ?_
    -- STOP2
    refine h_beginE [] mixed (fun hG => ?_)
    refine h_takeX 0 rfl (by kernel_rfl) rfl hG (by first | exact Ghost.le_refl _ | assumption) (by repeat' (first | exact List.nil_sublist _ | refine List.Sublist.cons_cons _ ?_ | refine List.Sublist.cons _ ?_)) ?_; refine ⟨_, (val_loadB 0 rfl rfl (by rfl)), ?_⟩
    refine h_one 1 (by kernel_rfl) rfl ?_
    refine r_callP rfl rfl (Valid_spec g4 q[k] (by omega)) ?_
    refine r_nn ?_
    refine h_kept hG (by first | exact Ghost.le_refl _ | assumption) (by repeat' (first | exact List.nil_sublist _ | refine List.Sublist.cons_cons _ ?_ | refine List.Sublist.cons _ ?_)) ?_
    cases hv : validTok q[k] with
    | false =>
      refine h_takeX 2 rfl (by kernel_rfl) rfl hG (by first | exact Ghost.le_refl _ | assumption) (by repeat' (first | exact List.nil_sublist _ | refine List.Sublist.cons_cons _ ?_ | refine List.Sublist.cons _ ?_)) ?_; refine ⟨_, (val_ev rfl), ?_⟩; refine h_pass 3 rfl rfl rfl (by kernel_rfl) rfl hG (by first | exact Ghost.le_refl _ | assumption) (by repeat' (first | exact List.nil_sublist _ | refine List.Sublist.cons_cons _ ?_ | refine List.Sublist.cons _ ?_)) ?_; refine h_pass 4 rfl rfl rfl (by kernel_rfl) rfl hG (by first | exact Ghost.le_refl _ | assumption) (by repeat' (first | exact List.nil_sublist _ | refine List.Sublist.cons_cons _ ?_ | refine List.Sublist.cons _ ?_)) ?_; refine h_pass 5 rfl rfl rfl (by kernel_rfl) rfl hG (by first | exact Ghost.le_refl _ | assumption) (by repeat' (first | exact List.nil_sublist _ | refine List.Sublist.cons_cons _ ?_ | refine List.Sublist.cons _ ?_)) ?_; refine h_pass 6 rfl rfl rfl (by kernel_rfl) rfl hG (by first | exact Ghost.le_refl _ | assumption) (by repeat' (first | exact List.nil_sublist _ | refine List.Sublist.cons_cons _ ?_ | refine List.Sublist.cons _ ?_)) ?_; refine h_pass 7 rfl rfl rfl (by kernel_rfl) rfl hG (by first | exact Ghost.le_refl _ | assumption) (by repeat' (first | exact List.nil_sublist _ | refine List.Sublist.cons_cons _ ?_ | refine List.Sublist.cons _ ?_)) ?_; refine h_takeX 8 rfl (by kernel_rfl) rfl hG (by first | exact Ghost.le_refl _ | assumption) (by repeat' (first | exact List.nil_sublist _ | refine List.Sublist.cons_cons _ ?_ | refine List.Sublist.cons _ ?_)) ?_; refine ⟨_, (val_ev rfl), ?_⟩
      refine h_done (by kernel_rfl) ?_
      refine r_then_normal ?_; refine r_cond_false rfl ?_; refine r_skip ?_; refine r_in_normal ?_; refine r_then_normal ?_; refine r_region ?_; refine r_add rfl rfl rfl (by omega) ?_; refine r_ev rfl rfl ?_; refine r_nn ?_
      refine r_drop (own' := []) (.cons _ (List.Sublist.refl _)) ?_
      exact r_again (k + 1) (by omega) (by omega) ⟨rfl, rfl, rfl, trivial⟩ rfl rfl
    | true =>
      refine h_takeX 2 rfl (by kernel_rfl) rfl hG (by first | exact Ghost.le_refl _ | assumption) (by repeat' (first | exact List.nil_sublist _ | refine List.Sublist.cons_cons _ ?_ | refine List.Sublist.cons _ ?_)) ?_; refine ⟨_, (val_ev rfl), ?_⟩; refine h_takeGX 3 rfl rfl (by kernel_rfl) rfl hG (by first | exact Ghost.le_refl _ | assumption) (by repeat' (first | exact List.nil_sublist _ | refine List.Sublist.cons_cons _ ?_ | refine List.Sublist.cons _ ?_)) ?_; refine ⟨_, (val_loadB 0 rfl rfl (by rfl)), ?_⟩
      refine h_takeGX 5 rfl rfl (by kernel_rfl) rfl hG (by first | exact Ghost.le_refl _ | assumption) (by repeat' (first | exact List.nil_sublist _ | refine List.Sublist.cons_cons _ ?_ | refine List.Sublist.cons _ ?_)) ?_; refine ⟨_, (val_loadB 0 rfl rfl (by rfl)), ?_⟩
      refine h_one 4 (by kernel_rfl) rfl ?_
      refine r_take rfl ?_
      refine r_callP rfl rfl (estarts_spec g4 q[k]) ?_
      refine r_nn ?_
      refine h_kept hG (by first | exact Ghost.le_refl _ | assumption) (by repeat' (first | exact List.nil_sublist _ | refine List.Sublist.cons_cons _ ?_ | refine List.Sublist.cons _ ?_)) ?_
      refine h_one 6 (by kernel_rfl) rfl ?_
      refine r_take rfl ?_
      refine r_callP rfl rfl (startsE6_spec g4 q[k]) ?_
      refine r_nn ?_
      refine h_kept hG (by first | exact Ghost.le_refl _ | assumption) (by repeat' (first | exact List.nil_sublist _ | refine List.Sublist.cons_cons _ ?_ | refine List.Sublist.cons _ ?_)) ?_
      cases hst : startsE q[k] with
      | false =>
        refine h_takeGX 7 rfl rfl (by kernel_rfl) rfl hG (by first | exact Ghost.le_refl _ | assumption) (by repeat' (first | exact List.nil_sublist _ | refine List.Sublist.cons_cons _ ?_ | refine List.Sublist.cons _ ?_)) ?_; refine ⟨_, (val_neq_bool rfl rfl (by kernel_rfl)), ?_⟩; refine h_takeX 8 rfl (by kernel_rfl) rfl hG (by first | exact Ghost.le_refl _ | assumption) (by repeat' (first | exact List.nil_sublist _ | refine List.Sublist.cons_cons _ ?_ | refine List.Sublist.cons _ ?_)) ?_; refine ⟨_, (val_ev rfl), ?_⟩
        refine h_done (by kernel_rfl) ?_
        refine r_then_normal ?_; refine r_cond_false rfl ?_; refine r_skip ?_; refine r_in_normal ?_; refine r_then_normal ?_; refine r_region ?_; refine r_add rfl rfl rfl (by omega) ?_; refine r_ev rfl rfl ?_; refine r_nn ?_
        refine r_drop (own' := []) (.cons _ (List.Sublist.refl _)) ?_
        exact r_again (k + 1) (by omega) (by omega) ⟨rfl, rfl, rfl, trivial⟩ rfl rfl
      | true =>
        refine h_takeGX 7 rfl rfl (by kernel_rfl) rfl hG (by first | exact Ghost.le_refl _ | assumption) (by repeat' (first | exact List.nil_sublist _ | refine List.Sublist.cons_cons _ ?_ | refine List.Sublist.cons _ ?_)) ?_; refine ⟨_, (val_neq_bool rfl rfl (by kernel_rfl)), ?_⟩; refine h_takeX 8 rfl (by kernel_rfl) rfl hG (by first | exact Ghost.le_refl _ | assumption) (by repeat' (first | exact List.nil_sublist _ | refine List.Sublist.cons_cons _ ?_ | refine List.Sublist.cons _ ?_)) ?_; refine ⟨_, (val_ev rfl), ?_⟩
        refine h_done (by kernel_rfl) ?_
        refine r_then_normal ?_; refine r_cond_false rfl ?_; refine r_skip ?_; refine r_in_normal ?_; refine r_then_normal ?_; refine r_region ?_; refine r_add rfl rfl rfl (by omega) ?_; refine r_ev rfl rfl ?_; refine r_nn ?_
        refine r_drop (own' := []) (.cons _ (List.Sublist.refl _)) ?_
        exact r_again (k + 1) (by omega) (by omega) ⟨rfl, rfl, rfl, trivial⟩ rfl rfl
  · refine r_exit ?_; refine r_then_exit ?_; refine r_then_exit ?_; refine r_in_exit ?_; refine r_then_normal ?_; refine r_sr ?_; refine r_ev rfl rfl ?_; refine r_nn ?_; refine r_retc ?_
    refine r_shrink hE hle14 ?_
    skip
    exact r_ret1 [] rfl rfl (by simp) ⟨rfl, rfl, rfl⟩
end Go.Proofs.YtblbbjhbigpgnaaGreatDoor
-- sum 1b15c6b3f1a8f86b

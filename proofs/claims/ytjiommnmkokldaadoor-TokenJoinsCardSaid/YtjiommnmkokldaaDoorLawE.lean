/- The walk of TokenSpaces. -/
import Derived.Test.YtjiommnmkokldaaDoorLawC
import Derived.Test.YtjiommnmkokldaaDoorPlainC
namespace Go.Proofs.YtjiommnmkokldaaDoor
open Go Go.Eng Go.Th Go.Proofs
set_option maxRecDepth 10000
attribute [local irreducible] wpList Code.wp Run bodyPost Go.Eng.Ends Exit.then Exit.inBlock Again Wq Kq
def whites : List Bytes := [[32], [10], [9, 32, 13], [32, 35, 32, 120, 32, 45, 62, 32, 52, 120, 10], [10, 10], [35, 10]]
theorem whites_gap : ∀ u ∈ whites, Gap u ∧ u.length ≤ 11 := by
  intro u hu
  simp only [whites, List.mem_cons, List.not_mem_nil, or_false] at hu
  rcases hu with rfl | rfl | rfl | rfl | rfl | rfl
  · exact ⟨⟨passes_white (by decide) passes_nil, _, _, rfl, by decide⟩, by decide⟩
  · exact ⟨⟨passes_white (by decide) passes_nil, _, _, rfl, by decide⟩, by decide⟩
  · exact ⟨⟨passes_white (by decide) (passes_white (by decide) (passes_white (by decide) passes_nil)), _, _, rfl, by decide⟩, by decide⟩
  · exact ⟨⟨passes_white (by decide) (passes_comment (u := [32, 120, 32, 45, 62, 32, 52, 120]) (v := []) (by decide) passes_nil), _, _, rfl, by decide⟩, by decide⟩
  · exact ⟨⟨passes_white (by decide) (passes_white (by decide) passes_nil), _, _, rfl, by decide⟩, by decide⟩
  · exact ⟨⟨passes_comment (u := []) (v := []) (by decide) passes_nil, _, _, rfl, by decide⟩, by decide⟩
def PairsOk (ps : List (Bytes × Bytes)) : Prop := ∀ p ∈ ps, Gap p.1 ∧ kindOf p.2 ≠ 0 ∧ p.1.length ≤ 11 ∧ p.2.length ≤ 14
theorem back_len : ∀ (ps : List (Bytes × Bytes)), PairsOk ps → (back (ps.map (·.2))).length ≤ 15 * ps.length ∧ (front ps).length ≤ 25 * ps.length
  | [], _ => by simp [back, front]
  | p :: ps, h => by
    have hp := h p (List.mem_cons_self ..)
    have ih := back_len ps (fun x hx => h x (List.mem_cons_of_mem _ hx))
    simp only [back, front, List.map_cons, List.flatMap_cons, List.length_append, List.length_cons, List.length_nil] at ih ⊢
    omega
theorem back_snoc (ps : List (Bytes × Bytes)) (p : Bytes × Bytes) : back ((ps ++ [p]).map (·.2)) = back (ps.map (·.2)) ++ p.2 ++ [32] := by simp [back]
theorem front_snoc (ps : List (Bytes × Bytes)) (p : Bytes × Bytes) : front (ps ++ [p]) = front ps ++ p.1 ++ p.2 := by simp [front]
theorem same_kt {a b : List Tok} (h : kt a = kt b) : sameT a b false = true := by
  have hl : a.length = b.length := by have := congrArg List.length h; simpa [kt] using this
  simp only [sameT, hl, decide_true, Bool.true_and]
  exact kt_same h
theorem scan_facts {s : Bytes} {ws : List (Int × Bytes)} (hs : s.length ≤ 4000) (h : okKt (scanFrom 0 s) ws) : errOf s = 0 ∧ kt (toksOf s) = ws := by
  obtain ⟨l, h1, h2⟩ := scan_okKt hs h
  simp [errOf, toksOf, h1, h2]
set_option maxHeartbeats 4000000 in
theorem TokenSpaces_spec (g : Ghost) (v : Value) (l : List Int) (hs : SlAt g 1 v l.length (ints l)) (_hw : ∀ n ∈ l, -9223372036854775808 ≤ n ∧ n ≤ 9223372036854775807)
    (u : Value) (l2 : List Int) (hs2 : SlAt g 1 u l2.length (ints l2)) (_hw2 : ∀ n ∈ l2, -9223372036854775808 ≤ n ∧ n ≤ 9223372036854775807) : Pure Tryd.prog 9 [v, u] g (.bool true) := by
  refine spec_of_run Tryd.func9 rfl Tryd.ntmps9 rfl fun E hE => ?_
  refine r_sr ?_; refine r_ev rfl rfl ?_; refine r_nn ?_; refine r_seq ?_; refine r_sr ?_
  refine r_callP rfl rfl (tfirst_spec g) ?_
  refine r_ev rfl rfl ?_; refine r_nn ?_; refine r_cond_false rfl ?_; refine r_skip ?_; refine r_then_normal ?_; refine r_seq ?_; refine r_sr ?_; refine r_ev rfl rfl ?_
  refine r_len_at rfl rfl hs ?_
  refine r_ev rfl rfl ?_; refine r_ev rfl rfl ?_
  refine r_gdec rfl rfl (fun h60 => ?_) (fun h60 => ?_)
  · refine r_pass rfl rfl rfl ?_; refine r_pass rfl rfl rfl ?_; refine r_pass rfl rfl rfl ?_; refine r_ev rfl rfl ?_; refine r_nn ?_; refine r_cond_true rfl ?_; refine r_sr ?_; refine r_ev rfl rfl ?_; refine r_nn ?_; refine r_retc ?_; refine r_then_ret ?_
    exact r_ret1 [] rfl rfl (by simp) ⟨rfl, rfl, rfl⟩
  · refine r_tev rfl rfl rfl ?_; refine r_take rfl ?_
    refine r_len_at rfl rfl hs2 ?_
    refine r_tev rfl rfl rfl ?_; refine r_ev rfl rfl ?_; refine r_nn ?_
    refine r_cond rfl (fun h602 => ?_) (fun h602 => ?_)
    · refine r_sr ?_; refine r_ev rfl rfl ?_; refine r_nn ?_; refine r_retc ?_; refine r_then_ret ?_
      exact r_ret1 [] rfl rfl (by simp) ⟨rfl, rfl, rfl⟩
    · refine r_skip ?_; refine r_then_normal ?_; refine r_sr ?_
      refine r_buildSlice rfl rfl (by rfl) (by rfl) (by rfl) (by rfl) (by rfl) (fun bt => ?_)
      refine r_ev rfl rfl ?_; refine r_nn ?_; refine r_sr ?_; refine r_ev rfl rfl ?_; refine r_ev rfl rfl ?_; refine r_ev rfl rfl ?_; refine r_nn ?_; refine r_seq ?_; refine r_sr ?_; refine r_ev rfl rfl ?_; refine r_nn ?_; refine r_block ?_
      refine r_loop (ι := Nat × List (Bytes × Bytes)) (fun p => [(0, v), (1, u), (5, .slice (some ⟨bt, 0, none⟩) 6 6), (6, str (back (p.2.map (·.2)))), (7, str (front p.2)), (8, .int .i64 p.2.length), (9, .int .i64 p.1)]) (fun _ => g) (fun _ => [.row 9 1 (.slice (some ⟨bt, 0, none⟩) 6 6) 6 (whites.map str)])
        (fun p => p.1 ≤ l.length ∧ p.2.length ≤ p.1 ∧ PairsOk p.2) (fun p => l.length - p.1) (0, []) ⟨by simp, by simp, fun _ h => by cases h⟩ ⟨rfl, rfl, rfl, rfl, rfl, rfl, rfl, trivial⟩ rfl rfl ?_
      rintro ⟨i, ps⟩ ⟨hi, hpi, hok⟩
      simp only at hi hpi hok
      show Run E _ [(0, v), (1, u), (5, .slice (some ⟨bt, 0, none⟩) 6 6), (6, str (back (ps.map (·.2)))), (7, str (front ps)), (8, .int .i64 ps.length), (9, .int .i64 i)] g [.row 9 1 (.slice (some ⟨bt, 0, none⟩) 6 6) 6 (whites.map str)] _
      obtain ⟨hbl, hfl⟩ := back_len ps hok
      refine r_seq ?_; refine r_sr ?_; refine r_ev rfl rfl ?_; refine r_ev rfl rfl ?_
      refine r_len_at rfl rfl hs ?_
      refine r_ev rfl rfl ?_; refine r_nn ?_
      refine r_cond rfl (fun hlt => ?_) (fun hlt => ?_)
      · have hlt' : i < l.length := by omega
        have hwl := lword_len l[i]
        obtain ⟨b1, off1, cap1, rfl, hx1⟩ := hs.held hlt'
        refine r_skip ?_; refine r_then_normal ?_; refine r_seq ?_; refine r_block ?_; refine r_sr ?_; refine r_ev rfl rfl ?_; refine r_ev rfl rfl ?_
        refine r_indexAddr (j := i) rfl rfl rfl rfl hlt' ?_
        refine r_load1 rfl rfl (v := .int .i64 l[i]) (rd_g1 (hx1 (i * 1) _ (by simp [ints, hlt']))) ?_
        skip
        refine r_callP rfl rfl (lword_spec g _) ?_
        refine r_ev rfl rfl ?_; refine r_nn ?_; refine r_seq ?_; refine r_sr ?_; refine r_ev rfl rfl ?_
        refine r_callP rfl rfl (Kind_spec g _ (by omega)) ?_
        refine r_ev rfl rfl ?_; refine r_nn ?_
        refine r_cond rfl (fun hk => ?_) (fun hk => ?_)
        · refine r_exit ?_; refine r_then_exit ?_; refine r_in_exit ?_; refine r_then_normal ?_; refine r_region ?_; refine r_ev rfl rfl ?_
          refine r_add rfl rfl rfl (by omega) ?_
          refine r_ev rfl rfl ?_; refine r_nn ?_
          exact r_again (i + 1, ps) ⟨by simp; omega, by simp; omega, hok⟩ (by simp; omega) ⟨rfl, rfl, rfl, rfl, rfl, rfl, rfl, trivial⟩ rfl rfl
        · refine r_skip ?_; refine r_then_normal ?_; refine r_sr ?_; refine r_ev rfl rfl ?_; refine r_ev rfl rfl ?_; refine r_nn ?_; refine r_seq ?_; refine r_sr ?_; refine r_ev rfl rfl ?_; refine r_ev rfl rfl ?_
          refine r_len_at rfl rfl hs2 ?_
          refine r_ev rfl rfl ?_; refine r_nn ?_
          refine r_cond rfl (fun h3 => ?_) (fun h3 => ?_)
          · have hlt2 : i < l2.length := by omega
            obtain ⟨b3, off3, cap3, rfl, hx3⟩ := hs2.held hlt2
            refine r_region ?_; refine r_ev rfl rfl ?_; refine r_ev rfl rfl ?_
            refine r_indexAddr (j := i) rfl rfl rfl rfl hlt2 ?_
            refine r_load1 rfl rfl (v := .int .i64 l2[i]) (rd_g1 (hx3 (i * 1) _ (by simp [ints, hlt2]))) ?_
            refine r_ev rfl rfl ?_; refine r_nn ?_
            refine r_qregion mixed (by kernel_rfl) ?_
            refine q_ev rfl rfl ?_; refine q_ev rfl rfl ?_
            refine q_v rfl (val_add_str rfl rfl (by omega)) ?_
            skip
            refine q_v rfl (val_add_str rfl rfl (by rw [List.length_append]; simp; omega)) ?_
            refine q_ev rfl rfl ?_; refine q_ev rfl rfl ?_; refine q_ev rfl rfl ?_; refine q_ev rfl rfl ?_; refine q_v rfl (val_len_sl rfl) ?_
            refine q_callP rfl rfl (Mod_spec g l2[i] 6 (by omega)) ?_
            skip
            obtain ⟨j, hj, hj6⟩ : ∃ j : Nat, modI (l2[i]) 6 = j ∧ j < 6 := ⟨(modI (l2[i]) 6).toNat, by unfold modI; rw [if_neg (by omega)]; omega, by unfold modI; rw [if_neg (by omega)]; omega⟩
            rw [hj]
            have hjl : j < whites.length := hj6
            have hgap := whites_gap _ (List.getElem_mem hjl)
            refine q_v rfl (val_indexAddr (j := j) rfl rfl rfl hj6) ?_
            refine q_v rfl (val_load1 rfl (v := str whites[j]) (rd_row1 0 rfl (by rw [show 0 + j * 1 = j by omega, List.getElem?_map, List.getElem?_eq_getElem hjl]; rfl))) ?_
            skip
            refine q_v rfl (val_add_str rfl rfl (by omega)) ?_
            refine q_ev rfl rfl ?_
            refine q_v rfl (val_add_str rfl rfl (by rw [List.length_append]; omega)) ?_
            refine q_ev rfl rfl ?_
            refine q_v rfl (val_add rfl rfl (by omega)) ?_
            refine q_ev rfl rfl ?_; refine q_ev rfl rfl ?_; refine q_ev rfl rfl ?_; refine q_end ?_; refine r_in_normal ?_; refine r_then_normal ?_; refine r_region ?_; refine r_ev rfl rfl ?_
            refine r_add rfl rfl rfl (by omega) ?_
            refine r_ev rfl rfl ?_; refine r_nn ?_
            refine r_again (i + 1, ps ++ [(whites[j], lword l[i])]) ⟨by simp; omega, by simp; omega, ?_⟩ (by simp; omega) ⟨rfl, rfl, rfl, by rw [back_snoc]; rfl, by rw [front_snoc]; rfl, by rw [List.length_append]; rfl, rfl, trivial⟩ rfl rfl
            intro p hp
            rcases List.mem_append.1 hp with hp | hp
            · exact hok p hp
            · rw [List.mem_singleton] at hp
              subst hp
              exact ⟨hgap.1, hk, hgap.2, hwl⟩
          · skip
            refine r_skip ?_; refine r_then_normal ?_
            refine r_qregion mixed (by kernel_rfl) ?_
            refine q_ev rfl rfl ?_; refine q_ev rfl rfl ?_
            refine q_v rfl (val_add_str rfl rfl (by omega)) ?_
            skip
            refine q_v rfl (val_add_str rfl rfl (by rw [List.length_append]; simp; omega)) ?_
            refine q_ev rfl rfl ?_; refine q_ev rfl rfl ?_; refine q_ev rfl rfl ?_; refine q_ev rfl rfl ?_; refine q_v rfl (val_len_sl rfl) ?_
            refine q_callP rfl rfl (Mod_spec g i 6 (by omega)) ?_
            skip
            obtain ⟨j, hj, hj6⟩ : ∃ j : Nat, modI (i : Int) 6 = j ∧ j < 6 := ⟨(modI (i : Int) 6).toNat, by unfold modI; rw [if_neg (by omega)]; omega, by unfold modI; rw [if_neg (by omega)]; omega⟩
            rw [hj]
            have hjl : j < whites.length := hj6
            have hgap := whites_gap _ (List.getElem_mem hjl)
            refine q_v rfl (val_indexAddr (j := j) rfl rfl rfl hj6) ?_
            refine q_v rfl (val_load1 rfl (v := str whites[j]) (rd_row1 0 rfl (by rw [show 0 + j * 1 = j by omega, List.getElem?_map, List.getElem?_eq_getElem hjl]; rfl))) ?_
            skip
            refine q_v rfl (val_add_str rfl rfl (by omega)) ?_
            refine q_ev rfl rfl ?_
            refine q_v rfl (val_add_str rfl rfl (by rw [List.length_append]; omega)) ?_
            refine q_ev rfl rfl ?_
            refine q_v rfl (val_add rfl rfl (by omega)) ?_
            refine q_ev rfl rfl ?_; refine q_ev rfl rfl ?_; refine q_ev rfl rfl ?_; refine q_end ?_; refine r_in_normal ?_; refine r_then_normal ?_; refine r_region ?_; refine r_ev rfl rfl ?_
            refine r_add rfl rfl rfl (by omega) ?_
            refine r_ev rfl rfl ?_; refine r_nn ?_
            refine r_again (i + 1, ps ++ [(whites[j], lword l[i])]) ⟨by simp; omega, by simp; omega, ?_⟩ (by simp; omega) ⟨rfl, rfl, rfl, by rw [back_snoc]; rfl, by rw [front_snoc]; rfl, by rw [List.length_append]; rfl, rfl, trivial⟩ rfl rfl
            intro p hp
            rcases List.mem_append.1 hp with hp | hp
            · exact hok p hp
            · rw [List.mem_singleton] at hp
              subst hp
              exact ⟨hgap.1, hk, hgap.2, hwl⟩
      · have hil : i = l.length := by omega
        subst hil
        have hws : ∀ w ∈ ps.map (·.2), kindOf w ≠ 0 := by
          intro w hw
          obtain ⟨p, hp, rfl⟩ := List.mem_map.1 hw
          exact (hok p hp).2.1
        obtain ⟨e1, k1⟩ := scan_facts (by omega) (back_ok (ps.map (·.2)) hws 0)
        obtain ⟨e2, k2⟩ := scan_facts (by omega) (front_ok ps (fun p hp => ⟨(hok p hp).1, (hok p hp).2.1⟩) 0)
        refine r_exit ?_; refine r_then_exit ?_; refine r_then_exit ?_; refine r_in_exit ?_; refine r_then_normal ?_; refine r_sr ?_; refine r_ev rfl rfl ?_
        refine r_scan rfl rfl (tScan_spec g _ (by omega)) (fun g1 sv1 hg1 h1 => ?_)
        refine r_ev rfl rfl ?_; refine r_ev rfl rfl ?_; refine r_ev rfl rfl ?_; refine r_alloc rfl (fun b => ?_); refine r_ev rfl rfl ?_; refine r_storeA 0 rfl rfl rfl rfl (by rfl) rfl rfl ?_; refine r_nn ?_; refine r_sr ?_; refine r_ev rfl rfl ?_
        refine r_scan rfl rfl (tScan_spec g1 _ (by omega)) (fun g2 sv2 hg2 h2 => ?_)
        rw [e1, e2]
        refine r_ev rfl rfl ?_; refine r_ev rfl rfl ?_; refine r_ev rfl rfl ?_; refine r_alloc rfl (fun b => ?_); refine r_ev rfl rfl ?_; refine r_storeA 0 rfl rfl rfl rfl (by rfl) rfl rfl ?_; refine r_nn ?_; refine r_sr ?_; refine r_fieldAddr rfl rfl ?_; refine r_loadB1 1 rfl rfl rfl rfl ?_; refine r_ev rfl rfl ?_; refine r_ev rfl rfl ?_; refine r_take rfl ?_; refine r_fieldAddr rfl rfl ?_; refine r_take rfl ?_; refine r_loadB1 0 rfl rfl rfl rfl ?_; refine r_tev rfl rfl rfl ?_; refine r_ev rfl rfl ?_; refine r_ev rfl rfl ?_; refine r_tev rfl rfl rfl ?_; refine r_tev rfl rfl rfl ?_; refine r_take rfl ?_
        refine r_callP rfl rfl (same_tt (same_kt (k1.trans k2.symm)) (h1.mono hg2) h2) ?_
        refine r_ev rfl rfl ?_; refine r_ev rfl rfl ?_; refine r_tev rfl rfl rfl ?_; refine r_take rfl ?_
        refine r_len_at rfl rfl (h1.mono hg2) ?_
        refine r_tev rfl rfl rfl ?_; refine r_tev rfl rfl rfl ?_; refine r_ev rfl rfl ?_; refine r_ev rfl rfl ?_; refine r_nn ?_; refine r_retc ?_
        refine r_shrink hE (Ghost.le_trans hg1 hg2) ?_
        exact r_ret1 [] rfl rfl (by simp) ⟨by
          have hl := kt_len k1
          simp [kts] at hl
          simp [hl], rfl, rfl⟩
end Go.Proofs.YtjiommnmkokldaaDoor

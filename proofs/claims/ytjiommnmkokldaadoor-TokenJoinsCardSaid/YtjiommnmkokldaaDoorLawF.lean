/- The walk of TokenJoins. -/
import Derived.Test.YtjiommnmkokldaaDoorLawE
import Derived.Test.YtjiommnmkokldaaDoorJoin
namespace Go.Proofs.YtjiommnmkokldaaDoor
open Go Go.Eng Go.Th Go.Proofs
set_option maxRecDepth 10000
attribute [local irreducible] wpList Code.wp Run bodyPost Go.Eng.Ends Exit.then Exit.inBlock Again Wq Kq
set_option maxHeartbeats 4000000 in
theorem TokenJoins_spec (g : Ghost) (v : Value) (l : List Int) (hs : SlAt g 1 v l.length (ints l)) (_hw : ∀ n ∈ l, -9223372036854775808 ≤ n ∧ n ≤ 9223372036854775807) : Pure Tryd.prog 10 [v] g (.bool true) := by
  refine spec_of_run Tryd.func10 rfl Tryd.ntmps10 rfl fun E hE => ?_
  refine r_sr ?_; refine r_ev rfl rfl ?_; refine r_nn ?_; refine r_seq ?_; refine r_sr ?_
  refine r_callP rfl rfl (tfirst_spec g) ?_
  refine r_ev rfl rfl ?_; refine r_nn ?_; refine r_cond_false rfl ?_; refine r_skip ?_; refine r_then_normal ?_; refine r_seq ?_; refine r_sr ?_; refine r_ev rfl rfl ?_
  refine r_len_at rfl rfl hs ?_
  refine r_ev rfl rfl ?_; refine r_nn ?_
  refine r_cond rfl (fun h80 => ?_) (fun h80 => ?_)
  · refine r_sr ?_; refine r_ev rfl rfl ?_; refine r_nn ?_; refine r_retc ?_; refine r_then_ret ?_
    exact r_ret1 [] rfl rfl (by simp) ⟨rfl, rfl, rfl⟩
  · refine r_skip ?_; refine r_then_normal ?_; refine r_sr ?_; refine r_ev rfl rfl ?_; refine r_nn ?_; refine r_seq ?_; refine r_sr ?_; refine r_ev rfl rfl ?_; refine r_nn ?_; refine r_block ?_
    refine r_nilRow 44 3 ?_
    refine r_loop (ι := Nat × List Tok × Value) (fun p => [(0, v), (3, p.2.2), (4, .int .i64 p.1)]) (fun _ => g) (fun p => [.row 44 3 p.2.2 p.2.1.length (p.2.1.flatMap tokCells)])
      (fun p => p.1 ≤ l.length ∧ p.2.1.length ≤ p.1 ∧ ∀ t ∈ p.2.1, Good t) (fun p => l.length - p.1) (0, [], .slice none 0 0) ⟨by simp, by simp, fun _ h => by cases h⟩ ⟨rfl, rfl, rfl, trivial⟩ rfl rfl ?_
    rintro ⟨i, ts, tv⟩ ⟨hi, hl, hgood⟩
    simp only at hi hl hgood
    show Run E _ [(0, v), (3, tv), (4, .int .i64 i)] g [.row 44 3 tv ts.length (ts.flatMap tokCells)] _
    refine r_seq ?_; refine r_sr ?_; refine r_ev rfl rfl ?_; refine r_ev rfl rfl ?_
    refine r_len_at rfl rfl hs ?_
    refine r_ev rfl rfl ?_; refine r_nn ?_
    refine r_cond rfl (fun hlt => ?_) (fun hlt => ?_)
    · have hlt' : i < l.length := by omega
      have hwl := lword_len l[i]
      obtain ⟨b1, off1, cap1, rfl, hx1⟩ := hs.held hlt'
      refine r_skip ?_; refine r_then_normal ?_; refine r_seq ?_; refine r_block ?_; refine r_sr ?_; refine r_ev rfl rfl ?_; refine r_ev rfl rfl ?_
      refine r_indexAddr (j := i) rfl rfl rfl rfl hlt' ?_
      refine r_load1 rfl rfl (v := .int .i64 l[i]) (rd_g1 (hx1 (i * 1) _ (by simp [ints, hlt']))) ?_
      skip
      refine r_callP rfl rfl (lword_spec g _) ?_
      refine r_ev rfl rfl ?_; refine r_nn ?_; refine r_sr ?_; refine r_ev rfl rfl ?_
      refine r_callP rfl rfl (Kind_spec g _ (by omega)) ?_
      refine r_ev rfl rfl ?_; refine r_nn ?_; refine r_sr ?_; refine r_ev rfl rfl ?_; refine r_ev rfl rfl ?_; refine r_nn ?_
      refine r_cond rfl (fun hk => ?_) (fun hk => ?_)
      · refine r_region ?_; refine r_ev rfl rfl ?_; refine r_ev rfl rfl ?_; refine r_ev rfl rfl ?_; refine r_ev rfl rfl ?_; refine r_build rfl rfl (by rfl) ?_
        refine r_buildSlice rfl rfl (by rfl) (by rfl) (by rfl) (by rfl) (by rfl) (fun b2 => ?_)
        refine r_appendRow 1 0 rfl rfl rfl rfl rfl (by rfl) (by rfl) rfl (by unfold maxLen; omega) (by omega) (fun v' _ => ?_)
        refine r_ev rfl rfl ?_; refine r_nil ?_; refine r_in_normal ?_; refine r_then_normal ?_; refine r_region ?_; refine r_ev rfl rfl ?_
        refine r_add rfl rfl rfl (by omega) ?_
        refine r_ev rfl rfl ?_; refine r_nn ?_
        refine r_drop (own' := [_]) (List.sublist_cons_self _ _) ?_
        refine r_again (i + 1, ts ++ [⟨kindOf (lword l[i]), lword l[i], i⟩], v') ⟨by simp; omega, by simp; omega, ?_⟩ (by simp; omega) ⟨rfl, rfl, rfl, trivial⟩ rfl ?_
        · intro t ht
          rcases List.mem_append.1 ht with ht | ht
          · exact hgood t ht
          · rw [List.mem_singleton] at ht
            subst ht
            exact ⟨rfl, hk, by simp, by simp; omega, hwl⟩
        · simp [tokCells, repN]
      · refine r_skip ?_; refine r_in_normal ?_; refine r_then_normal ?_; refine r_region ?_; refine r_ev rfl rfl ?_
        refine r_add rfl rfl rfl (by omega) ?_
        refine r_ev rfl rfl ?_; refine r_nn ?_
        exact r_again (i + 1, ts, tv) ⟨by simp; omega, by simp; omega, hgood⟩ (by simp; omega) ⟨rfl, rfl, rfl, trivial⟩ rfl rfl
    · have hws : ∀ w ∈ texts ts, kindOf w ≠ 0 := by
        intro w hw
        obtain ⟨t, ht, rfl⟩ := List.mem_map.1 hw
        have := hgood t ht
        rw [this.1]; exact this.2.1
      have hjl := joined_len (texts ts) 14 (fun w hw => by
        obtain ⟨t, ht, rfl⟩ := List.mem_map.1 hw
        exact (hgood t ht).2.2.2.2)
      rw [texts, List.length_map, ← texts] at hjl
      have hktl : kts (texts ts) = kt ts := by
        simp only [kts, kt, texts, List.map_map]
        exact List.map_congr_left fun t ht => by simp [(hgood t ht).1]
      obtain ⟨e1, k1⟩ := scan_facts (by omega) (joined_ok (texts ts) hws 0)
      refine r_publishRow (fun g0 hg0 h0 => ?_)
      refine r_exit ?_; refine r_then_exit ?_; refine r_then_exit ?_; refine r_in_exit ?_; refine r_then_normal ?_; refine r_sr ?_; refine r_ev rfl rfl ?_
      refine r_callP rfl rfl (tJoin_spec g0 tv ts h0 (by omega) hgood) ?_
      refine r_ev rfl rfl ?_; refine r_nn ?_; refine r_sr ?_; refine r_ev rfl rfl ?_
      refine r_scan rfl rfl (tScan_spec g0 _ (by omega)) (fun g1 sv1 hg1 h1 => ?_)
      rw [e1]
      refine r_ev rfl rfl ?_; refine r_ev rfl rfl ?_; refine r_ev rfl rfl ?_; refine r_alloc rfl (fun b => ?_); refine r_ev rfl rfl ?_; refine r_storeA 0 rfl rfl rfl rfl (by rfl) rfl rfl ?_; refine r_nn ?_; refine r_sr ?_; refine r_ev rfl rfl ?_; refine r_ev rfl rfl ?_
      refine r_callP rfl rfl (rJoin_spec g1 tv ts (h0.mono hg1) (by omega) (fun t ht => goodB (hgood t ht))) ?_
      refine r_ev rfl rfl ?_; refine r_ev rfl rfl ?_
      refine r_gdec rfl rfl (fun heq => ?_) (fun heq => ?_)
      · refine r_take rfl ?_; refine r_fieldAddr rfl rfl ?_; refine r_take rfl ?_; refine r_loadB1 0 rfl rfl rfl rfl ?_; refine r_tev rfl rfl rfl ?_; refine r_ev rfl rfl ?_; refine r_ev rfl rfl ?_; refine r_tev rfl rfl rfl ?_; refine r_tev rfl rfl rfl ?_; refine r_take rfl ?_
        refine r_callP rfl rfl (same_tt (same_kt (k1.trans hktl)) h1 (h0.mono hg1)) ?_
        refine r_ev rfl rfl ?_; refine r_ev rfl rfl ?_; refine r_nn ?_; refine r_retc ?_
        refine r_shrink hE (Ghost.le_trans hg0 hg1) ?_
        exact r_ret1 [] rfl rfl (by simp) ⟨rfl, rfl, rfl⟩
      · exact absurd rfl heq
end Go.Proofs.YtjiommnmkokldaaDoor

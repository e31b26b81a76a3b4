/- The walk of the reference's scanner. -/
import Derived.Test.YtblbbjhbigpgnaaDoorRefC
import Derived.Test.YtblbbjhbigpgnaaDoorPlainB
namespace Go.Proofs.YtblbbjhbigpgnaaDoor
open Go Go.Eng Go.Th Go.Proofs
set_option maxRecDepth 10000
set_option maxHeartbeats 4000000
attribute [local irreducible] wpList Code.wp Run bodyPost Go.Eng.Ends Exit.then Exit.inBlock Again Wq Kq
/-- What Scan hands back: the tokens in a row of the caller's own, or a fault. -/
def ScanPost (T : TypeId) (s : Bytes) (g : Ghost) (v : Value) (g' : Ghost) (own' : List Res) : Prop := g' = g ∧ match scan s with
  | .ok l => ∃ sv, v = .tuple #[sv, .agg #[.int .i64 0, .int .i64 0]] ∧ own' = [.row T 3 sv l.length (l.flatMap tokCells)]
  | .bad e p => v = .tuple #[.slice none 0 0, .agg #[.int .i64 e, .int .i64 p]] ∧ own' = []

theorem refScan_spec (g : Ghost) (s : Bytes) (hs : s.length ≤ 9223372036854775807) : Eng.Spec Tryd.prog 31 [str s] g [] (ScanPost 44 s g) := by
  refine spec_of_run Tryd.func31 rfl Tryd.ntmps31 rfl fun E hE => ?_
  refine r_sr ?_
  refine r_ev rfl rfl ?_
  refine r_alloc rfl (fun b => ?_)
  refine r_nn ?_; refine r_seq ?_; refine r_sr ?_; refine r_ev rfl rfl ?_; refine r_len_str rfl rfl ?_; refine r_ev rfl rfl ?_; refine r_nn ?_
  refine r_cond rfl (fun hlong => ?_) (fun hlong => ?_)
  · refine r_sr ?_; refine r_build rfl rfl (by rfl) ?_; refine r_ev rfl rfl ?_; refine r_storeA 0 rfl rfl rfl rfl (by rfl) rfl rfl ?_; refine r_nn ?_; refine r_retc ?_; refine r_then_ret ?_
    refine r_ret2 [] rfl (.tmp rfl) (res_blk 0 rfl rfl (by rfl)) (by simp) ⟨rfl, ?_⟩
    have : 4000 < s.length := by omega
    simp [scan, this]
  · have hle : s.length ≤ 4000 := by omega
    refine r_skip ?_; refine r_then_normal ?_; refine r_sr ?_; refine r_ev rfl rfl ?_; refine r_nn ?_; refine r_seq ?_; refine r_sr ?_; refine r_ev rfl rfl ?_; refine r_nn ?_; refine r_block ?_
    refine r_nilRow 44 3 ?_
    refine r_loop (ι := Nat × List Tok × Value) (fun p => [(0, str s), (3, ptr b 0), (4, p.2.2), (5, .int .i64 p.1)]) (fun _ => g)
      (fun p => [.row 44 3 p.2.2 p.2.1.length (p.2.1.flatMap tokCells), .blk b 40 [.int .i64 0, .int .i64 0]])
      (fun p => p.1 ≤ s.length ∧ p.2.1.length ≤ p.1 ∧ scanFrom 0 (s.drop 0) = pre p.2.1 (scanFrom p.1 (s.drop p.1))) (fun p => s.length - p.1) (0, [], .slice none 0 0) ⟨by simp, by simp, by simp [pre_nil]⟩ ⟨rfl, rfl, rfl, rfl, trivial⟩ rfl rfl ?_
    rintro ⟨i, l, v⟩ ⟨hi, hl, hinv⟩
    simp only at hi hl hinv
    show Run E _ [(0, str s), (3, ptr b 0), (4, v), (5, .int .i64 i)] g [.row 44 3 v l.length (l.flatMap tokCells), .blk b 40 [.int .i64 0, .int .i64 0]] _
    refine r_seq ?_; refine r_sr ?_; refine r_ev rfl rfl ?_; refine r_ev rfl rfl ?_; refine r_len_str rfl rfl ?_; refine r_ev rfl rfl ?_; refine r_nn ?_
    refine r_cond rfl (fun hlt => ?_) (fun hlt => ?_)
    · have hlt' : i < s.length := by omega
      refine r_skip ?_; refine r_then_normal ?_; refine r_block ?_; refine r_sr ?_; refine r_ev rfl rfl ?_; refine r_ev rfl rfl ?_
      refine r_index_str (j := i) rfl rfl rfl rfl hlt' ?_
      refine r_ev rfl rfl ?_; refine r_nn ?_; refine r_sr ?_; refine r_ev rfl rfl ?_
      refine r_add rfl rfl rfl (by omega) ?_
      refine r_ev rfl rfl ?_; refine r_nn ?_
      refine r_cut [(0, str s), (3, ptr b 0), (4, v), (5, .int .i64 i), (7, .int .i64 (i + tokLen (s.drop i) : Nat))] (white s[i] = false ∧ s[i].toNat ≠ 35) ?_ ?_
      · rintro ⟨hw, hc⟩
        have htl := tokLen_le (s.drop i)
        have htp : 1 ≤ tokLen (s.drop i) := by rw [drop_cons hlt']; exact tokLen_pos _ _
        rw [List.length_drop] at htl
        have hpl : ((s.drop i).take (tokLen (s.drop i))).length ≤ 9223372036854775807 := by rw [List.length_take, List.length_drop]; omega
        refine r_sr ?_; refine r_ev rfl rfl ?_; refine r_ev rfl rfl ?_; refine r_ev rfl rfl ?_
        refine r_slice_str (p := i) (q := i + tokLen (s.drop i)) rfl rfl ⟨_, _, rfl, rfl⟩ ⟨_, _, rfl, rfl⟩ (by omega) (by omega) ?_
        rw [piece_eq]
        refine r_callP rfl rfl (Kind_spec g _ hpl) ?_
        refine r_ev rfl rfl ?_; refine r_nn ?_; refine r_seq ?_; refine r_sr ?_; refine r_ev rfl rfl ?_; refine r_ev rfl rfl ?_; refine r_nn ?_
        refine r_cond rfl (fun hk => ?_) (fun hk => ?_)
        · refine r_sr ?_; refine r_ev rfl rfl ?_; refine r_build rfl rfl (by rfl) ?_; refine r_ev rfl rfl ?_; refine r_storeA 1 rfl rfl rfl rfl (by rfl) rfl rfl ?_; refine r_nn ?_; refine r_retc ?_; refine r_then_ret ?_; refine r_in_ret ?_; refine r_then_ret ?_; refine r_in_ret ?_; refine r_then_ret ?_
          refine r_ret2 [] rfl (.tmp rfl) (res_blk 1 rfl rfl (by rfl)) (by simp) ⟨rfl, ?_⟩
          rw [scan_of hle, hinv, scan_bad hlt' hw hc hk]
          exact ⟨rfl, rfl⟩
        · refine r_skip ?_; refine r_then_normal ?_; refine r_sr ?_; refine r_ev rfl rfl ?_; refine r_ev rfl rfl ?_; refine r_ev rfl rfl ?_; refine r_ev rfl rfl ?_; refine r_ev rfl rfl ?_
          refine r_slice_str (p := i) (q := i + tokLen (s.drop i)) rfl rfl ⟨_, _, rfl, rfl⟩ ⟨_, _, rfl, rfl⟩ (by omega) (by omega) ?_
          rw [piece_eq]
          refine r_ev rfl rfl ?_; refine r_build rfl rfl (by rfl) ?_
          refine r_buildSlice rfl rfl (by rfl) (by rfl) (by rfl) (by rfl) (by rfl) (fun b2 => ?_)
          refine r_appendRow 1 0 rfl rfl rfl rfl rfl (by rfl) (by rfl) rfl (by unfold maxLen; omega) (by omega) (fun v' _ => ?_)
          refine r_ev rfl rfl ?_; refine r_nn ?_; refine r_region ?_; refine r_ev rfl rfl ?_; refine r_ev rfl rfl ?_; refine r_nil ?_; refine r_in_normal ?_; refine r_then_normal ?_
          refine r_drop (own' := [_, _]) (List.sublist_cons_self _ _) ?_
          refine r_again (i + tokLen (s.drop i), l ++ [⟨kindOf ((s.drop i).take (tokLen (s.drop i))), (s.drop i).take (tokLen (s.drop i)), i⟩], v') ⟨by simp; omega, by simp; omega, ?_⟩ (by simp; omega) ⟨rfl, rfl, rfl, rfl, trivial⟩ rfl ?_
          · simp only
            rw [hinv, scan_tok hlt' hw hc hk]
          · simp [tokCells, repN]
      · intro K hK
        refine r_block ?_; refine r_sr ?_; refine r_ev rfl rfl ?_; refine r_ev rfl rfl ?_; refine r_ev rfl rfl ?_
        refine r_gdec rfl rfl (fun a1 => ?_) (fun a1 => ?_)
        · have hw : white s[i] = true := by simp [white]; omega
          refine r_pass rfl rfl rfl ?_; refine r_pass rfl rfl rfl ?_; refine r_ev rfl rfl ?_; refine r_ev rfl rfl ?_; refine r_pass rfl rfl rfl ?_; refine r_pass rfl rfl rfl ?_; refine r_ev rfl rfl ?_; refine r_ev rfl rfl ?_; refine r_pass rfl rfl rfl ?_; refine r_pass rfl rfl rfl ?_; refine r_ev rfl rfl ?_; refine r_ev rfl rfl ?_; refine r_nn ?_; refine r_cond_true rfl ?_; refine r_sr ?_; refine r_ev rfl rfl ?_
          refine r_add rfl rfl rfl (by omega) ?_
          refine r_ev rfl rfl ?_; refine r_nn ?_; refine r_exit ?_; refine r_in_exit_other rfl ?_; refine r_then_exit ?_; refine r_in_exit ?_; refine r_then_normal ?_
          exact r_again (i + 1, l, v) ⟨by simp; omega, by simp; omega, by simp only; rw [hinv, scan_white hlt' hw]⟩ (by simp; omega) ⟨rfl, rfl, rfl, rfl, trivial⟩ rfl rfl
        refine r_tev rfl rfl rfl ?_; refine r_tev rfl rfl rfl ?_; refine r_ev rfl rfl ?_; refine r_ev rfl rfl ?_
        refine r_gdec rfl rfl (fun a2 => ?_) (fun a2 => ?_)
        · have hw : white s[i] = true := by simp [white]; omega
          refine r_pass rfl rfl rfl ?_; refine r_pass rfl rfl rfl ?_; refine r_ev rfl rfl ?_; refine r_ev rfl rfl ?_; refine r_pass rfl rfl rfl ?_; refine r_pass rfl rfl rfl ?_; refine r_ev rfl rfl ?_; refine r_ev rfl rfl ?_; refine r_nn ?_; refine r_cond_true rfl ?_; refine r_sr ?_; refine r_ev rfl rfl ?_
          refine r_add rfl rfl rfl (by omega) ?_
          refine r_ev rfl rfl ?_; refine r_nn ?_; refine r_exit ?_; refine r_in_exit_other rfl ?_; refine r_then_exit ?_; refine r_in_exit ?_; refine r_then_normal ?_
          exact r_again (i + 1, l, v) ⟨by simp; omega, by simp; omega, by simp only; rw [hinv, scan_white hlt' hw]⟩ (by simp; omega) ⟨rfl, rfl, rfl, rfl, trivial⟩ rfl rfl
        refine r_tev rfl rfl rfl ?_; refine r_tev rfl rfl rfl ?_; refine r_ev rfl rfl ?_; refine r_ev rfl rfl ?_
        refine r_gdec rfl rfl (fun a3 => ?_) (fun a3 => ?_)
        · have hw : white s[i] = true := by simp [white]; omega
          refine r_pass rfl rfl rfl ?_; refine r_pass rfl rfl rfl ?_; refine r_ev rfl rfl ?_; refine r_ev rfl rfl ?_; refine r_nn ?_; refine r_cond_true rfl ?_; refine r_sr ?_; refine r_ev rfl rfl ?_
          refine r_add rfl rfl rfl (by omega) ?_
          refine r_ev rfl rfl ?_; refine r_nn ?_; refine r_exit ?_; refine r_in_exit_other rfl ?_; refine r_then_exit ?_; refine r_in_exit ?_; refine r_then_normal ?_
          exact r_again (i + 1, l, v) ⟨by simp; omega, by simp; omega, by simp only; rw [hinv, scan_white hlt' hw]⟩ (by simp; omega) ⟨rfl, rfl, rfl, rfl, trivial⟩ rfl rfl
        refine r_tev rfl rfl rfl ?_; refine r_tev rfl rfl rfl ?_; refine r_ev rfl rfl ?_; refine r_ev rfl rfl ?_; refine r_nn ?_
        refine r_cond rfl (fun a4 => ?_) (fun a4 => ?_)
        · have hw : white s[i] = true := by simp [white]; omega
          refine r_sr ?_; refine r_ev rfl rfl ?_
          refine r_add rfl rfl rfl (by omega) ?_
          refine r_ev rfl rfl ?_; refine r_nn ?_; refine r_exit ?_; refine r_in_exit_other rfl ?_; refine r_then_exit ?_; refine r_in_exit ?_; refine r_then_normal ?_
          exact r_again (i + 1, l, v) ⟨by simp; omega, by simp; omega, by simp only; rw [hinv, scan_white hlt' hw]⟩ (by simp; omega) ⟨rfl, rfl, rfl, rfl, trivial⟩ rfl rfl
        have hw : white s[i] = false := by simp [white]; omega
        refine r_sr ?_; refine r_ev rfl rfl ?_; refine r_ev rfl rfl ?_; refine r_ev rfl rfl ?_; refine r_nn ?_
        refine r_cond rfl (fun hc => ?_) (fun hc => ?_)
        · have hc' : s[i].toNat = 35 := by omega
          refine r_seq ?_; refine r_block ?_
          refine r_loop (ι := Nat) (fun j => [(0, str s), (3, ptr b 0), (4, v), (5, .int .i64 j)]) (fun _ => g) (fun _ => [.row 44 3 v l.length (l.flatMap tokCells), .blk b 40 [.int .i64 0, .int .i64 0]])
            (fun j => i ≤ j ∧ j ≤ s.length ∧ j + commentLen (s.drop j) = i + commentLen (s.drop i)) (fun j => s.length - j) i ⟨Nat.le_refl _, by omega, rfl⟩ ⟨rfl, rfl, rfl, rfl, trivial⟩ rfl rfl ?_
          rintro j ⟨hij, hjl, hcm⟩
          have hcp : 1 ≤ commentLen (s.drop i) := by rw [drop_cons hlt']; exact commentLen_pos _ hc'
          refine r_seq ?_; refine r_sr ?_; refine r_ev rfl rfl ?_; refine r_ev rfl rfl ?_; refine r_len_str rfl rfl ?_; refine r_ev rfl rfl ?_; refine r_ev rfl rfl ?_
          refine r_gdec rfl rfl (fun hj => ?_) (fun hj => ?_)
          · have hj' : j < s.length := by omega
            refine r_tev rfl rfl rfl ?_; refine r_tev rfl rfl rfl ?_; refine r_take rfl ?_
            refine r_index_str (j := j) rfl rfl rfl rfl hj' ?_
            refine r_tev rfl rfl rfl ?_; refine r_ev rfl rfl ?_; refine r_nn ?_
            refine r_cond rfl (fun hn => ?_) (fun hn => ?_)
            · have hst := commentLen_step hj' (by omega)
              refine r_skip ?_; refine r_then_normal ?_; refine r_block ?_; refine r_region ?_; refine r_ev rfl rfl ?_
              refine r_add rfl rfl rfl (by omega) ?_
              refine r_ev rfl rfl ?_; refine r_nil ?_; refine r_in_normal ?_; refine r_then_normal ?_
              exact r_again (j + 1) ⟨by omega, by omega, by omega⟩ (by omega) ⟨rfl, rfl, rfl, rfl, trivial⟩ rfl rfl
            · have hst := commentLen_stop hj' (by omega)
              refine r_exit ?_; refine r_then_exit ?_; refine r_then_exit ?_; refine r_in_exit ?_; refine r_then_normal ?_; refine r_exit ?_; refine r_in_exit_other rfl ?_; refine r_then_exit ?_; refine r_in_exit ?_; refine r_then_normal ?_
              refine r_again (j, l, v) ⟨by simp; omega, by simp; omega, ?_⟩ (by simp; omega) ⟨rfl, rfl, rfl, rfl, trivial⟩ rfl rfl
              simp only
              rw [hinv, scan_comment hlt' hw hc', show i + commentLen (s.drop i) = j by omega]
          · have hst := commentLen_end (s := s) (k := j) (by omega)
            refine r_pass rfl rfl rfl ?_; refine r_pass rfl rfl rfl ?_; refine r_pass rfl rfl rfl ?_; refine r_pass rfl rfl rfl ?_; refine r_ev rfl rfl ?_; refine r_nn ?_; refine r_cond_false rfl ?_; refine r_exit ?_; refine r_then_exit ?_; refine r_then_exit ?_; refine r_in_exit ?_; refine r_then_normal ?_; refine r_exit ?_; refine r_in_exit_other rfl ?_; refine r_then_exit ?_; refine r_in_exit ?_; refine r_then_normal ?_
            refine r_again (j, l, v) ⟨by simp; omega, by simp; omega, ?_⟩ (by simp; omega) ⟨rfl, rfl, rfl, rfl, trivial⟩ rfl rfl
            simp only
            rw [hinv, scan_comment hlt' hw hc', show i + commentLen (s.drop i) = j by omega]
        have hc' : s[i].toNat ≠ 35 := by omega
        refine r_sr ?_; refine r_ev rfl rfl ?_
        refine r_callP rfl rfl (inner_spec g _) ?_
        refine r_ev rfl rfl ?_; refine r_nn ?_
        refine r_condb rfl (fun hin => ?_) (fun hin => ?_)
        · have htk := tokLen_word hlt' hin
          refine r_block ?_
          refine r_loop (ι := Nat) (fun j => [(0, str s), (3, ptr b 0), (4, v), (5, .int .i64 i), (7, .int .i64 j)]) (fun _ => g) (fun _ => [.row 44 3 v l.length (l.flatMap tokCells), .blk b 40 [.int .i64 0, .int .i64 0]])
            (fun j => i + 1 ≤ j ∧ j ≤ s.length ∧ j + wordLen (s.drop j) = i + 1 + wordLen (s.drop (i + 1))) (fun j => s.length - j) (i + 1) ⟨Nat.le_refl _, by omega, rfl⟩ ⟨rfl, rfl, rfl, rfl, rfl, trivial⟩ rfl rfl ?_
          rintro j ⟨hij, hjl, hcm⟩
          refine r_seq ?_; refine r_sr ?_; refine r_ev rfl rfl ?_; refine r_ev rfl rfl ?_; refine r_len_str rfl rfl ?_; refine r_ev rfl rfl ?_; refine r_ev rfl rfl ?_
          refine r_gdec rfl rfl (fun hj => ?_) (fun hj => ?_)
          · have hj' : j < s.length := by omega
            refine r_tev rfl rfl rfl ?_; refine r_tev rfl rfl rfl ?_; refine r_take rfl ?_
            refine r_index_str (j := j) rfl rfl rfl rfl hj' ?_
            refine r_take rfl ?_
            refine r_callP rfl rfl (inner_spec g _) ?_
            refine r_ev rfl rfl ?_; refine r_nn ?_
            refine r_condb rfl (fun hn => ?_) (fun hn => ?_)
            · have hst := wordLen_step hj' hn
              refine r_skip ?_; refine r_then_normal ?_; refine r_block ?_; refine r_region ?_; refine r_ev rfl rfl ?_
              refine r_add rfl rfl rfl (by omega) ?_
              refine r_ev rfl rfl ?_; refine r_nil ?_; refine r_in_normal ?_; refine r_then_normal ?_
              exact r_again (j + 1) ⟨by omega, by omega, by omega⟩ (by omega) ⟨rfl, rfl, rfl, rfl, rfl, trivial⟩ rfl rfl
            · have hst := wordLen_stop hj' hn
              have hfin : j = i + tokLen (s.drop i) := by omega
              subst hfin
              refine r_exit ?_; refine r_then_exit ?_; refine r_then_exit ?_; refine r_in_exit ?_; refine r_in_normal ?_; refine r_then_normal ?_
              exact hK _ ⟨hw, hc'⟩ ⟨rfl, rfl, rfl, rfl, rfl, trivial⟩
          · have hst := wordLen_end (s := s) (k := j) (by omega)
            have hfin : j = i + tokLen (s.drop i) := by omega
            subst hfin
            refine r_pass rfl rfl rfl ?_; refine r_pass rfl rfl rfl ?_; refine r_pass rfl rfl rfl ?_; refine r_pass rfl rfl rfl ?_; refine r_ev rfl rfl ?_; refine r_nn ?_; refine r_cond_false rfl ?_; refine r_exit ?_; refine r_then_exit ?_; refine r_then_exit ?_; refine r_in_exit ?_; refine r_in_normal ?_; refine r_then_normal ?_
            exact hK _ ⟨hw, hc'⟩ ⟨rfl, rfl, rfl, rfl, rfl, trivial⟩
        · refine r_sr ?_; refine r_ev rfl rfl ?_; refine r_ev rfl rfl ?_; refine r_ev rfl rfl ?_
          refine r_gdec rfl rfl (fun h45 => ?_) (fun h45 => ?_)
          · refine r_tev rfl rfl rfl ?_; refine r_tev rfl rfl rfl ?_; refine r_take rfl ?_; refine r_len_str rfl rfl ?_; refine r_tev rfl rfl rfl ?_; refine r_ev rfl rfl ?_; refine r_ev rfl rfl ?_
            refine r_gdec rfl rfl (fun hl2 => ?_) (fun hl2 => ?_)
            · have hl2' : i + 1 < s.length := by omega
              refine r_tev rfl rfl rfl ?_; refine r_tev rfl rfl rfl ?_; refine r_take rfl ?_
              refine r_index_str (j := i + 1) rfl rfl rfl rfl hl2' ?_
              refine r_tev rfl rfl rfl ?_; refine r_ev rfl rfl ?_; refine r_ev rfl rfl ?_; refine r_nn ?_
              refine r_cond rfl (fun h62 => ?_) (fun h62 => ?_)
              · have htk := tokLen_arrow hl2' hin (by omega) (by omega)
                refine r_region ?_; refine r_ev rfl rfl ?_
                refine r_add rfl rfl rfl (by omega) ?_
                refine r_ev rfl rfl ?_; refine r_nil ?_; refine r_in_normal ?_; refine r_then_normal ?_
                exact hK _ ⟨hw, hc'⟩ ⟨rfl, rfl, rfl, rfl, by rw [htk]; rfl, trivial⟩
              · have htk := tokLen_one hlt' hin (fun _ _ => by omega)
                refine r_skip ?_; refine r_in_normal ?_; refine r_then_normal ?_
                exact hK _ ⟨hw, hc'⟩ ⟨rfl, rfl, rfl, rfl, by rw [htk]; rfl, trivial⟩
            · have htk := tokLen_one hlt' hin (fun _ h2 => by omega)
              refine r_pass rfl rfl rfl ?_; refine r_pass rfl rfl rfl ?_; refine r_pass rfl rfl rfl ?_; refine r_pass rfl rfl rfl ?_; refine r_ev rfl rfl ?_; refine r_ev rfl rfl ?_; refine r_nn ?_; refine r_cond_false rfl ?_; refine r_skip ?_; refine r_in_normal ?_; refine r_then_normal ?_
              exact hK _ ⟨hw, hc'⟩ ⟨rfl, rfl, rfl, rfl, by rw [htk]; rfl, trivial⟩
          · have htk := tokLen_one hlt' hin (fun h1 => by omega)
            refine r_pass rfl rfl rfl ?_; refine r_pass rfl rfl rfl ?_; refine r_pass rfl rfl rfl ?_; refine r_pass rfl rfl rfl ?_; refine r_ev rfl rfl ?_; refine r_ev rfl rfl ?_; refine r_pass rfl rfl rfl ?_; refine r_pass rfl rfl rfl ?_; refine r_pass rfl rfl rfl ?_; refine r_pass rfl rfl rfl ?_; refine r_ev rfl rfl ?_; refine r_ev rfl rfl ?_; refine r_nn ?_; refine r_cond_false rfl ?_; refine r_skip ?_; refine r_in_normal ?_; refine r_then_normal ?_
            exact hK _ ⟨hw, hc'⟩ ⟨rfl, rfl, rfl, rfl, by rw [htk]; rfl, trivial⟩
    · have hil : i = s.length := by omega
      subst hil
      refine r_exit ?_; refine r_then_exit ?_; refine r_then_exit ?_; refine r_in_exit ?_; refine r_then_normal ?_; refine r_sr ?_; refine r_ev rfl rfl ?_; refine r_build rfl rfl (by rfl) ?_; refine r_ev rfl rfl ?_; refine r_storeA 1 rfl rfl rfl rfl (by rfl) rfl rfl ?_; refine r_nn ?_; refine r_retc ?_
      refine r_ret2 [_] rfl (.tmp rfl) (res_blk 1 rfl rfl (by rfl)) (List.sublist_append_left [_] [_]) ⟨rfl, ?_⟩
      rw [scan_of hle, hinv, List.drop_length, scanFrom_nil]
      simp only [pre, List.append_nil]
      exact ⟨v, rfl, rfl⟩
end Go.Proofs.YtblbbjhbigpgnaaDoor
-- sum 635a04ba1113148b

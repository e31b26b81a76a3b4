/- The walk of the reference's scanner. -/
import Derived.Test.YtpjehhnaojjanaaGreatDoorK5
import Derived.Test.YtpjehhnaojjanaaGreatDoorK1
import Derived.Test.YtpjehhnaojjanaaGreatDoorPgC
import Derived.Test.YtpjehhnaojjanaaGreatDoorK11
import Derived.Test.YtpjehhnaojjanaaGreatDoorK8
namespace Go.Proofs.YtpjehhnaojjanaaGreatDoor
open Go Go.Eng Go.Th Go.Proofs
set_option maxRecDepth 10000
set_option maxHeartbeats 4000000
attribute [local irreducible] wpList Code.wp Run bodyPost Go.Eng.Ends Exit.then Exit.inBlock Again Wq Kq
def ScanPost (T : TypeId) (s : Bytes) (g : Ghost) (v : Value) (g' : Ghost) (own' : List Res) : Prop := g' = g ∧ match scan s with
 | .ok l => ∃ sv, v = .tuple #[sv, .agg #[.int .i64 0, .int .i64 0]] ∧ own' = [.row T 3 sv l.length (l.flatMap tokCells)]
 | .bad e p => v = .tuple #[.slice none 0 0, .agg #[.int .i64 e, .int .i64 p]] ∧ own' = []

theorem refScan_spec (g : Ghost) (s : Bytes) (hs : s.length ≤ 9223372036854775807) : Eng.Spec Tryz.prog 46 [str s] g [] (ScanPost 132 s g) := by
 refine spec_of_run Tryz.func46 rfl Tryz.ntmps46 rfl fun E hE => ?_
 refine r_sr ?_
 refine r_ev rfl rfl ?_
 refine r_alloc rfl (fun b => ?_)
 refine r_nn <| r_seq <| r_sr <| r_ev rfl rfl <| r_len_str rfl rfl <| r_ev rfl rfl <| r_nn ?_
 refine r_cond rfl (fun hlong => ?_) (fun hlong => ?_)
 ·refine r_sr <| r_build rfl rfl (by rfl) ?_; refine r_ev rfl rfl <| r_storeA 0 rfl rfl rfl rfl (by rfl) rfl rfl ?_; refine r_nn <| r_retc <| r_then_ret ?_
  refine r_ret2 [] rfl (.tmp rfl) (res_blk 0 rfl rfl (by rfl)) (by simp) ⟨rfl, ?_⟩
  have : 4000 < s.length := by omega
  simp [scan, this]
 ·have hle : s.length ≤ 4000 := by omega
  refine r_skip <| r_then_normal <| r_sr <| r_ev rfl rfl <| r_nn <| r_seq <| r_sr <| r_ev rfl rfl <| r_nn <| r_block ?_
  refine r_nilRow 132 3 ?_
  refine r_loop (ι := Nat × List Tok × Value) (fun p => [(0, str s), (3, ptr b 0), (4, p.2.2), (5, .int .i64 p.1)]) (fun _ => g)
   (fun p => [.row 132 3 p.2.2 p.2.1.length (p.2.1.flatMap tokCells), .blk b 32 [.int .i64 0, .int .i64 0]])
   (fun p => p.1 ≤ s.length ∧ p.2.1.length ≤ p.1 ∧ scanFrom 0 (s.drop 0) = pre p.2.1 (scanFrom p.1 (s.drop p.1))) (fun p => s.length - p.1) (0, [], .slice none 0 0) ⟨by simp, by simp, by simp [pre_nil]⟩ ⟨rfl, rfl, rfl, rfl, trivial⟩ rfl rfl ?_
  rintro ⟨i, l, v⟩ ⟨hi, hl, hinv⟩
  simp only at hi hl hinv
  show Run E _ [(0, str s), (3, ptr b 0), (4, v), (5, .int .i64 i)] g [.row 132 3 v l.length (l.flatMap tokCells), .blk b 32 [.int .i64 0, .int .i64 0]] _
  refine r_seq <| r_sr <| r_ev rfl rfl <| r_ev rfl rfl <| r_len_str rfl rfl <| r_ev rfl rfl <| r_nn ?_
  refine r_cond rfl (fun hlt => ?_) (fun hlt => ?_)
  ·have hlt' : i < s.length := by omega
   refine r_skip <| r_then_normal <| r_block <| r_sr <| r_ev rfl rfl <| r_ev rfl rfl ?_
   refine r_index_str (j := i) rfl rfl rfl rfl hlt' ?_
   refine r_ev rfl rfl <| r_nn <| r_sr <| r_ev rfl rfl ?_
   refine r_add rfl rfl rfl (by omega) ?_
   refine r_ev rfl rfl <| r_nn ?_
   refine r_cut [(0, str s), (3, ptr b 0), (4, v), (5, .int .i64 i), (7, .int .i64 (i + tokLen (s.drop i) : Nat))] (white s[i] = false ∧ s[i].toNat ≠ 35) ?_ ?_
   ·rintro ⟨hw, hc⟩
    have htl := tokLen_le (s.drop i)
    have htp : 1 ≤ tokLen (s.drop i) := by rw [drop_cons hlt']; exact tokLen_pos _ _
    rw [List.length_drop] at htl
    have hpl : ((s.drop i).take (tokLen (s.drop i))).length ≤ 9223372036854775807 := by rw [List.length_take, List.length_drop]; omega
    refine r_sr <| r_ev rfl rfl <| r_ev rfl rfl <| r_ev rfl rfl ?_
    refine r_slice_str (p := i) (q := i + tokLen (s.drop i)) rfl rfl ⟨_, _, rfl, rfl⟩ ⟨_, _, rfl, rfl⟩ (by omega) (by omega) ?_
    rw [piece_eq]
    refine r_callP rfl rfl (Kind_spec g _ hpl) ?_
    refine r_ev rfl rfl <| r_nn <| r_seq <| r_sr <| r_ev rfl rfl <| r_ev rfl rfl <| r_nn ?_
    refine r_cond rfl (fun hk => ?_) (fun hk => ?_)
    ·refine r_sr <| r_ev rfl rfl <| r_build rfl rfl (by rfl) ?_; refine r_ev rfl rfl <| r_storeA 1 rfl rfl rfl rfl (by rfl) rfl rfl ?_; refine r_nn <| r_retc <| r_then_ret <| r_in_ret <| r_then_ret <| r_in_ret <| r_then_ret ?_
     refine r_ret2 [] rfl (.tmp rfl) (res_blk 1 rfl rfl (by rfl)) (by simp) ⟨rfl, ?_⟩
     rw [scan_of hle, hinv, scan_bad hlt' hw hc hk]
     exact ⟨rfl, rfl⟩
    ·refine r_skip <| r_then_normal <| r_sr <| r_ev rfl rfl <| r_ev rfl rfl <| r_ev rfl rfl <| r_ev rfl rfl <| r_ev rfl rfl ?_
     refine r_slice_str (p := i) (q := i + tokLen (s.drop i)) rfl rfl ⟨_, _, rfl, rfl⟩ ⟨_, _, rfl, rfl⟩ (by omega) (by omega) ?_
     rw [piece_eq]
     refine r_ev rfl rfl <| r_build rfl rfl (by rfl) ?_
     refine r_buildSlice rfl rfl (by rfl) (by rfl) (by rfl) (by rfl) (by rfl) (fun b2 => ?_)
     refine r_appendRow 1 0 rfl rfl rfl rfl rfl (by rfl) (by rfl) rfl (by unfold maxLen; omega) (by omega) (fun v' _ => ?_)
     refine r_ev rfl rfl <| r_nn <| r_region <| r_ev rfl rfl <| r_ev rfl rfl <| r_nil <| r_in_normal <| r_then_normal ?_
     refine r_drop (own' := [_, _]) (List.sublist_cons_self _ _) ?_
     refine r_again (i + tokLen (s.drop i), l ++ [⟨kindOf ((s.drop i).take (tokLen (s.drop i))), (s.drop i).take (tokLen (s.drop i)), i⟩], v') ⟨by simp; omega, by simp; omega, ?_⟩ (by simp; omega) ⟨rfl, rfl, rfl, rfl, trivial⟩ rfl ?_
     ·simp only
      rw [hinv, scan_tok hlt' hw hc hk]
     ·simp [tokCells, repN]
   ·intro K hK
    refine r_block <| r_sr <| r_ev rfl rfl <| r_ev rfl rfl <| r_ev rfl rfl ?_
    refine r_gdec rfl rfl (fun a1 => ?_) (fun a1 => ?_)
    ·have hw : white s[i] = true := by simp [white]; omega
     refine r_pass rfl rfl rfl <| r_pass rfl rfl rfl <| r_ev rfl rfl <| r_ev rfl rfl <| r_pass rfl rfl rfl <| r_pass rfl rfl rfl <| r_ev rfl rfl <| r_ev rfl rfl <| r_pass rfl rfl rfl <| r_pass rfl rfl rfl <| r_ev rfl rfl <| r_ev rfl rfl <| r_nn <| r_cond_true rfl ?_; refine r_sr <| r_ev rfl rfl ?_
     refine r_add rfl rfl rfl (by omega) ?_
     refine r_ev rfl rfl <| r_nn <| r_exit <| r_in_exit_other rfl <| r_then_exit <| r_in_exit <| r_then_normal ?_
     exact r_again (i + 1, l, v) ⟨by simp; omega, by simp; omega, by simp only; rw [hinv, scan_white hlt' hw]⟩ (by simp; omega) ⟨rfl, rfl, rfl, rfl, trivial⟩ rfl rfl
    refine r_tev rfl rfl rfl <| r_tev rfl rfl rfl <| r_ev rfl rfl <| r_ev rfl rfl ?_
    refine r_gdec rfl rfl (fun a2 => ?_) (fun a2 => ?_)
    ·have hw : white s[i] = true := by simp [white]; omega
     refine r_pass rfl rfl rfl <| r_pass rfl rfl rfl <| r_ev rfl rfl <| r_ev rfl rfl <| r_pass rfl rfl rfl <| r_pass rfl rfl rfl <| r_ev rfl rfl <| r_ev rfl rfl <| r_nn <| r_cond_true rfl <| r_sr <| r_ev rfl rfl ?_
     refine r_add rfl rfl rfl (by omega) ?_
     refine r_ev rfl rfl <| r_nn <| r_exit <| r_in_exit_other rfl <| r_then_exit <| r_in_exit <| r_then_normal ?_
     exact r_again (i + 1, l, v) ⟨by simp; omega, by simp; omega, by simp only; rw [hinv, scan_white hlt' hw]⟩ (by simp; omega) ⟨rfl, rfl, rfl, rfl, trivial⟩ rfl rfl
    refine r_tev rfl rfl rfl <| r_tev rfl rfl rfl <| r_ev rfl rfl <| r_ev rfl rfl ?_
    refine r_gdec rfl rfl (fun a3 => ?_) (fun a3 => ?_)
    ·have hw : white s[i] = true := by simp [white]; omega
     refine r_pass rfl rfl rfl <| r_pass rfl rfl rfl <| r_ev rfl rfl <| r_ev rfl rfl <| r_nn <| r_cond_true rfl <| r_sr <| r_ev rfl rfl ?_
     refine r_add rfl rfl rfl (by omega) ?_
     refine r_ev rfl rfl <| r_nn <| r_exit <| r_in_exit_other rfl <| r_then_exit <| r_in_exit <| r_then_normal ?_
     exact r_again (i + 1, l, v) ⟨by simp; omega, by simp; omega, by simp only; rw [hinv, scan_white hlt' hw]⟩ (by simp; omega) ⟨rfl, rfl, rfl, rfl, trivial⟩ rfl rfl
    refine r_tev rfl rfl rfl <| r_tev rfl rfl rfl <| r_ev rfl rfl <| r_ev rfl rfl <| r_nn ?_
    refine r_cond rfl (fun a4 => ?_) (fun a4 => ?_)
    ·have hw : white s[i] = true := by simp [white]; omega
     refine r_sr <| r_ev rfl rfl ?_
     refine r_add rfl rfl rfl (by omega) ?_
     refine r_ev rfl rfl <| r_nn <| r_exit <| r_in_exit_other rfl <| r_then_exit <| r_in_exit <| r_then_normal ?_
     exact r_again (i + 1, l, v) ⟨by simp; omega, by simp; omega, by simp only; rw [hinv, scan_white hlt' hw]⟩ (by simp; omega) ⟨rfl, rfl, rfl, rfl, trivial⟩ rfl rfl
    have hw : white s[i] = false := by simp [white]; omega
    refine r_sr <| r_ev rfl rfl <| r_ev rfl rfl <| r_ev rfl rfl <| r_nn ?_
    refine r_cond rfl (fun hc => ?_) (fun hc => ?_)
    ·have hc' : s[i].toNat = 35 := by omega
     refine r_seq <| r_block ?_
     refine r_loop (ι := Nat) (fun j => [(0, str s), (3, ptr b 0), (4, v), (5, .int .i64 j)]) (fun _ => g) (fun _ => [.row 132 3 v l.length (l.flatMap tokCells), .blk b 32 [.int .i64 0, .int .i64 0]])
      (fun j => i ≤ j ∧ j ≤ s.length ∧ j + commentLen (s.drop j) = i + commentLen (s.drop i)) (fun j => s.length - j) i ⟨Nat.le_refl _, by omega, rfl⟩ ⟨rfl, rfl, rfl, rfl, trivial⟩ rfl rfl ?_
     rintro j ⟨hij, hjl, hcm⟩
     have hcp : 1 ≤ commentLen (s.drop i) := by rw [drop_cons hlt']; exact commentLen_pos _ hc'
     refine r_seq <| r_sr <| r_ev rfl rfl <| r_ev rfl rfl <| r_len_str rfl rfl <| r_ev rfl rfl <| r_ev rfl rfl ?_
     refine r_gdec rfl rfl (fun hj => ?_) (fun hj => ?_)
     ·have hj' : j < s.length := by omega
      refine r_tev rfl rfl rfl <| r_tev rfl rfl rfl <| r_take rfl ?_
      refine r_index_str (j := j) rfl rfl rfl rfl hj' ?_
      refine r_tev rfl rfl rfl <| r_ev rfl rfl <| r_nn ?_
      refine r_cond rfl (fun hn => ?_) (fun hn => ?_)
      ·have hst := commentLen_step hj' (by omega)
       refine r_skip <| r_then_normal <| r_block <| r_region <| r_ev rfl rfl ?_
       refine r_add rfl rfl rfl (by omega) ?_
       refine r_ev rfl rfl <| r_nil <| r_in_normal <| r_then_normal ?_
       exact r_again (j + 1) ⟨by omega, by omega, by omega⟩ (by omega) ⟨rfl, rfl, rfl, rfl, trivial⟩ rfl rfl
      ·have hst := commentLen_stop hj' (by omega)
       refine r_exit <| r_then_exit <| r_then_exit <| r_in_exit <| r_then_normal <| r_exit <| r_in_exit_other rfl <| r_then_exit <| r_in_exit <| r_then_normal ?_
       refine r_again (j, l, v) ⟨by simp; omega, by simp; omega, ?_⟩ (by simp; omega) ⟨rfl, rfl, rfl, rfl, trivial⟩ rfl rfl
       simp only
       rw [hinv, scan_comment hlt' hw hc', show i + commentLen (s.drop i) = j by omega]
     ·have hst := commentLen_end (s := s) (k := j) (by omega)
      refine r_pass rfl rfl rfl <| r_pass rfl rfl rfl <| r_pass rfl rfl rfl <| r_pass rfl rfl rfl <| r_ev rfl rfl <| r_nn <| r_cond_false rfl <| r_exit <| r_then_exit <| r_then_exit <| r_in_exit <| r_then_normal <| r_exit <| r_in_exit_other rfl ?_; refine r_then_exit <| r_in_exit <| r_then_normal ?_
      refine r_again (j, l, v) ⟨by simp; omega, by simp; omega, ?_⟩ (by simp; omega) ⟨rfl, rfl, rfl, rfl, trivial⟩ rfl rfl
      simp only
      rw [hinv, scan_comment hlt' hw hc', show i + commentLen (s.drop i) = j by omega]
    have hc' : s[i].toNat ≠ 35 := by omega
    refine r_sr <| r_ev rfl rfl ?_
    refine r_callP rfl rfl (inner_spec g _) ?_
    refine r_ev rfl rfl <| r_nn ?_
    refine r_condb rfl (fun hin => ?_) (fun hin => ?_)
    ·have htk := tokLen_word hlt' hin
     refine r_block ?_
     refine r_loop (ι := Nat) (fun j => [(0, str s), (3, ptr b 0), (4, v), (5, .int .i64 i), (7, .int .i64 j)]) (fun _ => g) (fun _ => [.row 132 3 v l.length (l.flatMap tokCells), .blk b 32 [.int .i64 0, .int .i64 0]])
      (fun j => i + 1 ≤ j ∧ j ≤ s.length ∧ j + wordLen (s.drop j) = i + 1 + wordLen (s.drop (i + 1))) (fun j => s.length - j) (i + 1) ⟨Nat.le_refl _, by omega, rfl⟩ ⟨rfl, rfl, rfl, rfl, rfl, trivial⟩ rfl rfl ?_
     rintro j ⟨hij, hjl, hcm⟩
     refine r_seq <| r_sr <| r_ev rfl rfl <| r_ev rfl rfl <| r_len_str rfl rfl <| r_ev rfl rfl <| r_ev rfl rfl ?_
     refine r_gdec rfl rfl (fun hj => ?_) (fun hj => ?_)
     ·have hj' : j < s.length := by omega
      refine r_tev rfl rfl rfl <| r_tev rfl rfl rfl <| r_take rfl ?_
      refine r_index_str (j := j) rfl rfl rfl rfl hj' ?_
      refine r_take rfl ?_
      refine r_callP rfl rfl (inner_spec g _) ?_
      refine r_ev rfl rfl <| r_nn ?_
      refine r_condb rfl (fun hn => ?_) (fun hn => ?_)
      ·have hst := wordLen_step hj' hn
       refine r_skip <| r_then_normal <| r_block <| r_region <| r_ev rfl rfl ?_
       refine r_add rfl rfl rfl (by omega) ?_
       refine r_ev rfl rfl <| r_nil <| r_in_normal <| r_then_normal ?_
       exact r_again (j + 1) ⟨by omega, by omega, by omega⟩ (by omega) ⟨rfl, rfl, rfl, rfl, rfl, trivial⟩ rfl rfl
      ·have hst := wordLen_stop hj' hn
       have hfin : j = i + tokLen (s.drop i) := by omega
       subst hfin
       refine r_exit <| r_then_exit <| r_then_exit <| r_in_exit <| r_in_normal <| r_then_normal ?_
       exact hK _ ⟨hw, hc'⟩ ⟨rfl, rfl, rfl, rfl, rfl, trivial⟩
     ·have hst := wordLen_end (s := s) (k := j) (by omega)
      have hfin : j = i + tokLen (s.drop i) := by omega
      subst hfin
      refine r_pass rfl rfl rfl <| r_pass rfl rfl rfl <| r_pass rfl rfl rfl <| r_pass rfl rfl rfl <| r_ev rfl rfl <| r_nn <| r_cond_false rfl <| r_exit <| r_then_exit <| r_then_exit <| r_in_exit <| r_in_normal <| r_then_normal ?_
      exact hK _ ⟨hw, hc'⟩ ⟨rfl, rfl, rfl, rfl, rfl, trivial⟩
    ·refine r_sr <| r_ev rfl rfl <| r_ev rfl rfl <| r_ev rfl rfl ?_
     refine r_gdec rfl rfl (fun h45 => ?_) (fun h45 => ?_)
     ·refine r_tev rfl rfl rfl <| r_tev rfl rfl rfl <| r_take rfl <| r_len_str rfl rfl <| r_tev rfl rfl rfl <| r_ev rfl rfl <| r_ev rfl rfl ?_
      refine r_gdec rfl rfl (fun hl2 => ?_) (fun hl2 => ?_)
      ·have hl2' : i + 1 < s.length := by omega
       refine r_tev rfl rfl rfl <| r_tev rfl rfl rfl <| r_take rfl ?_
       refine r_index_str (j := i + 1) rfl rfl rfl rfl hl2' ?_
       refine r_tev rfl rfl rfl <| r_ev rfl rfl <| r_ev rfl rfl <| r_nn ?_
       refine r_cond rfl (fun h62 => ?_) (fun h62 => ?_)
       ·have htk := tokLen_arrow hl2' hin (by omega) (by omega)
        refine r_region <| r_ev rfl rfl ?_
        refine r_add rfl rfl rfl (by omega) ?_
        refine r_ev rfl rfl <| r_nil <| r_in_normal <| r_then_normal ?_
        exact hK _ ⟨hw, hc'⟩ ⟨rfl, rfl, rfl, rfl, by rw [htk]; rfl, trivial⟩
       ·have htk := tokLen_one hlt' hin (fun _ _ => by omega)
        refine r_skip <| r_in_normal <| r_then_normal ?_
        exact hK _ ⟨hw, hc'⟩ ⟨rfl, rfl, rfl, rfl, by rw [htk]; rfl, trivial⟩
      ·have htk := tokLen_one hlt' hin (fun _ h2 => by omega)
       refine r_pass rfl rfl rfl <| r_pass rfl rfl rfl <| r_pass rfl rfl rfl <| r_pass rfl rfl rfl <| r_ev rfl rfl <| r_ev rfl rfl <| r_nn <| r_cond_false rfl <| r_skip <| r_in_normal <| r_then_normal ?_
       exact hK _ ⟨hw, hc'⟩ ⟨rfl, rfl, rfl, rfl, by rw [htk]; rfl, trivial⟩
     ·have htk := tokLen_one hlt' hin (fun h1 => by omega)
      refine r_pass rfl rfl rfl <| r_pass rfl rfl rfl <| r_pass rfl rfl rfl <| r_pass rfl rfl rfl <| r_ev rfl rfl <| r_ev rfl rfl <| r_pass rfl rfl rfl <| r_pass rfl rfl rfl <| r_pass rfl rfl rfl <| r_pass rfl rfl rfl <| r_ev rfl rfl <| r_ev rfl rfl <| r_nn <| r_cond_false rfl ?_; refine r_skip <| r_in_normal <| r_then_normal ?_
      exact hK _ ⟨hw, hc'⟩ ⟨rfl, rfl, rfl, rfl, by rw [htk]; rfl, trivial⟩
  ·have hil : i = s.length := by omega
   subst hil
   refine r_exit <| r_then_exit <| r_then_exit <| r_in_exit <| r_then_normal <| r_sr <| r_ev rfl rfl <| r_build rfl rfl (by rfl) ?_; refine r_ev rfl rfl <| r_storeA 1 rfl rfl rfl rfl (by rfl) rfl rfl ?_; refine r_nn <| r_retc ?_
   refine r_ret2 [_] rfl (.tmp rfl) (res_blk 1 rfl rfl (by rfl)) (List.sublist_append_left [_] [_]) ⟨rfl, ?_⟩
   rw [scan_of hle, hinv, List.drop_length, scanFrom_nil]
   simp only [pre, List.append_nil]
   exact ⟨v, rfl, rfl⟩
end Go.Proofs.YtpjehhnaojjanaaGreatDoor
-- sum 635a04ba1113148b

/- The walks of typedholesref7.Parse at a text of declarations, and of typedholesmake.all. -/
namespace Go.Th
def datasGo (l : List Tok) : Nat → List Da → Nat → Option (List Da)
 | 0, ds, i => if l.length ≤ i then some ds else none
 | f + 1, ds, i => if i < l.length then (if wordAt l i dataB then match declR l i with
   | .ok (d, j) => datasGo l f (ds ++ [d]) j
   | .error _ => none
  else none) else some ds
theorem datasGo_zero {l : List Tok} {ds D : List Da} {i : Nat} (h : datasGo l 0 ds i = some D) : ¬ i < l.length ∧ ds = D := by
 unfold datasGo at h
 split at h
 ·cases h; exact ⟨by omega, rfl⟩
 ·cases h
theorem datasGo_end {l : List Tok} {f : Nat} {ds D : List Da} {i : Nat} (h : datasGo l f ds i = some D) (hi : ¬ i < l.length) : ds = D := by
 cases f with
 | zero => exact (datasGo_zero h).2
 | succ f => simp only [datasGo] at h; rw [if_neg hi] at h; cases h; rfl
theorem datasGo_step {l : List Tok} {f : Nat} {ds D : List Da} {i : Nat} (h : datasGo l f ds i = some D) (hi : i < l.length) : wordAt l i dataB = true ∧ ∃ d j f', f = f' + 1 ∧ declR l i = .ok (d, j) ∧ datasGo l f' (ds ++ [d]) j = some D := by
 cases f with
 | zero => exact absurd hi (datasGo_zero h).1
 | succ f =>
  simp only [datasGo] at h
  rw [if_pos hi] at h
  split at h
  ·rename_i hw
   split at h
   ·rename_i d j hd
    exact ⟨hw, d, j, f, rfl, hd, h⟩
   ·cases h
  ·cases h
theorem datasGo_len {l : List Tok} : ∀ {f : Nat} {ds D : List Da} {i : Nat}, datasGo l f ds i = some D → ds.length ≤ D.length
 | 0, ds, D, i, h => by rw [(datasGo_zero h).2]; exact Nat.le_refl _
 | f + 1, ds, D, i, h => by
  by_cases hi : i < l.length
  ·obtain ⟨_, d, j, f', hf, _, h2⟩ := datasGo_step h hi
   cases hf
   have := datasGo_len h2
   simp only [List.length_append, List.length_cons, List.length_nil] at this
   omega
  ·rw [datasGo_end h hi]; exact Nat.le_refl _
def allTxt : Bytes := [100, 97, 116, 97, 32, 66, 111, 111, 108, 32, 61, 32, 84, 114, 117, 101, 32, 124, 32, 70, 97, 108, 115, 101, 59, 32, 100, 97, 116, 97, 32, 79, 112, 116, 105, 111, 110, 32, 97, 32, 61, 32, 78, 111, 110, 101, 32, 124, 32, 83, 111, 109, 101, 32, 97, 59, 32, 100, 97, 116, 97, 32, 76, 105, 115, 116, 32, 97, 32, 61, 32, 78, 105, 108, 32, 124, 32, 67, 111, 110, 115, 32, 97, 32, 40, 76, 105, 115, 116, 32, 97, 41, 59, 100, 97, 116, 97, 32, 80, 97, 105, 114, 32, 97, 32, 98, 32, 61, 32, 80, 97, 105, 114, 32, 97, 32, 98, 59, 32, 100, 97, 116, 97, 32, 78, 97, 116, 32, 61, 32, 90, 101, 114, 111, 32, 124, 32, 83, 117, 99, 99, 32, 78, 97, 116, 59, 32, 100, 97, 116, 97, 32, 70, 117, 110, 32, 97, 32, 98, 32, 61, 32, 70, 117, 110, 32, 40, 97, 32, 45, 62, 32, 98, 41, 59, 32, 100, 97, 116, 97, 32, 84, 119, 111, 32, 97, 32, 61, 32, 66, 111, 116, 104, 32, 97, 32, 97, 32, 124, 32, 79, 110, 101, 32, 40, 79, 112, 116, 105, 111, 110, 32, 97, 41, 59]
def allD : List Da := (datasGo (toksOf allTxt) 100 [] 0).getD []
end Go.Th
namespace Go.Proofs.YtpjehhnaojjanaaGreatDoor
open Go Go.Eng Go.Th Go.Proofs
set_option maxRecDepth 10000
set_option maxHeartbeats 4000000
attribute [local irreducible] wpList Code.wp Run bodyPost Go.Eng.Ends Exit.then Exit.inBlock Again Wq Kq
theorem toksOf_TB7 (s : Bytes) : TB (toksOf s) := by
 obtain ⟨h1, h2⟩ := toksOf_facts s
 refine ⟨by omega, fun t ht => ?_⟩
 obtain ⟨a1, a2, a3, a4⟩ := h2 t ht
 exact ⟨by omega, by omega, by omega⟩
theorem toksOf_KW7 (s : Bytes) : KW (toksOf s) := fun t ht => ((toksOf_facts s).2 t ht).1
theorem das_snoc {g : Ghost} {l : List Da} {xs cs : List Value} {d : Da} (h : AllAt (DaAt g) l xs) (h1 : DaAt g d cs) : AllAt (DaAt g) (l ++ [d]) (xs ++ cs) := AllAt.snoc h1 h
theorem Parse7_datas (g : Ghost) (s : Bytes) (hs : s.length ≤ 4000) {l : List Tok} (hsc : scan s = .ok l) {f : Nat} {D : List Da} (hD : datasGo l f [] 0 = some D) (hn : D.length ≤ 8) (hok : ∀ d ∈ D, okD d) :
  SpecN Tryz.prog 11 [str s] g fun v g' => ∃ pv, v = .tuple #[pv, .agg #[.int .i64 0, .int .i64 0]] ∧ PgV g' pv ⟨D, []⟩ := by
 have hl : toksOf s = l := by unfold toksOf; rw [hsc]
 have hb : TB l := hl ▸ toksOf_TB7 s
 have hkw : KW l := hl ▸ toksOf_KW7 s
 have hb1 := hb.1
 refine spec_of_run Tryz.func11 rfl Tryz.ntmps11 rfl fun E hE => ?_
 refine r_sr ?_
 refine r_alloc rfl (fun b2 => ?_)
 refine r_alloc rfl (fun b3 => ?_)
 refine r_nn <| r_sr <| r_ev rfl rfl ?_
 refine r_call rfl rfl (refScan_spec g s (by omega)) ?_
 rintro v g0 own' ⟨rfl, hp⟩ _
 rw [hsc] at hp
 obtain ⟨sv, rfl, rfl⟩ := hp
 refine r_publishRow (fun g1 hg1 h1 => ?_)
 have hts : ToksAt g1 sv l := h1
 obtain ⟨sa, sc, rfl⟩ := slForm2 h1
 refine r_ev rfl rfl <| r_ev rfl rfl <| r_ev rfl rfl ?_
 refine r_alloc rfl (fun b5 => ?_)
 refine r_ev rfl rfl <| r_storeA 0 rfl rfl rfl rfl (by rfl) (by repeat' (first | exact rfl | assumption | refine all_cons ?_ ?_)) rfl ?_; refine r_nn <| r_seq <| r_sr <| r_fieldAddr rfl rfl <| r_loadB1 0 rfl rfl rfl rfl <| r_ev rfl rfl <| r_nn <| r_cond_false rfl <| r_skip <| r_then_normal <| r_sr ?_
 refine r_alloc rfl (fun b6 => ?_)
 refine r_nn <| r_sr <| r_ev rfl rfl ?_
 refine r_call' (lent := []) (kept := _) rfl rfl (List.Perm.refl _) (New5_spec g1 l _ hts 0) ?_
 rintro w g1' own' ⟨rfl, b, rfl, rfl⟩ _
 have hi0 : idxOf l.length 0 = 0 := by unfold idxOf; rw [if_neg (by omega)]; simp
 rw [hi0]
 refine r_ev rfl rfl <| r_nn <| r_seq <| r_block ?_
 refine r_nilRow 86 4 ?_
 refine r_loop (ι := Nat × Nat × List Da × Value × List Value × Ghost) (fun p => [(4, .slice sa l.length sc), (7, ptr b 0), (2, ptr b2 0), (3, ptr b3 0), (5, ptr b5 0), (6, ptr b6 0)]) (fun p => p.2.2.2.2.2)
  (fun p => [.row 86 4 p.2.2.2.1 p.2.2.1.length p.2.2.2.2.1, rdB b (.slice sa l.length sc) (.good p.2.1), .blk b6 29 [p.2.2.2.1, .slice none 0 0], .blk b5 32 [.int .i64 0, .int .i64 0], .blk b3 32 [.int .i64 0, .int .i64 0], .blk b2 29 [.slice none 0 0, .slice none 0 0]])
  (fun p => Ghost.le g1' p.2.2.2.2.2 ∧ (∃ a m c, p.2.2.2.1 = .slice a m c) ∧ p.2.1 ≤ l.length ∧ AllAt (DaAt p.2.2.2.2.2) p.2.2.1 p.2.2.2.2.1 ∧ datasGo l p.1 p.2.2.1 p.2.1 = some D) (fun p => p.1) (f, 0, [], .slice none 0 0, [], g1')
  ⟨Ghost.le_refl _, ⟨_, _, _, rfl⟩, Nat.zero_le _, rfl, hD⟩ ⟨rfl, rfl, rfl, rfl, rfl, rfl, trivial⟩ rfl rfl ?_
 rintro ⟨f1, i, ds, sd, xd, g2⟩ ⟨k1, ⟨da, dm, dc, k2⟩, k3, k4, k5⟩
 simp only at k1 k2 k3 k4 k5
 subst k2
 have hts2 := hts.mono k1
 have hdl := datasGo_len k5
 show Run E _ [(4, .slice sa l.length sc), (7, ptr b 0), (2, ptr b2 0), (3, ptr b3 0), (5, ptr b5 0), (6, ptr b6 0)] g2 [.row 86 4 (.slice da dm dc) ds.length xd, rdB b (.slice sa l.length sc) (.good i), .blk b6 29 [.slice da dm dc, .slice none 0 0], .blk b5 32 [.int .i64 0, .int .i64 0], .blk b3 32 [.int .i64 0, .int .i64 0], .blk b2 29 [.slice none 0 0, .slice none 0 0]] _
 refine r_seq <| r_sr <| r_ev rfl rfl <| r_ev rfl rfl <| r_fieldAddr rfl rfl <| r_loadB1 1 rfl rfl rfl rfl <| r_ev rfl rfl <| r_ev rfl rfl <| r_tev rfl rfl rfl <| r_tev rfl rfl rfl <| r_take rfl <| r_fieldAddr rfl rfl <| r_take rfl <| r_loadB1 1 rfl rfl rfl rfl ?_; refine r_tev rfl rfl rfl <| r_take rfl <| r_len_sl rfl rfl <| r_tev rfl rfl rfl <| r_ev rfl rfl <| r_nn ?_
 refine r_cond rfl (fun hlt => ?_) (fun hlt => ?_)
 ·have hlt' : i < l.length := by omega
  obtain ⟨hw, d, j, f2, hf, hd, k6⟩ := datasGo_step k5 hlt'
  subst hf
  have hp : isAt l i dataB = wordAt l i dataB := isAt_word hkw (by decide) i
  have hdb := declR_bnd hd
  have hdl2 := datasGo_len k6
  simp only [List.length_append, List.length_cons, List.length_nil] at hdl2
  refine r_skip <| r_then_normal <| r_block <| r_sr <| r_ev rfl rfl ?_
  refine r_callO 1 rfl rfl rfl (Is5_spec g2 l _ hts2 b (.good i) dataB) ?_
  rw [show RS.isIs l dataB (.good i) = true from hp.trans hw]
  refine r_nn <| r_cond_true rfl ?_
  refine m_begin 6 [1, 0] mixed (by kernel_rfl) (fun hG => ?_)
  refine m_takeXA 0 rfl (by kernel_rfl) rfl hG ?_; refine ⟨_, (val_fieldAddr rfl), ?_⟩; refine m_takeXA 1 rfl (by kernel_rfl) rfl hG ?_; refine ⟨_, (val_loadB1 0 rfl rfl rfl), ?_⟩; refine m_takeXA 2 rfl (by kernel_rfl) rfl hG ?_; refine ⟨_, (val_ev rfl), ?_⟩
  refine m_one 3 (by kernel_rfl) rfl rfl ?_
  refine r_callL 1 rfl rfl rfl (decl7_spec hb hkw g2 _ b i hts2 (by omega)) ?_
  rintro w g3 r' hw3 hle3
  rw [hd] at hw3
  obtain ⟨⟨cs, rfl, hda⟩, rfl, _, _⟩ := hw3
  obtain ⟨a1, c1, a2, c2, xc, rfl, _⟩ := hda.form
  refine r_nn ?_
  refine h_keptA hG ?_
  refine m_one 4 (by kernel_rfl) rfl rfl ?_
  refine r_buildSlice rfl rfl (by rfl) (by rfl) (by rfl) (by rfl) (by rfl) (fun b40 => ?_)
  refine r_nn ?_
  refine h_keptA hG ?_
  refine m_one 5 (by kernel_rfl) rfl rfl ?_
  refine r_appendRow 1 0 rfl rfl rfl rfl rfl (by rfl) (by rfl) rfl (by unfold maxLen; omega) (by omega) (fun v' hv' => ?_)
  refine r_rowForm 1 rfl ?_
  rintro ⟨ya, ym, yc, rfl⟩
  refine r_nn ?_
  refine h_keptA hG ?_
  refine m_done (by kernel_rfl) ?_
  refine r_drop (own' := [_, _, _, _, _, _]) (.cons _ (List.Sublist.refl _)) ?_
  refine r_fieldAddr rfl rfl <| r_store1 2 rfl rfl rfl rfl rfl rfl <| r_nil <| r_in_normal <| r_then_normal ?_
  refine r_again (f2, j, ds ++ [d], .slice ya ym yc, _, g3) ⟨Ghost.le_trans k1 hle3, ⟨_, _, _, rfl⟩, by simp only; omega, das_snoc (das_mono hle3 k4) hda, k6⟩ (Nat.lt_succ_self _) ⟨rfl, rfl, rfl, rfl, rfl, rfl, trivial⟩ rfl ?_
  simp [repN]
 ·have hds := datasGo_end k5 (by omega)
  subst hds
  refine r_publishRow (fun g3 hg3 hs3 => ?_)
  have hV : PgV g3 (.agg #[.slice da dm dc, .slice none 0 0]) ⟨ds, []⟩ := ⟨_, rfl, _, xd, _, [], rfl, hs3, das_mono hg3 k4, slNil g3 20, rfl⟩
  refine r_exit <| r_then_exit <| r_then_exit <| r_in_exit <| r_then_normal <| r_seq <| r_sr <| r_ev rfl rfl <| r_ev rfl rfl <| r_fieldAddr rfl rfl <| r_loadB1 0 rfl rfl rfl rfl <| r_nn <| r_cond_false rfl <| r_skip ?_; refine r_then_normal <| r_seq <| r_sr <| r_loadB 1 rfl rfl rfl (by rfl) ?_
  refine r_callP rfl rfl (Deep7_datas g3 ⟨ds, []⟩ _ hV rfl hn hok) ?_
  refine r_storeA 2 rfl rfl rfl rfl (by rfl) (by repeat' (first | exact rfl | assumption | refine all_cons ?_ ?_)) rfl ?_; refine r_nn <| r_sr <| r_fieldAddr rfl rfl <| r_loadB1 2 rfl rfl rfl rfl <| r_ev rfl rfl <| r_nn <| r_cond_false rfl <| r_skip <| r_then_normal <| r_seq ?_
  -- STOPB
  refine h_beginE [4, 3] mixed (fun hG => ?_)
  refine h_takeXA 0 rfl (by kernel_rfl) rfl hG ?_; refine ⟨_, (val_loadB 1 rfl rfl (by rfl)), ?_⟩; refine h_takeXA 1 rfl (by kernel_rfl) rfl hG ?_; refine ⟨_, (val_loadB 2 rfl rfl (by rfl)), ?_⟩
  refine h_one 2 (by kernel_rfl) rfl ?_
  refine r_storeA 4 rfl rfl rfl rfl (by rfl) (by repeat' (first | exact rfl | assumption | refine all_cons ?_ ?_)) rfl ?_; refine r_nn ?_
  refine h_keptA hG ?_
  refine h_one 3 (by kernel_rfl) rfl ?_
  refine r_storeA 3 rfl rfl rfl rfl (by rfl) (by repeat' (first | exact rfl | assumption | refine all_cons ?_ ?_)) rfl ?_; refine r_nn ?_
  refine h_keptA hG ?_
  refine h_done (by kernel_rfl) ?_
  refine r_then_normal <| r_retc ?_
  exact r_ret2 [] rfl (res_blk 4 rfl rfl (by rfl)) (res_blk 3 rfl rfl (by rfl)) (by simp) ⟨⟨_, rfl, hV⟩, rfl⟩
theorem allTxt_scan : scan allTxt = .ok (toksOf allTxt) := by kernel_rfl
theorem allD_go : datasGo (toksOf allTxt) 100 [] 0 = some allD := by kernel_rfl
theorem allD_len : allD.length = 7 := by kernel_rfl
def okDB (d : Da) : Bool := decide (d.params.length ≤ 4) && decide (d.cons.length ≤ 6) && d.cons.all fun c => decide (c.fields.length ≤ 4) && c.fields.all fun t => decide (depthT t ≤ 40)
theorem okD_of {d : Da} (h : okDB d = true) : okD d := by
 simp only [okDB, Bool.and_eq_true, decide_eq_true_eq, List.all_eq_true] at h
 exact ⟨h.1.1, h.1.2, fun c hc => ⟨(h.2 c hc).1, fun t ht => (h.2 c hc).2 t ht⟩⟩
theorem allD_ok : ∀ d ∈ allD, okD d := fun d hd => okD_of (List.all_eq_true.1 (show allD.all okDB = true by kernel_rfl) d hd)
theorem all7_spec (g : Ghost) : SpecN Tryz.prog 77 [] g fun v g' => ∃ xd, SlAt g' 4 v allD.length xd ∧ AllAt (DaAt g') allD xd := by
 refine spec_of_run Tryz.func77 rfl Tryz.ntmps77 rfl fun E hE => ?_
 refine r_sr <| r_ev rfl rfl <| r_nn <| r_sr ?_
 refine r_callN rfl rfl (Parse7_datas g allTxt (Nat.le_of_ble_eq_true (by kernel_rfl)) allTxt_scan allD_go (by rw [allD_len]; decide) allD_ok) ?_
 rintro w g1 ⟨pv, rfl, cs, rfl, sd, xd, sb, xb, rfl, h1, h2, h3, h4⟩ hle
 obtain ⟨da, dc, rfl⟩ := slForm2 h1
 obtain ⟨ba, bc, rfl⟩ := slForm2 h3
 refine r_ev rfl rfl <| r_ev rfl rfl <| r_ev rfl rfl ?_
 refine r_alloc rfl (fun b1 => ?_)
 refine r_alloc rfl (fun b2 => ?_)
 refine r_storeA 1 rfl rfl rfl rfl (by rfl) (by repeat' (first | exact rfl | assumption | refine all_cons ?_ ?_)) rfl ?_; refine r_storeA 0 rfl rfl rfl rfl (by rfl) (by repeat' (first | exact rfl | assumption | refine all_cons ?_ ?_)) rfl ?_; refine r_nn <| r_sr <| r_fieldAddr rfl rfl <| r_loadB1 1 rfl rfl rfl rfl <| r_ev rfl rfl <| r_nn <| r_retc ?_
 exact r_ret1 [] rfl rfl (by simp) ⟨⟨xd, h1, h2⟩, rfl⟩
end Go.Proofs.YtpjehhnaojjanaaGreatDoor
-- sum fa098664796f3794

/- The walks of typedholesmake: Datas, Next, Named, Few. -/
namespace Go.Eng
open Go Go.RowKit
def andI (p q : Int) : Int := IntKind.i64.wrap (((p % 18446744073709551616).toNat &&& (q % 18446744073709551616).toNat : Nat) : Int)
section
variable {P : Program} {E : Env} {n : Nat} {L : Slots} {g : Ghost} {own : List Res}
variable {d : Nat} {ty : TypeId} {pos : String} {after : Array Edge}
theorem val_and {x y : Operand} {T T' : TypeId} {p q : Int} (hx : ev L x = some (.int .i64 p)) (hy : ev L y = some (.int .i64 q)) :
  Val P E n L g own ty (.binOp .and T x y T') (.int .i64 (andI p q)) := fun a w dst pos after hF _ => by
 simp [execOp, hF.eval hx, hF.eval hy, eqGuard, binOp, Op.intBits, andI, IntKind.bits]
 rfl
theorem val_shr {x y : Operand} {T T' : TypeId} {K : IntKind} {p q : Int} (hx : ev L x = some (.int .i64 p)) (hy : ev L y = some (.int K q)) (hq : 0 ≤ q) :
  Val P E n L g own ty (.binOp .shr T x y T') (.int .i64 (p.fdiv (2 ^ min q.toNat 64))) := fun a w dst pos after hF _ => by
 have : ¬ q < 0 := by omega
 simp [execOp, hF.eval hx, hF.eval hy, eqGuard, binOp, Op.shift, this, IntKind.bits]
end
end Go.Eng
namespace Go.Proofs.YtpjehhnaojjanaaGreatDoor
open Go Go.Eng Go.Th Go.Proofs
set_option maxRecDepth 10000
set_option maxHeartbeats 4000000
attribute [local irreducible] wpList Code.wp Run bodyPost Go.Eng.Ends Exit.then Exit.inBlock Again Wq Kq
theorem Datas_spec (g : Ghost) (bits : Int) : SpecN Tryz.prog 30 [.int .i64 bits] g fun v g' => ∃ ds xd, SlAt g' 4 v ds.length xd ∧ AllAt (DaAt g') ds xd ∧ ds.length ≤ 8 ∧ ∀ d ∈ ds, d ∈ allD := by
 refine spec_of_run Tryz.func30 rfl Tryz.ntmps30 rfl fun E hE => ?_
 refine r_sr <| r_ev rfl rfl <| r_nn <| r_sr ?_
 refine r_callN rfl rfl (all7_spec g) ?_
 rintro w g1 ⟨xd, h1, h2⟩ hle
 rw [allD_len] at h1
 obtain ⟨b, off, cap, rfl, hx⟩ := h1.held (show 0 < 7 by omega)
 have hrd : ∀ (i : Nat) (h : i < 7), ∃ cs, DaAt g1 (allD[i]'(by rw [allD_len]; exact h)) cs ∧ ∀ own, Rd g1 own b (off + i * 4) cs := fun i h => all_rd (fun _ _ h => h.one.1) h2 hx (by rw [allD_len]; exact h)
 have hmem : ∀ (i : Nat) (h : i < 7), allD[i]'(by rw [allD_len]; exact h) ∈ allD := fun i h => List.getElem_mem _
 refine r_ev rfl rfl <| r_nn ?_
 refine r_sr ?_
 refine r_ev rfl rfl <| r_nn ?_
 refine r_nilRow 86 4 ?_
 refine r_cutG (ι := List Da × Value × List Value) (fun p => [(0, .int .i64 bits), (3, .slice (some ⟨b, off, none⟩) 7 cap), (4, p.2.1)]) (fun _ => g1)
  (fun p => [.row 86 4 p.2.1 p.1.length p.2.2]) (fun p => p.1.length ≤ 1 ∧ AllAt (DaAt g1) p.1 p.2.2 ∧ ∀ d ∈ p.1, d ∈ allD) ?_ ?_
 ·rintro ⟨ds, v, xs⟩ ⟨k1, k2, k3⟩
  simp only at k1 k2 k3
  show Run E _ [(0, .int .i64 bits), (3, .slice (some ⟨b, off, none⟩) 7 cap), (4, v)] g1 [.row 86 4 v ds.length xs] _
  refine r_seq <| r_sr <| r_ev rfl rfl <| r_nn <| r_block ?_
  refine r_loop (ι := Nat × List Da × Value × List Value) (fun p => [(0, .int .i64 bits), (3, .slice (some ⟨b, off, none⟩) 7 cap), (4, p.2.2.1), (5, .int .i64 p.1)]) (fun _ => g1)
   (fun p => [.row 86 4 p.2.2.1 p.2.1.length p.2.2.2]) (fun p => p.1 ≤ 7 ∧ p.2.1.length ≤ 1 + p.1 ∧ AllAt (DaAt g1) p.2.1 p.2.2.2 ∧ ∀ d ∈ p.2.1, d ∈ allD) (fun p => 7 - p.1) (0, ds, v, xs) ⟨by simp, by simp only; omega, k2, k3⟩ ⟨rfl, rfl, rfl, rfl, trivial⟩ rfl rfl ?_
  rintro ⟨i, ds, v, xs⟩ ⟨k1, k2, k3, k4⟩
  simp only at k1 k2 k3 k4
  show Run E _ [(0, .int .i64 bits), (3, .slice (some ⟨b, off, none⟩) 7 cap), (4, v), (5, .int .i64 i)] g1 [.row 86 4 v ds.length xs] _
  refine r_seq <| r_sr <| r_ev rfl rfl <| r_ev rfl rfl <| r_len_sl rfl rfl <| r_ev rfl rfl <| r_nn ?_
  refine r_cond rfl (fun hlt => ?_) (fun hlt => ?_)
  ·have hlt' : i < 7 := by omega
   obtain ⟨cs, e1, hr⟩ := hrd i hlt'
   have hm := hmem i hlt'
   obtain ⟨a1, c1, a2, c2, xc, rfl, _⟩ := e1.form
   refine r_skip <| r_then_normal <| r_seq <| r_block <| r_sr <| r_ev rfl rfl <| r_ev rfl rfl <| r_ev rfl rfl ?_
   refine r_gdec rfl rfl (fun h1i => ?_) (fun h1i => ?_)
   ·refine r_tev rfl rfl rfl <| r_tev rfl rfl rfl <| r_take rfl ?_
    refine r_conv_int rfl rfl (by simp [IntKind.wrap, IntKind.bits, IntKind.signed]; omega) ?_
    refine r_take rfl ?_
    refine r_v rfl (val_shr (q := (i : Int)) rfl rfl (by omega)) ?_
    refine r_take rfl ?_
    refine r_v rfl (val_and rfl rfl) ?_
    refine r_tev rfl rfl rfl <| r_ev rfl rfl <| r_nn ?_
    refine r_cond rfl (fun hbit => ?_) (fun hbit => ?_)
    ·refine r_region <| r_ev rfl rfl <| r_ev rfl rfl <| r_ev rfl rfl <| r_indexAddr rfl rfl rfl rfl (by omega) ?_
     refine r_load rfl rfl (hr _) rfl ?_
     refine r_buildSlice rfl rfl (by rfl) (by rfl) (by rfl) (by rfl) (by rfl) (fun b42 => ?_)
     refine r_appendRow 1 0 rfl rfl rfl rfl rfl (by rfl) (by rfl) rfl (by unfold maxLen; omega) (by omega) (fun v' _ => ?_)
     refine r_drop (own' := [_]) (.cons _ (List.Sublist.refl _)) ?_
     refine r_ev rfl rfl <| r_nil <| r_in_normal <| r_then_normal <| r_region <| r_ev rfl rfl <| r_add rfl rfl rfl (by omega) ?_; refine r_ev rfl rfl <| r_nn ?_
     refine r_again (i + 1, ds ++ [_], v', _) ⟨hlt', by simp only [List.length_append, List.length_cons, List.length_nil]; omega, das_snoc k3 e1, ?_⟩ (by simp only; omega) ⟨rfl, rfl, rfl, rfl, trivial⟩ rfl ?_
     ·intro d hd
      rcases List.mem_append.1 hd with hd | hd
      ·exact k4 d hd
      ·rw [List.mem_singleton] at hd; subst hd; exact hm
     ·simp [repN]
    ·refine r_skip <| r_in_normal <| r_then_normal <| r_region <| r_ev rfl rfl <| r_add rfl rfl rfl (by omega) ?_; refine r_ev rfl rfl <| r_nn ?_
     exact r_again (i + 1, ds, v, xs) ⟨hlt', by simp only; omega, k3, k4⟩ (by simp only; omega) ⟨rfl, rfl, rfl, rfl, trivial⟩ rfl rfl
   ·refine r_pass rfl rfl rfl <| r_pass rfl rfl rfl <| r_pass rfl rfl rfl <| r_pass rfl rfl rfl <| r_pass rfl rfl rfl <| r_pass rfl rfl rfl <| r_ev rfl rfl <| r_nn <| r_cond_false rfl <| r_skip <| r_in_normal <| r_then_normal <| r_region <| r_ev rfl rfl ?_; refine r_add rfl rfl rfl (by omega) ?_; refine r_ev rfl rfl <| r_nn ?_
    exact r_again (i + 1, ds, v, xs) ⟨hlt', by simp only; omega, k3, k4⟩ (by simp only; omega) ⟨rfl, rfl, rfl, rfl, trivial⟩ rfl rfl
  ·refine r_publishRow (fun g2 hg2 hs2 => ?_)
   obtain ⟨va, vc, rfl⟩ := slForm2 hs2
   refine r_exit <| r_then_exit <| r_then_exit <| r_in_exit <| r_then_normal <| r_sr <| r_ev rfl rfl <| r_ev rfl rfl <| r_nn <| r_retc ?_
   exact r_ret1 [] rfl rfl (by simp) ⟨⟨ds, xs, hs2, das_mono hg2 k3, by omega, k4⟩, rfl⟩
 ·intro K hK
  obtain ⟨cs, e1, hr⟩ := hrd 1 (by omega)
  have hm := hmem 1 (by omega)
  obtain ⟨a1, c1, a2, c2, xc, rfl, _⟩ := e1.form
  refine r_sr <| r_ev rfl rfl ?_
  refine r_v rfl (val_and rfl rfl) ?_
  refine r_ev rfl rfl <| r_ev rfl rfl ?_
  refine r_gdec rfl rfl (fun hb1 => ?_) (fun hb1 => ?_)
  ·refine r_pass rfl rfl rfl <| r_pass rfl rfl rfl <| r_pass rfl rfl rfl <| r_ev rfl rfl <| r_nn <| r_cond_true rfl <| r_region <| r_ev rfl rfl <| r_ev rfl rfl ?_
   refine r_indexAddr (j := 1) rfl rfl rfl (by omega) (by omega) ?_
   refine r_load rfl rfl (hr _) rfl ?_
   refine r_buildSlice rfl rfl (by rfl) (by rfl) (by rfl) (by rfl) (by rfl) (fun b42 => ?_)
   refine r_appendRow 1 0 rfl rfl rfl rfl rfl (by rfl) (by rfl) rfl (by unfold maxLen; omega) (by omega) (fun v' _ => ?_)
   refine r_drop (own' := [_]) (.cons _ (List.Sublist.refl _)) ?_
   refine r_ev rfl rfl <| r_nn ?_
   exact hK ([_], v', _) _ ⟨by simp, AllAt.snoc (l := []) e1 rfl, fun d hd => by rw [List.mem_singleton] at hd; subst hd; exact hm⟩ ⟨rfl, rfl, rfl, trivial⟩
  ·refine r_tev rfl rfl rfl <| r_take rfl ?_
   refine r_v rfl (val_and rfl rfl) ?_
   refine r_tev rfl rfl rfl <| r_ev rfl rfl <| r_nn ?_
   refine r_cond rfl (fun hb2 => ?_) (fun hb2 => ?_)
   ·refine r_region <| r_ev rfl rfl <| r_ev rfl rfl ?_
    refine r_indexAddr (j := 1) rfl rfl rfl (by omega) (by omega) ?_
    refine r_load rfl rfl (hr _) rfl ?_
    refine r_buildSlice rfl rfl (by rfl) (by rfl) (by rfl) (by rfl) (by rfl) (fun b42 => ?_)
    refine r_appendRow 1 0 rfl rfl rfl rfl rfl (by rfl) (by rfl) rfl (by unfold maxLen; omega) (by omega) (fun v' _ => ?_)
    refine r_drop (own' := [_]) (.cons _ (List.Sublist.refl _)) ?_
    refine r_ev rfl rfl <| r_nn ?_
    exact hK ([_], v', _) _ ⟨by simp, AllAt.snoc (l := []) e1 rfl, fun d hd => by rw [List.mem_singleton] at hd; subst hd; exact hm⟩ ⟨rfl, rfl, rfl, trivial⟩
   ·refine r_skip <| r_then_normal ?_
    exact hK ([], .slice none 0 0, []) _ ⟨by simp, rfl, fun d hd => by cases hd⟩ ⟨rfl, rfl, rfl, trivial⟩
abbrev tpB (b : Nat) (lv : Value) (i : Nat) : Res := .blk b 65 [lv, .int .i64 i]
theorem Next_spec (g : Ghost) (codes : List Int) (hc : codes.length ≤ 1000000) (lv : Value) (hs : SlAt g 1 lv codes.length (codes.map (Value.int .i64))) (b i : Nat) (hi : i ≤ codes.length) (n : Int) (hn : 1 ≤ n ∧ n ≤ 1000000) :
  SpecL Tryz.prog 75 [ptr b 0, .int .i64 n] g (tpB b lv i) fun v g' r' => g' = g ∧ ∃ (k : Int) (i' : Nat), v = .int .i64 k ∧ 0 ≤ k ∧ k < n ∧ r' = tpB b lv i' ∧ i' ≤ codes.length := by
 refine spec_of_run Tryz.func75 rfl Tryz.ntmps75 rfl fun E hE => ?_
 refine r_sr <| r_ev rfl rfl <| r_nn <| r_seq <| r_seq ?_
 refine r_qregion mixed (by kernel_rfl) ?_
 refine q_ev rfl rfl <| q_ev rfl rfl <| q_v rfl (val_fieldAddr rfl) ?_; refine q_v rfl (val_loadB1 0 rfl rfl rfl) ?_; refine q_ev rfl rfl <| q_ev rfl rfl <| q_v rfl (val_fieldAddr rfl) ?_; refine q_v rfl (val_loadB1 0 rfl rfl rfl) ?_; refine q_v rfl (val_len_at rfl (by assumption)) ?_; refine q_ev rfl rfl <| q_end <| r_then_normal ?_
 refine r_cond rfl (fun hge => ?_) (fun hge => ?_)
 ·refine r_sr <| r_ev rfl rfl <| r_nn <| r_retc <| r_then_ret ?_
  exact r_ret1 [_] rfl rfl (List.Sublist.refl _) ⟨_, rfl, rfl, 0, i, rfl, by omega, by omega, rfl, hi⟩
 ·have hlt' : i < codes.length := by omega
  obtain ⟨b0, off, cap, rfl, hx⟩ := hs.held hlt'
  have e1 : (codes.map (Value.int .i64))[i * 1]? = some (.int .i64 codes[i]) := by simp [hlt']
  have hm : 0 ≤ modI codes[i] n ∧ modI codes[i] n < n := by
   unfold modI
   rw [if_neg (by omega)]
   exact ⟨Int.emod_nonneg _ (by omega), Int.emod_lt_of_pos _ (by omega)⟩
  refine r_skip <| r_then_normal <| r_sr <| r_ev rfl rfl <| r_ev rfl rfl <| r_fieldAddr rfl rfl <| r_loadB1 0 rfl rfl rfl rfl <| r_add rfl rfl rfl (by omega) ?_; refine r_ev rfl rfl <| r_fieldAddr rfl rfl <| r_store1 0 rfl rfl rfl rfl rfl rfl <| r_nn <| r_seq ?_
  refine r_qregion mixed (by kernel_rfl) ?_
  refine q_ev rfl rfl <| q_ev rfl rfl <| q_v rfl (val_fieldAddr rfl) ?_; refine q_v rfl (val_loadB1 0 rfl rfl rfl) ?_; refine q_ev rfl rfl <| q_ev rfl rfl <| q_v rfl (val_fieldAddr rfl) ?_; refine q_v rfl (val_loadB1 0 rfl rfl rfl) ?_; refine q_v rfl (val_sub_ rfl rfl (by omega)) ?_
  refine q_v rfl (val_indexAddr (j := i) rfl rfl (by omega) hlt') ?_
  skip
  refine q_v rfl (val_load1 rfl (rd_g1 (hx (i * 1) _ e1))) ?_
  refine q_ev rfl rfl ?_
  refine q_callP rfl rfl (Mod_spec g codes[i] n (by omega)) ?_
  refine q_ev rfl rfl <| q_end <| r_then_normal <| r_retc ?_
  exact r_ret1 [_] rfl rfl (List.Sublist.refl _) ⟨_, rfl, rfl, modI codes[i] n, i + 1, rfl, hm.1, hm.2, rfl, by omega⟩
end Go.Proofs.YtpjehhnaojjanaaGreatDoor
-- sum 69c423330e9f0c25


/- The walks of package token, second part: HasPrefix, Scan. -/
import Derived.Test.YtpjehhnaojjanaaGreatDoorTokA
import Derived.Test.YtpjehhnaojjanaaGreatDoorPrJ
import Derived.Test.YtpjehhnaojjanaaGreatDoorK15
namespace Go.Proofs.YtpjehhnaojjanaaGreatDoor
open Go Go.Eng Go.Th Go.Proofs
set_option maxRecDepth 10000
set_option maxHeartbeats 4000000
attribute [local irreducible] wpList Code.wp Run bodyPost Go.Eng.Ends Exit.then Exit.inBlock Again Wq Kq
theorem sHasPrefix_spec (g : Ghost) (s p : Bytes) : Pure Tryz.prog 126 [str s, str p] g (.bool (decide (p.length ≤ s.length ∧ s.take p.length = p))) := by
 refine spec_of_run Tryz.func126 rfl Tryz.ntmps126 rfl fun E hE => ?_
 refine r_sr <| r_ev rfl rfl <| r_nn <| r_sr <| r_ev rfl rfl <| r_len_str rfl rfl <| r_ev rfl rfl <| r_len_str rfl rfl <| r_ev rfl rfl <| r_ev rfl rfl ?_
 refine r_gdec rfl rfl (fun h => ?_) (fun h => ?_)
 ·have h' : p.length ≤ s.length := by omega
  refine r_tev rfl rfl rfl <| r_tev rfl rfl rfl <| r_take rfl <| r_len_str rfl rfl <| r_take rfl ?_
  refine r_slice_str (p := 0) (q := p.length) rfl rfl rfl ⟨_, _, rfl, rfl⟩ (by omega) (by omega) ?_
  refine r_tev rfl rfl rfl <| r_tev rfl rfl rfl <| r_ev rfl rfl <| r_ev rfl rfl <| r_nn <| r_retc ?_
  exact r_ret1 [] rfl rfl (by simp) ⟨vb (by simp [h']), rfl, rfl⟩
 ·have h' : ¬ p.length ≤ s.length := by omega
  refine r_pass rfl rfl rfl <| r_pass rfl rfl rfl <| r_pass rfl rfl rfl <| r_pass rfl rfl rfl <| r_pass rfl rfl rfl <| r_pass rfl rfl rfl <| r_ev rfl rfl <| r_ev rfl rfl <| r_nn <| r_retc ?_
  exact r_ret1 [] rfl rfl (by simp) ⟨vb (by simp [h']), rfl, rfl⟩
theorem HasPrefix_spec (g : Ghost) (s p : Bytes) : Pure Tryz.prog 84 [str s, str p] g (.bool (decide (p.length ≤ s.length ∧ s.take p.length = p))) := by
 refine spec_of_run Tryz.func84 rfl Tryz.ntmps84 rfl fun E hE => ?_
 refine r_sr <| r_ev rfl rfl <| r_nn <| r_sr <| r_ev rfl rfl <| r_ev rfl rfl ?_
 refine r_callP rfl rfl (sHasPrefix_spec g s p) ?_
 refine r_ev rfl rfl <| r_nn <| r_retc ?_
 exact r_ret1 [] rfl rfl (by simp) ⟨rfl, rfl, rfl⟩

theorem comment_idx : ∀ s : Bytes, commentLen s = if idxByte 10 s < 0 then s.length else (idxByte 10 s).toNat
 | [] => rfl
 | x :: r => by
  have ih := comment_idx r
  have h0 : (10 : UInt8).toNat = 10 := rfl
  simp only [commentLen, idxByte, ← UInt8.toNat_inj, h0]
  by_cases hx : x.toNat = 10
  ·simp [hx]
  ·rw [if_neg hx, if_neg hx]
   rcases idxByte_cases 10 r with ⟨h1, _⟩ | ⟨h1, h2⟩
   ·rw [h1] at ih ⊢; simpa using ih
   ·rw [if_neg (by omega)] at ih ⊢
    rw [if_neg (by omega)]
    omega

theorem idxByte_mem {c : UInt8} : ∀ {s : Bytes}, 0 ≤ idxByte c s → c ∈ s
 | [], h => by simp [idxByte] at h
 | x :: r, h => by
  simp only [idxByte] at h
  by_cases hx : x = c
  ·simp [hx]
  ·rw [if_neg hx] at h
   have : 0 ≤ idxByte c r := by
    by_cases h2 : idxByte c r < 0
    ·rw [if_pos h2] at h; omega
    ·omega
   exact List.mem_cons_of_mem _ (idxByte_mem this)
theorem wordLen_all : ∀ s : Bytes, (s.take (wordLen s)).all inner = true
 | [] => rfl
 | c :: r => by
  have ih := wordLen_all r
  simp only [wordLen]
  cases hc : inner c
  ·simp
  ·simp only [if_true, List.take_succ_cons, List.all_cons, hc, Bool.true_and]; exact ih
theorem tokLen_all {s : Bytes} {i : Nat} (h : i < s.length) (hn : inner s[i] = true) : ((s.drop i).take (tokLen (s.drop i))).all inner = true := by
 rw [tokLen_word h hn, drop_cons h, List.take_succ_cons, List.all_cons, hn, Bool.true_and]
 exact wordLen_all _
theorem take_two {s : Bytes} {i : Nat} {x y : UInt8} : (s.drop i).take 2 = [x, y] ↔ ∃ h : i + 1 < s.length, s[i] = x ∧ s[i + 1] = y := by
 constructor
 ·intro h
  have hl := congrArg List.length h
  simp at hl
  have h1 : i + 1 < s.length := by omega
  rw [drop_cons (by omega), drop_cons h1] at h
  simp only [List.take_succ_cons, List.take_zero, List.cons.injEq, and_true] at h
  exact ⟨h1, h⟩
 ·rintro ⟨h1, h2, h3⟩
  rw [drop_cons (by omega), drop_cons h1, h2, h3]; rfl
theorem kind_one {c : UInt8} (hc : inner c = false) : kindOf [c] = if idxByte c markBytes < 0 then 0 else 5 := by
 have h1 : isKeyword [c] = false := by simp [isKeyword, keywords]
 have h2 : isWord [c] = false := by simp [isWord, hc]
 have h3 : digit c = false := by
  simp only [inner, Bool.or_eq_false_iff] at hc
  exact hc.1.2
 have h4 : isMark [c] = decide (c ∈ markBytes) := by
  rw [Bool.eq_iff_iff]
  simp only [isMark, Bool.or_eq_true, decide_eq_true_eq, List.any_eq_true]
  constructor
  ·rintro (h | ⟨x, hx, h⟩)
   ·simp at h
   ·have : c = x := by simpa using h
    subst this; exact hx
  ·intro h; exact .inr ⟨c, h, rfl⟩
 simp only [kindOf, h1, isLower, isUpper, h2, isInteger, h4]
 simp [h3]
 rcases idxByte_cases c markBytes with ⟨h5, h6⟩ | ⟨h5, _⟩
 ·rw [h5, if_neg (fun h => h6 c h rfl), if_pos (by omega)]
 ·rw [if_pos (idxByte_mem h5), if_neg (by omega)]

theorem tScan_spec (g : Ghost) (s : Bytes) (hs : s.length ≤ 9223372036854775807) : Eng.Spec Tryz.prog 38 [str s] g [] (ScanPost 132 s g) := by
 refine spec_of_run Tryz.func38 rfl Tryz.ntmps38 rfl fun E hE => ?_
 refine r_sr ?_
 refine r_ev rfl rfl ?_
 refine r_alloc rfl (fun b => ?_)
 refine r_nn <| r_seq <| r_sr <| r_ev rfl rfl <| r_len_str rfl rfl <| r_ev rfl rfl <| r_nn ?_
 refine r_cond rfl (fun hlong => ?_) (fun hlong => ?_)
 ·refine r_sr <| r_build rfl rfl (by rfl) ?_; refine r_ev rfl rfl <| r_storeA 0 rfl rfl rfl rfl (by rfl) rfl rfl ?_; refine r_nn <| r_retc <| r_then_ret ?_
  refine r_ret2 [] rfl (.tmp rfl) (res_blk 0 rfl rfl (by rfl)) (by simp) ⟨rfl, ?_⟩
  have : 4000 < s.length := by omega
  simp [scan, this]
 ·have hle : s.length ≤ 4000 := by omega
  refine r_skip <| r_then_normal <| r_sr <| r_ev rfl rfl <| r_nn <| r_seq <| r_sr <| r_ev rfl rfl <| r_nn <| r_block ?_
  refine r_nilRow 132 3 ?_
  refine r_loop (ι := Nat × List Tok × Value) (fun p => [(0, str s), (3, ptr b 0), (4, p.2.2), (5, .int .i64 p.1)]) (fun _ => g)
   (fun p => [.row 132 3 p.2.2 p.2.1.length (p.2.1.flatMap tokCells), .blk b 32 [.int .i64 0, .int .i64 0]])
   (fun p => p.1 ≤ s.length ∧ p.2.1.length ≤ p.1 ∧ scanFrom 0 (s.drop 0) = pre p.2.1 (scanFrom p.1 (s.drop p.1))) (fun p => s.length - p.1) (0, [], .slice none 0 0) ⟨by simp, by simp, by simp [pre_nil]⟩ ⟨rfl, rfl, rfl, rfl, trivial⟩ rfl rfl ?_
  rintro ⟨i, l, v⟩ ⟨hi, hl, hinv⟩
  simp only at hi hl hinv
  show Run E _ [(0, str s), (3, ptr b 0), (4, v), (5, .int .i64 i)] g [.row 132 3 v l.length (l.flatMap tokCells), .blk b 32 [.int .i64 0, .int .i64 0]] _
  refine r_seq <| r_sr <| r_ev rfl rfl <| r_ev rfl rfl <| r_len_str rfl rfl <| r_ev rfl rfl <| r_nn ?_
  refine r_cond rfl (fun hlt => ?_) (fun hlt => ?_)
  ·have hlt' : i < s.length := by omega
   have hpc : commentLen (s.drop i) ≤ s.length - i := by have := commentLen_le (s.drop i); rwa [List.length_drop] at this
   refine r_skip <| r_then_normal <| r_block <| r_sr <| r_ev rfl rfl <| r_ev rfl rfl ?_
   refine r_index_str (j := i) rfl rfl rfl rfl hlt' ?_
   refine r_ev rfl rfl <| r_ev rfl rfl <| r_ev rfl rfl <| r_nn ?_
   refine r_cut [(0, str s), (3, ptr b 0), (4, v), (5, .int .i64 i), (7, .int .i64 (tokLen (s.drop i) : Nat)), (8, .int .i64 (kindOf ((s.drop i).take (tokLen (s.drop i)))))] (white s[i] = false ∧ s[i].toNat ≠ 35) ?_ ?_
   ·rintro ⟨hw, hc⟩
    have htl := tokLen_le (s.drop i)
    have htp : 1 ≤ tokLen (s.drop i) := by rw [drop_cons hlt']; exact tokLen_pos _ _
    rw [List.length_drop] at htl
    refine r_seq <| r_sr <| r_ev rfl rfl <| r_ev rfl rfl <| r_nn ?_
    refine r_cond rfl (fun hk => ?_) (fun hk => ?_)
    ·refine r_sr <| r_ev rfl rfl <| r_build rfl rfl (by rfl) ?_; refine r_ev rfl rfl <| r_storeA 1 rfl rfl rfl rfl (by rfl) rfl rfl ?_; refine r_nn <| r_retc <| r_then_ret <| r_in_ret <| r_then_ret <| r_in_ret <| r_then_ret ?_
     refine r_ret2 [] rfl (.tmp rfl) (res_blk 1 rfl rfl (by rfl)) (by simp) ⟨rfl, ?_⟩
     rw [scan_of hle, hinv, scan_bad hlt' hw hc hk]
     exact ⟨rfl, rfl⟩
    ·refine r_skip <| r_then_normal <| r_sr <| r_ev rfl rfl <| r_ev rfl rfl <| r_ev rfl rfl <| r_ev rfl rfl <| r_ev rfl rfl <| r_ev rfl rfl ?_
     refine r_add rfl rfl rfl (by omega) ?_
     skip
     refine r_slice_str (p := i) (q := i + tokLen (s.drop i)) rfl rfl ⟨_, _, rfl, rfl⟩ ⟨_, _, rfl, by omega⟩ (by omega) (by omega) ?_
     rw [piece_eq]
     refine r_ev rfl rfl <| r_build rfl rfl (by rfl) ?_
     refine r_buildSlice rfl rfl (by rfl) (by rfl) (by rfl) (by rfl) (by rfl) (fun b2 => ?_)
     refine r_appendRow 1 0 rfl rfl rfl rfl rfl (by rfl) (by rfl) rfl (by unfold maxLen; omega) (by omega) (fun v' _ => ?_)
     refine r_ev rfl rfl <| r_nn <| r_region <| r_ev rfl rfl <| r_ev rfl rfl ?_
     refine r_add rfl rfl rfl (by omega) ?_
     refine r_ev rfl rfl <| r_nil <| r_in_normal <| r_then_normal ?_
     refine r_drop (own' := [_, _]) (List.sublist_cons_self _ _) ?_
     refine r_again (i + tokLen (s.drop i), l ++ [⟨kindOf ((s.drop i).take (tokLen (s.drop i))), (s.drop i).take (tokLen (s.drop i)), i⟩], v') ⟨by simp; omega, by simp; omega, ?_⟩ (by simp; omega) ⟨rfl, rfl, rfl, rfl, trivial⟩ rfl ?_
     ·simp only
      rw [hinv, scan_tok hlt' hw hc hk]
     ·simp [tokCells, repN]
   ·intro K hK
    have hwa : white s[i] = true → (32 = s[i].toNat ∨ 9 = s[i].toNat ∨ 13 = s[i].toNat ∨ 10 = s[i].toNat) := fun h => by simp [white] at h; omega
    refine r_block <| r_seq <| r_block <| r_seq <| r_block <| r_seq <| r_block <| r_seq <| r_block <| r_seq <| r_block <| r_seq <| r_seq <| r_sr ?_; refine r_ev rfl rfl <| r_ev rfl rfl <| r_ev rfl rfl <| r_nn ?_
    refine r_cond rfl (fun hc => ?_) (fun hc => ?_)
    ·have hc' : s[i].toNat = 35 := by omega
     have hw : white s[i] = false := by simp [white]; omega
     have hcm := scan_comment hlt' hw hc'
     have hcp : 1 ≤ commentLen (s.drop i) := by rw [drop_cons hlt']; exact commentLen_pos _ hc'
     refine r_exit <| r_then_exit <| r_then_exit <| r_in_exit <| r_then_normal <| r_sr <| r_ev rfl rfl <| r_ev rfl rfl ?_
     refine r_slice_str (p := i) (q := s.length) rfl rfl ⟨_, _, rfl, rfl⟩ rfl (by omega) (by omega) ?_
     rw [List.take_length]
     refine r_callP rfl rfl (IndexByte_spec g _ 10) ?_
     have hidx := comment_idx (s.drop i)
     rw [List.length_drop] at hidx
     refine r_ev rfl rfl <| r_nn <| r_sr <| r_ev rfl rfl <| r_ev rfl rfl <| r_nn ?_
     refine r_cond rfl (fun hneg => ?_) (fun hneg => ?_)
     ·rw [if_pos hneg] at hidx
      refine r_region <| r_ev rfl rfl <| r_len_str rfl rfl <| r_ev rfl rfl ?_
      refine r_sub_ rfl rfl rfl (by omega) ?_
      refine r_ev rfl rfl <| r_nil <| r_in_normal <| r_then_normal <| r_seq <| r_sr <| r_ev rfl rfl <| r_ev rfl rfl ?_
      refine r_add rfl rfl rfl (by omega) ?_
      refine r_ev rfl rfl <| r_nn <| r_exit <| r_then_exit <| r_in_exit_other rfl <| r_then_exit <| r_in_exit_other rfl <| r_then_exit <| r_in_exit_other rfl <| r_then_exit <| r_in_exit_other rfl <| r_then_exit <| r_in_exit <| r_then_normal ?_
      exact r_again (i + commentLen (s.drop i), l, v) ⟨by simp; omega, by simp; omega, by simp only; rw [hinv, hcm]⟩ (by simp; omega) ⟨rfl, rfl, rfl, by rw [show ((i + commentLen (s.drop i) : Nat) : Int) = i + ((s.length : Nat) - (i : Nat)) by omega]; rfl, trivial⟩ rfl rfl
     ·rw [if_neg hneg] at hidx
      refine r_skip <| r_in_normal <| r_then_normal <| r_seq <| r_sr <| r_ev rfl rfl <| r_ev rfl rfl ?_
      refine r_add rfl rfl rfl (by omega) ?_
      refine r_ev rfl rfl <| r_nn <| r_exit <| r_then_exit <| r_in_exit_other rfl <| r_then_exit <| r_in_exit_other rfl <| r_then_exit <| r_in_exit_other rfl <| r_then_exit <| r_in_exit_other rfl <| r_then_exit <| r_in_exit <| r_then_normal ?_
      exact r_again (i + commentLen (s.drop i), l, v) ⟨by simp; omega, by simp; omega, by simp only; rw [hinv, hcm]⟩ (by simp; omega) ⟨rfl, rfl, rfl, by rw [show ((i + commentLen (s.drop i) : Nat) : Int) = i + idxByte 10 (s.drop i) by omega]; rfl, trivial⟩ rfl rfl
    ·have hc' : s[i].toNat ≠ 35 := by omega
     refine r_skip <| r_then_normal <| r_seq <| r_seq <| r_sr <| r_ev rfl rfl <| r_ev rfl rfl <| r_ev rfl rfl <| r_nn ?_
     refine r_cond rfl (fun w1 => ?_) (fun w1 => ?_)
     ·have hw : white s[i] = true := by simp [white]; omega
      refine r_skip <| r_then_normal ?_
      refine r_cond rfl (fun _ => ?_) (fun hx => absurd w1 hx)
      refine r_exit <| r_then_exit <| r_then_exit <| r_in_exit_other rfl <| r_then_exit <| r_in_exit <| r_then_normal <| r_seq <| r_sr <| r_ev rfl rfl <| r_ev rfl rfl ?_
      refine r_add rfl rfl rfl (by omega) ?_
      refine r_ev rfl rfl <| r_nn <| r_exit <| r_then_exit <| r_in_exit_other rfl <| r_then_exit <| r_in_exit_other rfl <| r_then_exit <| r_in_exit_other rfl <| r_then_exit <| r_in_exit_other rfl <| r_then_exit <| r_in_exit <| r_then_normal ?_
      exact r_again (i + 1, l, v) ⟨by simp; omega, by simp; omega, by simp only; rw [hinv, scan_white hlt' hw]⟩ (by simp; omega) ⟨rfl, rfl, rfl, rfl, trivial⟩ rfl rfl
     refine r_sr <| r_ev rfl rfl <| r_ev rfl rfl <| r_ev rfl rfl <| r_nn ?_
     refine r_cond rfl (fun w2 => ?_) (fun w2 => ?_)
     ·have hw : white s[i] = true := by simp [white]; omega
      refine r_skip <| r_then_normal ?_
      refine r_cond rfl (fun _ => ?_) (fun hx => absurd w2 hx)
      refine r_exit <| r_then_exit <| r_then_exit <| r_in_exit_other rfl <| r_then_exit <| r_in_exit <| r_then_normal <| r_seq <| r_sr <| r_ev rfl rfl <| r_ev rfl rfl ?_
      refine r_add rfl rfl rfl (by omega) ?_
      refine r_ev rfl rfl <| r_nn <| r_exit <| r_then_exit <| r_in_exit_other rfl <| r_then_exit <| r_in_exit_other rfl <| r_then_exit <| r_in_exit_other rfl <| r_then_exit <| r_in_exit_other rfl <| r_then_exit <| r_in_exit <| r_then_normal ?_
      exact r_again (i + 1, l, v) ⟨by simp; omega, by simp; omega, by simp only; rw [hinv, scan_white hlt' hw]⟩ (by simp; omega) ⟨rfl, rfl, rfl, rfl, trivial⟩ rfl rfl
     refine r_sr <| r_ev rfl rfl <| r_ev rfl rfl <| r_ev rfl rfl <| r_nn ?_
     refine r_cond rfl (fun w3 => ?_) (fun w3 => ?_)
     ·have hw : white s[i] = true := by simp [white]; omega
      refine r_skip <| r_then_normal ?_
      refine r_cond rfl (fun _ => ?_) (fun hx => absurd w3 hx)
      refine r_exit <| r_then_exit <| r_then_exit <| r_in_exit_other rfl <| r_then_exit <| r_in_exit <| r_then_normal <| r_seq <| r_sr <| r_ev rfl rfl <| r_ev rfl rfl ?_
      refine r_add rfl rfl rfl (by omega) ?_
      refine r_ev rfl rfl <| r_nn <| r_exit <| r_then_exit <| r_in_exit_other rfl <| r_then_exit <| r_in_exit_other rfl <| r_then_exit <| r_in_exit_other rfl <| r_then_exit <| r_in_exit_other rfl <| r_then_exit <| r_in_exit <| r_then_normal ?_
      exact r_again (i + 1, l, v) ⟨by simp; omega, by simp; omega, by simp only; rw [hinv, scan_white hlt' hw]⟩ (by simp; omega) ⟨rfl, rfl, rfl, rfl, trivial⟩ rfl rfl
     refine r_region <| r_ev rfl rfl <| r_ev rfl rfl <| r_ev rfl rfl <| r_nn ?_
     refine r_cond rfl (fun w4 => ?_) (fun w4 => ?_)
     ·have hw : white s[i] = true := by simp [white]; omega
      refine r_exit <| r_then_exit <| r_then_exit <| r_in_exit_other rfl <| r_then_exit <| r_in_exit <| r_then_normal <| r_seq <| r_sr <| r_ev rfl rfl <| r_ev rfl rfl ?_
      refine r_add rfl rfl rfl (by omega) ?_
      refine r_ev rfl rfl <| r_nn <| r_exit <| r_then_exit <| r_in_exit_other rfl <| r_then_exit <| r_in_exit_other rfl <| r_then_exit <| r_in_exit_other rfl <| r_then_exit <| r_in_exit_other rfl <| r_then_exit <| r_in_exit <| r_then_normal ?_
      exact r_again (i + 1, l, v) ⟨by simp; omega, by simp; omega, by simp only; rw [hinv, scan_white hlt' hw]⟩ (by simp; omega) ⟨rfl, rfl, rfl, rfl, trivial⟩ rfl rfl
     have hw : white s[i] = false := by simp [white]; omega
     refine r_skip <| r_then_normal <| r_seq <| r_sr <| r_ev rfl rfl ?_
     refine r_callP rfl rfl (part_spec g _) ?_
     refine r_ev rfl rfl <| r_nn ?_
     refine r_condb rfl (fun hin => ?_) (fun hin => ?_)
     ·have htk := tokLen_word hlt' hin
      have hwl := wordLen_le (s.drop (i + 1))
      rw [List.length_drop] at hwl
      refine r_exit <| r_then_exit <| r_then_exit <| r_in_exit_other rfl <| r_then_exit <| r_in_exit_other rfl <| r_then_exit <| r_in_exit <| r_then_normal <| r_seq <| r_seq <| r_block ?_
      refine r_loop (ι := Nat) (fun n => [(0, str s), (3, ptr b 0), (4, v), (5, .int .i64 i), (7, .int .i64 n)]) (fun _ => g) (fun _ => [.row 132 3 v l.length (l.flatMap tokCells), .blk b 32 [.int .i64 0, .int .i64 0]])
       (fun n => 1 ≤ n ∧ i + n ≤ s.length ∧ n + wordLen (s.drop (i + n)) = 1 + wordLen (s.drop (i + 1))) (fun n => s.length - n) 1 ⟨Nat.le_refl _, by omega, rfl⟩ ⟨rfl, rfl, rfl, rfl, rfl, trivial⟩ rfl rfl ?_
      rintro n ⟨hn1, hnl, hcm⟩
      refine r_seq <| r_sr <| r_ev rfl rfl <| r_ev rfl rfl ?_
      refine r_add rfl rfl rfl (by omega) ?_
      refine r_ev rfl rfl <| r_len_str rfl rfl <| r_ev rfl rfl <| r_ev rfl rfl ?_
      refine r_gdec rfl rfl (fun hj => ?_) (fun hj => ?_)
      ·have hj' : i + n < s.length := by omega
       refine r_tev rfl rfl rfl <| r_tev rfl rfl rfl <| r_tev rfl rfl rfl <| r_take rfl ?_
       refine r_add rfl rfl rfl (by omega) ?_
       refine r_take rfl ?_
       refine r_index_str (j := i + n) rfl rfl rfl (by omega) hj' ?_
       refine r_take rfl ?_
       refine r_callP rfl rfl (part_spec g _) ?_
       refine r_ev rfl rfl <| r_nn ?_
       refine r_condb rfl (fun hn => ?_) (fun hn => ?_)
       ·have hst := wordLen_step hj' hn
        refine r_skip <| r_then_normal <| r_block <| r_region <| r_ev rfl rfl ?_
        refine r_add rfl rfl rfl (by omega) ?_
        refine r_ev rfl rfl <| r_nil <| r_in_normal <| r_then_normal ?_
        exact r_again (n + 1) ⟨by omega, by omega, by rw [← Nat.add_assoc]; omega⟩ (by omega) ⟨rfl, rfl, rfl, rfl, rfl, trivial⟩ rfl rfl
       ·have hst := wordLen_stop hj' hn
        have hfin : n = tokLen (s.drop i) := by omega
        subst hfin
        refine r_exit <| r_then_exit <| r_then_exit <| r_in_exit <| r_then_normal <| r_region <| r_ev rfl rfl <| r_ev rfl rfl <| r_ev rfl rfl <| r_ev rfl rfl ?_
        refine r_add rfl rfl rfl (by omega) ?_
        skip
        refine r_slice_str (p := i) (q := i + tokLen (s.drop i)) rfl rfl ⟨_, _, rfl, rfl⟩ ⟨_, _, rfl, by omega⟩ (by omega) (by omega) ?_
        rw [piece_eq]
        refine r_callP rfl rfl (tword_spec g _ (by rw [List.length_take, List.length_drop]; omega) (by rw [List.length_take, List.length_drop]; omega) (tokLen_all hlt' hin)) ?_
        refine r_ev rfl rfl <| r_nn <| r_exit <| r_in_exit_other rfl <| r_then_exit <| r_in_exit_other rfl <| r_then_exit <| r_in_exit <| r_then_normal ?_
        exact hK _ ⟨hw, hc'⟩ ⟨rfl, rfl, rfl, rfl, rfl, rfl, trivial⟩
      ·have hst := wordLen_end (s := s) (k := i + n) (by omega)
       have hfin : n = tokLen (s.drop i) := by omega
       subst hfin
       refine r_pass rfl rfl rfl <| r_pass rfl rfl rfl <| r_pass rfl rfl rfl <| r_pass rfl rfl rfl <| r_pass rfl rfl rfl <| r_pass rfl rfl rfl <| r_ev rfl rfl <| r_nn <| r_cond_false rfl <| r_exit <| r_then_exit <| r_then_exit <| r_in_exit <| r_then_normal ?_; refine r_region <| r_ev rfl rfl <| r_ev rfl rfl <| r_ev rfl rfl <| r_ev rfl rfl ?_
       refine r_add rfl rfl rfl (by omega) ?_
       skip
       refine r_slice_str (p := i) (q := i + tokLen (s.drop i)) rfl rfl ⟨_, _, rfl, rfl⟩ ⟨_, _, rfl, by omega⟩ (by omega) (by omega) ?_
       rw [piece_eq]
       refine r_callP rfl rfl (tword_spec g _ (by rw [List.length_take, List.length_drop]; omega) (by rw [List.length_take, List.length_drop]; omega) (tokLen_all hlt' hin)) ?_
       refine r_ev rfl rfl <| r_nn <| r_exit <| r_in_exit_other rfl <| r_then_exit <| r_in_exit_other rfl <| r_then_exit <| r_in_exit <| r_then_normal ?_
       exact hK _ ⟨hw, hc'⟩ ⟨rfl, rfl, rfl, rfl, rfl, rfl, trivial⟩
     ·refine r_skip <| r_then_normal <| r_seq <| r_sr <| r_ev rfl rfl <| r_ev rfl rfl ?_
      refine r_slice_str (p := i) (q := s.length) rfl rfl ⟨_, _, rfl, rfl⟩ rfl (by omega) (by omega) ?_
      rw [List.take_length]
      refine r_callP rfl rfl (HasPrefix_spec g _ [45, 62]) ?_
      refine r_ev rfl rfl <| r_nn ?_
      refine r_cond rfl (fun hp => ?_) (fun hp => ?_)
      ·obtain ⟨h2, e1, e2⟩ := take_two.1 hp.2
       have htk := tokLen_arrow h2 hin (by rw [e1]; rfl) (by rw [e2]; rfl)
       have hkd : kindOf ((s.drop i).take (tokLen (s.drop i))) = 5 := by rw [htk]; rw [show (s.drop i).take 2 = [45, 62] from hp.2]; decide
       refine r_exit <| r_then_exit <| r_then_exit <| r_in_exit_other rfl <| r_then_exit <| r_in_exit_other rfl <| r_then_exit <| r_in_exit_other rfl <| r_then_exit <| r_in_exit <| r_then_normal <| r_sr <| r_ev rfl rfl <| r_nn ?_; refine r_exit <| r_in_exit_other rfl <| r_then_exit <| r_in_exit <| r_then_normal ?_
       exact hK _ ⟨hw, hc'⟩ ⟨rfl, rfl, rfl, rfl, by rw [htk]; rfl, by rw [hkd]; rfl, trivial⟩
      ·have htk := tokLen_one hlt' hin (fun h1 h2 h3 => hp ⟨by rw [List.length_drop]; simp; omega, take_two.2 ⟨h2, UInt8.toNat_inj.1 (by rw [h1]; rfl), UInt8.toNat_inj.1 (by rw [h3]; rfl)⟩⟩)
       have hkd : kindOf ((s.drop i).take (tokLen (s.drop i))) = if idxByte s[i] markBytes < 0 then 0 else 5 := by rw [htk, drop_cons hlt']; exact kind_one hin
       refine r_skip <| r_then_normal <| r_sr <| r_ev rfl rfl ?_
       refine r_callP rfl rfl (IndexByte_spec g markBytes _) ?_
       refine r_ev rfl rfl <| r_ev rfl rfl <| r_nn ?_
       refine r_cond rfl (fun hm => ?_) (fun hm => ?_)
       ·rw [if_pos hm] at hkd
        refine r_exit <| r_then_exit <| r_in_exit_other rfl <| r_then_exit <| r_in_exit_other rfl <| r_then_exit <| r_in_exit_other rfl <| r_then_exit <| r_in_exit_other rfl <| r_then_exit <| r_in_exit <| r_then_normal <| r_sr <| r_ev rfl rfl ?_; refine r_nn <| r_exit <| r_in_exit <| r_then_normal ?_
        exact hK _ ⟨hw, hc'⟩ ⟨rfl, rfl, rfl, rfl, by rw [htk]; rfl, by rw [hkd]; rfl, trivial⟩
       ·rw [if_neg hm] at hkd
        refine r_skip <| r_then_normal <| r_exit <| r_in_exit_other rfl <| r_then_exit <| r_in_exit_other rfl <| r_then_exit <| r_in_exit_other rfl <| r_then_exit <| r_in_exit_other rfl <| r_then_exit <| r_in_exit_other rfl <| r_then_exit <| r_in_exit ?_; refine r_then_normal ?_
        exact hK _ ⟨hw, hc'⟩ ⟨rfl, rfl, rfl, rfl, by rw [htk]; rfl, by rw [hkd]; rfl, trivial⟩
  ·have hil : i = s.length := by omega
   subst hil
   refine r_exit <| r_then_exit <| r_then_exit <| r_in_exit <| r_then_normal <| r_sr <| r_ev rfl rfl <| r_build rfl rfl (by rfl) ?_; refine r_ev rfl rfl <| r_storeA 1 rfl rfl rfl rfl (by rfl) rfl rfl ?_; refine r_nn <| r_retc ?_
   refine r_ret2 [_] rfl (.tmp rfl) (res_blk 1 rfl rfl (by rfl)) (List.sublist_append_left [_] [_]) ⟨rfl, ?_⟩
   rw [scan_of hle, hinv, List.drop_length, scanFrom_nil]
   simp only [pre, List.append_nil]
   exact ⟨v, rfl, rfl⟩
end Go.Proofs.YtpjehhnaojjanaaGreatDoor
-- sum 7e3149f4da743622

/- The walk of readprogram.Parse at any text. -/
namespace Go.Proofs.YtpjehhnaojjanaaGreatDoor
open Go Go.Eng Go.Th Go.Proofs
set_option maxRecDepth 10000
set_option maxHeartbeats 4000000
attribute [local irreducible] wpList Code.wp Run bodyPost Go.Eng.Ends Exit.then Exit.inBlock Again Wq Kq
theorem pokG_spec (g : Ghost) (lv : Value) (b i : Nat) (e p : Int) : PureO Tryz.prog 45 [ptr b 0] g (.blk b 81 [lv, .int .i64 i, .int .i64 e, .int .i64 p]) (.bool (decide (e = 0))) := by
 refine spec_of_run Tryz.func45 rfl Tryz.ntmps45 rfl fun E hE => ?_
 refine r_sr <| r_ev rfl rfl <| r_nn <| r_sr <| r_ev rfl rfl <| r_ev rfl rfl <| r_fieldAddr rfl rfl <| r_fieldAddr rfl rfl <| r_loadB1 0 rfl rfl rfl rfl <| r_ev rfl rfl <| r_ev rfl rfl <| r_nn <| r_retc ?_
 exact r_ret1 [_] rfl rfl (List.Sublist.refl _) ⟨rfl, rfl, rfl⟩
def parOwn (b b6 b7 : Nat) (lv : Value) (p : Pg) (sd : Value) (xd : List Value) (sb : Value) (xb : List Value) (s : RS) : List Res :=
 [.row 86 4 sd p.datas.length xd, rdP b lv s, .row 73 20 sb p.binds.length xb, .blk b7 29 [sd, sb], .blk b6 79 [ptr b 0]]
theorem pstep_spec {l : List Tok} (hb : TB l) (hkw : KW l) (g : Ghost) (hg : ErrT g) (lv : Value) (b b6 b7 i : Nat) (hs : ToksAt g lv l) (hi : i < l.length) (R : Except Int Pg) (p : Pg) (da : Option Addr) (dm dc : Nat) (xd : List Value) (ba : Option Addr) (bm bc : Nat) (xb : List Value)
  (k4 : AllAt (DaAt g) p.datas xd) (k5 : AllAt (BiAt g) p.binds xb) (k6 : ProgS l R p (.good i)) :
  Eng.Spec Tryz.prog 39 [ptr b6 0, ptr b7 0] g (parOwn b b6 b7 lv p (.slice da dm dc) xd (.slice ba bm bc) xb (.good i)) fun _ g' own' =>
   ∃ (p' : Pg) (sd' sb' : Value) (xd' xb' : List Value) (s' : RS), own' = parOwn b b6 b7 lv p' sd' xd' sb' xb' s' ∧ (∃ a m c, sd' = .slice a m c) ∧ (∃ a m c, sb' = .slice a m c) ∧ AllAt (DaAt g') p'.datas xd' ∧ AllAt (BiAt g') p'.binds xb' ∧ ProgS l R p' s' ∧ s'.left l < (RS.good i).left l := by
 have hb1 := hb.1
 obtain ⟨la, lc, rfl⟩ := slForm2 hs
 obtain ⟨_, hn1, hn2, _⟩ := id k6
 have hpd : isAt l i dataB = wordAt l i dataB := isAt_word hkw (by decide) i
 have hpl : isAt l i letB = wordAt l i letB := isAt_word hkw (by decide) i
 unfold parOwn
 refine spec_of_run Tryz.func39 rfl Tryz.ntmps39 rfl fun E hE => ?_
 refine r_sr ?_
 refine r_loadB1 4 rfl rfl rfl rfl ?_
 refine r_callO 1 rfl rfl rfl (pplace_spec g l _ hs b (.good i)) ?_
 rw [show posAt l (RS.good i).idx = posOf l i from rfl]
 refine r_ev rfl rfl <| r_nn <| r_block <| r_sr <| r_loadB1 4 rfl rfl rfl rfl ?_
 refine r_callL 1 rfl rfl rfl (pword_spec g l hb hkw _ hs b (.good i) (w := dataB) (by decide)) ?_
 rintro v g1 r' ⟨rfl, rfl, rfl⟩ _
 rw [show RS.isIs l dataB (.good i) = wordAt l i dataB from hpd]
 cases hw : wordAt l i dataB with
 | true =>
  obtain ⟨pe, po⟩ := k6.data hw
  rw [(skip_yes (hpd.trans hw)).1]
  refine r_ev rfl rfl <| r_nn <| r_cond_true rfl ?_
  refine m_begin 8 [1, 0] mixed (by kernel_rfl) (fun hG => ?_)
  refine m_takeXA 0 rfl (by kernel_rfl) rfl hG ?_; refine ⟨_, (val_fieldAddr rfl), ?_⟩; refine m_takeXA 1 rfl (by kernel_rfl) rfl hG ?_; refine ⟨_, (val_loadB1 1 rfl rfl rfl), ?_⟩; refine m_takeXA 2 rfl (by kernel_rfl) rfl hG ?_; refine ⟨_, (val_loadB1 2 rfl rfl rfl), ?_⟩; refine m_takeXA 3 rfl (by kernel_rfl) rfl hG ?_; refine ⟨_, (val_ev rfl), ?_⟩; refine m_takeXA 4 rfl (by kernel_rfl) rfl hG ?_; refine ⟨_, (val_build rfl (by rfl)), ?_⟩
  refine m_one 5 (by kernel_rfl) rfl rfl ?_
  refine r_callL 1 rfl rfl rfl (data_spec hb hkw g1 hg _ b i hs hw) ?_
  rintro w g3 r' hw3 hle3
  have hst : ∃ (d : Da) (st' : RS), DaV g3 w d ∧ r' = rdP b (.slice la l.length lc) st' ∧ ProgS l R ⟨p.datas ++ [d], p.binds⟩ st' ∧ (st'.left l < (RS.good i).left l) := by
   cases hq : declR l i with
   | error q =>
    rw [hq] at hw3
    obtain ⟨⟨d, hd⟩, j', hj', rfl⟩ := hw3
    exact ⟨d, .bad j' q, hd, rfl, pe q hq j' hj' _, by simp [RS.left]⟩
   | ok x =>
    obtain ⟨d, j⟩ := x
    rw [hq] at hw3
    obtain ⟨hd, rfl, hij, hjl⟩ := hw3
    exact ⟨d, .good j, hd, rfl, po d j hq, by simp only [RS.left]; omega⟩
  obtain ⟨d, st', ⟨cs, rfl, hda⟩, rfl, hps, hleft⟩ := hst
  obtain ⟨a1, c1, a2, c2, xc, rfl, _⟩ := hda.form
  refine r_nn ?_
  refine h_keptA hG ?_
  refine m_one 6 (by kernel_rfl) rfl rfl ?_
  refine r_buildSlice rfl rfl (by rfl) (by rfl) (by rfl) (by rfl) (by rfl) (fun b40 => ?_)
  refine r_nn ?_
  refine h_keptA hG ?_
  refine m_one 7 (by kernel_rfl) rfl rfl ?_
  refine r_appendRow 1 0 rfl rfl rfl rfl rfl (by rfl) (by rfl) rfl (by unfold maxLen; omega) (by omega) (fun v' hv' => ?_)
  refine r_rowForm 1 rfl ?_
  rintro ⟨ya, ym, yc, rfl⟩
  refine r_nn ?_
  refine h_keptA hG ?_
  refine m_done (by kernel_rfl) ?_
  refine r_drop (own' := [_, _, _, _, _]) (.cons _ (List.Sublist.refl _)) ?_
  refine r_fieldAddr rfl rfl <| r_store1 3 rfl rfl rfl rfl rfl rfl <| r_nil <| r_in_normal <| r_fin_n ?_
  refine r_ret0 [_, _, _, _, _] rfl (List.Sublist.refl _) ⟨⟨p.datas ++ [d], p.binds⟩, .slice ya ym yc, .slice ba bm bc, _, xb, st', ?_, ⟨_, _, _, rfl⟩, ⟨_, _, _, rfl⟩, das_snoc (das_mono hle3 k4) hda, bis_mono hle3 k5, hps, hleft⟩
  simp [repN, parOwn]
 | false =>
  obtain ⟨pe, po⟩ := k6.bind hi hw
  rw [(skip_no (hpd.trans hw)).1]
  refine r_ev rfl rfl <| r_nn <| r_cond_false rfl <| r_sr <| r_loadB1 4 rfl rfl rfl rfl ?_
  refine r_callL 1 rfl rfl rfl (pword_spec g1 l hb hkw _ hs b (.good i) (w := letB) (by decide)) ?_
  rintro v g2 r' ⟨rfl, rfl, rfl⟩ _
  rw [show RS.isIs l letB (.good i) = wordAt l i letB from hpl]
  cases hw2 : wordAt l i letB with
  | true =>
   rw [(skip_yes (hpl.trans hw2)).1]
   refine r_ev rfl rfl <| r_nn <| r_cond_true rfl ?_
   refine m_begin 8 [2, 1] mixed (by kernel_rfl) (fun hG => ?_)
   refine m_takeXA 0 rfl (by kernel_rfl) rfl hG ?_; refine ⟨_, (val_fieldAddr rfl), ?_⟩; refine m_takeXA 1 rfl (by kernel_rfl) rfl hG ?_; refine ⟨_, (val_loadB1 1 rfl rfl rfl), ?_⟩; refine m_takeXA 2 rfl (by kernel_rfl) rfl hG ?_; refine ⟨_, (val_loadB1 2 rfl rfl rfl), ?_⟩; refine m_takeXA 3 rfl (by kernel_rfl) rfl hG ?_; refine ⟨_, (val_ev rfl), ?_⟩; refine m_takeXA 4 rfl (by kernel_rfl) rfl hG ?_; refine ⟨_, (val_build rfl (by rfl)), ?_⟩
   refine m_one 5 (by kernel_rfl) rfl rfl ?_
   refine r_callL 1 rfl rfl rfl (pbind_spec hb hkw g2 hg _ b i hs hw2) ?_
   rintro w g3 r' hw3 hle3
   have hst : ∃ (d : Bi) (st' : RS), BiV g3 w d ∧ r' = rdP b (.slice la l.length lc) st' ∧ ProgS l R ⟨p.datas, p.binds ++ [d]⟩ st' ∧ (st'.left l < (RS.good i).left l) := by
    cases hq : bindR l i with
    | error q =>
     rw [hq] at hw3
     obtain ⟨⟨d, hd⟩, j', hj', rfl⟩ := hw3
     exact ⟨d, .bad j' q, hd, rfl, pe q hq j' hj' _, by simp [RS.left]⟩
    | ok x =>
     obtain ⟨d, j⟩ := x
     rw [hq] at hw3
     obtain ⟨hd, rfl, hij, hjl⟩ := hw3
     exact ⟨d, .good j, hd, rfl, po d j hq, by simp only [RS.left]; omega⟩
   obtain ⟨d, st', ⟨cs, rfl, hda⟩, rfl, hps, hleft⟩ := hst
   obtain ⟨y1, y2, y3, y4, y5, y6, y7, y8, y9, y10, y11, y12, rfl, _⟩ := hda.form
   refine r_nn ?_
   refine h_keptA hG ?_
   refine m_one 6 (by kernel_rfl) rfl rfl ?_
   refine r_buildSlice rfl rfl (by rfl) (by rfl) (by rfl) (by rfl) (by rfl) (fun b40 => ?_)
   refine r_nn ?_
   refine h_keptA hG ?_
   refine m_one 7 (by kernel_rfl) rfl rfl ?_
   refine r_appendRow 3 0 rfl rfl rfl rfl rfl (by rfl) (by rfl) rfl (by unfold maxLen; omega) (by omega) (fun v' hv' => ?_)
   refine r_rowForm 3 rfl ?_
   rintro ⟨ya, ym, yc, rfl⟩
   refine r_nn ?_
   refine h_keptA hG ?_
   refine m_done (by kernel_rfl) ?_
   refine r_drop (own' := [_, _, _, _, _]) (.cons _ (List.Sublist.refl _)) ?_
   refine r_fieldAddr rfl rfl <| r_store1 3 rfl rfl rfl rfl rfl rfl <| r_nil <| r_in_normal <| r_fin_n ?_
   refine r_ret0 [_, _, _, _, _] rfl (List.Sublist.refl _) ⟨⟨p.datas, p.binds ++ [d]⟩, .slice da dm dc, .slice ya ym yc, xd, _, st', ?_, ⟨_, _, _, rfl⟩, ⟨_, _, _, rfl⟩, das_mono hle3 k4, bis_snoc (bis_mono hle3 k5) hda, hps, hleft⟩
   simp [repN, parOwn]
  | false =>
   have he : bindR l i = .error (failPos l i) := by unfold bindR; rw [hw2]; rfl
   rw [(skip_no (hpl.trans hw2)).1]
   refine r_ev rfl rfl <| r_nn <| r_cond_false rfl <| r_region <| r_loadB1 4 rfl rfl rfl rfl ?_
   refine r_callL 1 rfl rfl rfl (pfail_spec g2 l hb _ hs b (.good i)) ?_
   rintro v g3 r' ⟨rfl, rfl⟩ _
   refine r_nil <| r_in_normal <| r_fin_n ?_
   exact r_ret0 [_, _, _, _, _] rfl (List.Sublist.refl _) ⟨p, .slice da dm dc, .slice ba bm bc, xd, xb, .bad i (failPos l i), rfl, ⟨_, _, _, rfl⟩, ⟨_, _, _, rfl⟩, k4, k5, pe _ he i (by omega) _, by simp [RS.left]⟩
theorem Parse_spec (g : Ghost) (hg : ErrT g) (s : Bytes) (hs : s.length ≤ 9223372036854775807) : SpecN Tryz.prog 10 [str s] g (postPar (parseR s)) := by
 refine spec_of_run Tryz.func10 rfl Tryz.ntmps10 rfl fun E hE => ?_
 refine r_sr ?_
 refine r_alloc rfl (fun b2 => ?_)
 refine r_alloc rfl (fun b3 => ?_)
 refine r_nn <| r_sr <| r_ev rfl rfl ?_
 refine r_call rfl rfl (tScan_spec g s hs) ?_
 rintro v g0 own' ⟨rfl, hp⟩ _
 cases hsc : scan s with
 | bad e p =>
  rw [hsc] at hp
  obtain ⟨rfl, rfl⟩ := hp
  have hr : parseR s = .error (e, p) := by unfold parseR; rw [hsc]
  have he : e ≠ 0 := by
   unfold scan at hsc
   split at hsc
   ·cases hsc; decide
   ·split at hsc
    ·cases hsc
    ·cases hsc; decide
  rw [hr]
  refine r_ev rfl rfl <| r_ev rfl rfl <| r_ev rfl rfl ?_
  refine r_alloc rfl (fun b5 => ?_)
  refine r_ev rfl rfl <| r_storeA 0 rfl rfl rfl rfl (by rfl) (by repeat' (first | exact rfl | assumption | refine all_cons ?_ ?_)) rfl ?_; refine r_nn <| r_seq <| r_sr <| r_fieldAddr rfl rfl <| r_loadB1 0 rfl rfl rfl rfl <| r_ev rfl rfl <| r_nn ?_
  refine r_cond rfl (fun _ => ?_) (fun h => absurd he h)
  refine r_seq ?_
  refine h_beginE [2, 1] mixed (fun hG => ?_)
  refine h_takeXA 0 rfl (by kernel_rfl) rfl hG ?_; refine ⟨_, (val_build rfl (by rfl)), ?_⟩; refine h_takeXA 1 rfl (by kernel_rfl) rfl hG ?_; refine ⟨_, (val_loadB 0 rfl rfl (by rfl)), ?_⟩
  refine h_one 2 (by kernel_rfl) rfl ?_
  refine r_storeA 2 rfl rfl rfl rfl (by rfl) (by repeat' (first | exact rfl | assumption | refine all_cons ?_ ?_)) rfl ?_; refine r_nn ?_
  refine h_keptA hG ?_
  refine h_one 3 (by kernel_rfl) rfl ?_
  refine r_storeA 1 rfl rfl rfl rfl (by rfl) (by repeat' (first | exact rfl | assumption | refine all_cons ?_ ?_)) rfl ?_; refine r_nn ?_
  refine h_keptA hG ?_
  refine h_done (by kernel_rfl) ?_
  refine r_then_normal <| r_retc <| r_then_ret ?_
  exact r_ret2 [] rfl (res_blk 2 rfl rfl (by rfl)) (res_blk 1 rfl rfl (by rfl)) (by simp) ⟨⟨_, rfl, ⟨_, rfl, _, [], _, [], rfl, slNil _ 4, rfl, slNil _ 20, rfl⟩⟩, rfl⟩
 | ok l =>
  rw [hsc] at hp
  obtain ⟨sv, rfl, rfl⟩ := hp
  have hl : toksOf s = l := by unfold toksOf; rw [hsc]
  have hb : TB l := hl ▸ toksOf_TB s
  have hkw : KW l := hl ▸ toksOf_KW s
  have hb4 : l.length ≤ 4000 := hl ▸ (toksOf_facts s).1
  have hb1 := hb.1
  have hpar : parseR s = match progR l ⟨[], []⟩ 0 with
   | .error p => .error (3, p)
   | .ok P => if (deepR P).1 = 0 then .ok P else .error (deepR P) := by unfold parseR; rw [hsc]; rfl
  rw [hpar]
  clear hpar
  have hwf : ∀ P, progR l ⟨[], []⟩ 0 = .ok P → WfP P := fun P h => progR_wf hb4 h
  obtain ⟨R, hR⟩ : ∃ R, R = progR l ⟨[], []⟩ 0 := ⟨_, rfl⟩
  rw [← hR] at hwf ⊢
  have h0 : ProgS l R ⟨[], []⟩ (.good 0) := ⟨Nat.zero_le _, Nat.zero_le _, Nat.zero_le _, hR⟩
  clear hR
  refine r_publishRow (fun g1 hle1 h1 => ?_)
  have hg1 := hg.mono hle1
  have hts : ToksAt g1 sv l := h1
  obtain ⟨sa, sc, rfl⟩ := slForm2 h1
  refine r_ev rfl rfl <| r_ev rfl rfl <| r_ev rfl rfl ?_
  refine r_alloc rfl (fun b5 => ?_)
  refine r_ev rfl rfl <| r_storeA 0 rfl rfl rfl rfl (by rfl) (by repeat' (first | exact rfl | assumption | refine all_cons ?_ ?_)) rfl ?_; refine r_nn <| r_seq <| r_sr <| r_fieldAddr rfl rfl <| r_loadB1 0 rfl rfl rfl rfl <| r_ev rfl rfl <| r_nn <| r_cond_false rfl <| r_skip <| r_then_normal <| r_sr <| r_ev rfl rfl <| r_build rfl rfl (by rfl) ?_
  refine r_box rfl rfl rfl (fun b => ?_)
  refine r_alloc rfl (fun b6 => ?_)
  refine r_store1 0 rfl rfl rfl rfl rfl rfl <| r_nn <| r_sr ?_
  refine r_alloc rfl (fun b7 => ?_)
  refine r_nn <| r_sr <| r_makeFunc rfl rfl rfl <| r_ev rfl rfl <| r_nn <| r_seq <| r_block ?_
  refine r_drop (own' := [_, _, _, _, _]) (.cons_cons _ (.cons_cons _ (.cons_cons _ (.cons _ (List.Sublist.refl _))))) ?_
  -- b7, b6, reader, b3, b2
  refine r_perm (own' := [.blk b 81 (RS.cellsP (.slice sa l.length sc) (.good 0)), .blk b7 29 [.slice none 0 0, .slice none 0 0], .blk b6 79 [ptr b 0], .blk b3 32 [.int .i64 0, .int .i64 0], .blk b2 29 [.slice none 0 0, .slice none 0 0]]) ?_ ?_
  ·exact (List.Perm.cons _ (List.Perm.swap _ _ _)).trans (List.Perm.swap _ _ _)
  refine r_nilRow 73 20 ?_
  refine r_perm (List.Perm.swap _ _ _) ?_
  refine r_nilRow 86 4 ?_
  refine r_loop (ι := RS × Pg × Value × List Value × Value × List Value × Ghost) (fun p => [(4, .slice sa l.length sc), (8, .func (.func 39) #[] #[ptr b6 0, ptr b7 0]), (2, ptr b2 0), (3, ptr b3 0), (6, ptr b6 0), (7, ptr b7 0)]) (fun p => p.2.2.2.2.2.2)
   (fun p => parOwn b b6 b7 (.slice sa l.length sc) p.2.1 p.2.2.1 p.2.2.2.1 p.2.2.2.2.1 p.2.2.2.2.2.1 p.1 ++ [.blk b3 32 [.int .i64 0, .int .i64 0], .blk b2 29 [.slice none 0 0, .slice none 0 0]])
   (fun p => Ghost.le g1 p.2.2.2.2.2.2 ∧ (∃ a m c, p.2.2.1 = .slice a m c) ∧ (∃ a m c, p.2.2.2.2.1 = .slice a m c) ∧ AllAt (DaAt p.2.2.2.2.2.2) p.2.1.datas p.2.2.2.1 ∧ AllAt (BiAt p.2.2.2.2.2.2) p.2.1.binds p.2.2.2.2.2.1 ∧ ProgS l R p.2.1 p.1) (fun p => p.1.left l) (.good 0, ⟨[], []⟩, .slice none 0 0, [], .slice none 0 0, [], g1)
   ⟨Ghost.le_refl _, ⟨_, _, _, rfl⟩, ⟨_, _, _, rfl⟩, rfl, rfl, h0⟩ ⟨rfl, rfl, rfl, rfl, rfl, rfl, trivial⟩ rfl rfl ?_
  rintro ⟨st, p, sd, xd, sb, xb, g2⟩ ⟨k1, ⟨da, dm, dc, k2⟩, ⟨ba, bm, bc, k3⟩, k4, k5, k6⟩
  simp only at k1 k2 k3 k4 k5 k6
  subst k2
  subst k3
  have hts2 := hts.mono k1
  have hg2 := hg1.mono k1
  show Run E _ [(4, .slice sa l.length sc), (8, .func (.func 39) #[] #[ptr b6 0, ptr b7 0]), (2, ptr b2 0), (3, ptr b3 0), (6, ptr b6 0), (7, ptr b7 0)] g2 [.row 86 4 (.slice da dm dc) p.datas.length xd, rdP b (.slice sa l.length sc) st, .row 73 20 (.slice ba bm bc) p.binds.length xb, .blk b7 29 [.slice da dm dc, .slice ba bm bc], .blk b6 79 [ptr b 0], .blk b3 32 [.int .i64 0, .int .i64 0], .blk b2 29 [.slice none 0 0, .slice none 0 0]] _
  cases st with
  | bad j q =>
   obtain ⟨h1, h2⟩ := k6
   subst h2
   refine r_seq <| r_sr <| r_loadB1 4 rfl rfl rfl rfl ?_
   refine r_callO 1 rfl rfl rfl (pok_spec g2 _ b (.bad j q)) ?_
   refine r_ev rfl rfl <| r_pass rfl rfl rfl <| r_pass rfl rfl rfl <| r_pass rfl rfl rfl <| r_pass rfl rfl rfl <| r_pass rfl rfl rfl <| r_pass rfl rfl rfl <| r_pass rfl rfl rfl <| r_ev rfl rfl <| r_nn <| r_cond_false rfl <| r_exit <| r_then_exit <| r_then_exit ?_; refine r_in_exit <| r_then_normal <| r_seq <| r_sr <| r_loadB1 4 rfl rfl rfl rfl ?_
   refine r_callO 1 rfl rfl rfl (pok_spec g2 _ b (.bad j q)) ?_
   refine r_nn <| r_cond_false rfl <| r_skip <| r_then_normal <| r_seq <| r_sr <| r_loadB1 4 rfl rfl rfl rfl ?_
   refine r_callO 1 rfl rfl rfl (pok_spec g2 _ b (.bad j q)) ?_
   refine r_ev rfl rfl <| r_nn <| r_cond_true rfl <| r_seq ?_
   -- STOPBAD
   refine r_drop (own' := [_, _, _, _]) (.cons _ (.cons_cons _ (.cons _ (.cons _ (.cons_cons _ (List.Sublist.refl _)))))) ?_
   refine h_beginE [3, 2] mixed (fun hG => ?_)
   refine h_takeXA 0 rfl (by kernel_rfl) rfl hG ?_; refine ⟨_, (val_build rfl (by rfl)), ?_⟩; refine h_takeXA 1 rfl (by kernel_rfl) rfl hG ?_; refine ⟨_, (val_loadB1 1 rfl rfl rfl), ?_⟩; refine h_takeXA 2 rfl (by kernel_rfl) rfl hG ?_; refine ⟨_, (val_ev rfl), ?_⟩; refine h_takeXA 3 rfl (by kernel_rfl) rfl hG ?_; refine ⟨_, (val_fieldAddr rfl), ?_⟩; refine h_takeXA 4 rfl (by kernel_rfl) rfl hG ?_; refine ⟨_, (val_loadB 0 rfl rfl (by rfl)), ?_⟩
   refine h_one 5 (by kernel_rfl) rfl ?_
   refine r_storeA 3 rfl rfl rfl rfl (by rfl) (by repeat' (first | exact rfl | assumption | refine all_cons ?_ ?_)) rfl ?_; refine r_nn ?_
   refine h_keptA hG ?_
   refine h_one 6 (by kernel_rfl) rfl ?_
   refine r_storeA 2 rfl rfl rfl rfl (by rfl) (by repeat' (first | exact rfl | assumption | refine all_cons ?_ ?_)) rfl ?_; refine r_nn ?_
   refine h_keptA hG ?_
   refine h_done (by kernel_rfl) ?_
   refine r_then_normal <| r_retc <| r_then_ret ?_
   exact r_ret2 [] rfl (res_blk 3 rfl rfl (by rfl)) (res_blk 2 rfl rfl (by rfl)) (by simp) ⟨⟨_, rfl, ⟨_, rfl, _, [], _, [], rfl, slNil _ 4, rfl, slNil _ 20, rfl⟩⟩, rfl⟩
  | good i =>
   refine r_seq <| r_sr <| r_loadB1 4 rfl rfl rfl rfl ?_
   refine r_callO 1 rfl rfl rfl (pok_spec g2 _ b (.good i)) ?_
   refine r_ev rfl rfl <| r_take rfl <| r_loadB1 4 rfl rfl rfl rfl <| r_tev rfl rfl rfl <| r_take rfl <| r_fieldAddr rfl rfl <| r_take rfl <| r_loadB1 1 rfl rfl rfl rfl <| r_tev rfl rfl rfl <| r_take rfl <| r_len_sl rfl rfl <| r_tev rfl rfl rfl <| r_ev rfl rfl <| r_nn ?_
   refine r_cond rfl (fun hlt => ?_) (fun hlt => ?_)
   ·have hlt' : i < l.length := by omega
    refine r_skip <| r_then_normal <| r_block <| r_region <| r_ev rfl rfl ?_
    refine r_callF' (us := []) (cs := [ptr b6 0, ptr b7 0]) (lent := [_, _, _, _, _]) (kept := [_, _]) rfl rfl rfl (List.Perm.refl _) (pstep_spec hb hkw g2 hg2 _ b b6 b7 i hts2 hlt' R p da dm dc xd ba bm bc xb k4 k5 k6) ?_
    rintro w g3 own' ⟨p', sd', sb', xd', xb', s', rfl, f1, f2, f3, f4, f5, f6⟩ hle3
    refine r_nil <| r_in_normal <| r_then_normal ?_
    exact r_again (s', p', sd', xd', sb', xb', g3) ⟨Ghost.le_trans k1 hle3, f1, f2, f3, f4, f5⟩ f6 ⟨rfl, rfl, rfl, rfl, rfl, rfl, trivial⟩ rfl rfl
   ·obtain ⟨h1, h2, h3, h4⟩ := k6
    rw [progR_eq, if_neg (by omega)] at h4
    subst h4
    have hwp := hwf p rfl
    refine r_exit <| r_then_exit <| r_then_exit <| r_in_exit <| r_then_normal <| r_seq <| r_sr <| r_loadB1 4 rfl rfl rfl rfl ?_
    refine r_callO 1 rfl rfl rfl (pok_spec g2 _ b (.good i)) ?_
    refine r_publishRow (fun g3 hg3 hs3 => ?_)
    refine r_perm (List.Perm.swap _ _ _) ?_
    refine r_publishRow (fun g4 hg4 hs4 => ?_)
    have hV : PgV g4 (.agg #[.slice da dm dc, .slice ba bm bc]) p := ⟨_, rfl, _, xd, _, xb, rfl, hs3.mono hg4, das_mono (Ghost.le_trans hg3 hg4) k4, hs4, bis_mono (Ghost.le_trans hg3 hg4) k5⟩
    refine r_nn <| r_cond_true rfl ?_
    refine h_beginE [0] mixed (fun hG => ?_)
    refine h_takeXA 0 rfl (by kernel_rfl) rfl hG ?_; refine ⟨_, (val_loadB1 1 rfl rfl rfl), ?_⟩; refine h_takeXA 1 rfl (by kernel_rfl) rfl hG ?_; refine ⟨_, (val_loadB 0 rfl rfl (by rfl)), ?_⟩
    refine h_one 2 (by kernel_rfl) rfl ?_
    refine r_callP rfl rfl (Deep_spec g4 p _ hwp hV) ?_
    refine r_nn ?_
    refine h_keptA hG ?_
    refine h_takeXA 3 rfl (by kernel_rfl) rfl hG ?_; refine ⟨_, (val_ev rfl), ?_⟩; refine h_takeXA 4 rfl (by kernel_rfl) rfl hG ?_; refine ⟨_, (val_fieldAddr rfl), ?_⟩
    refine h_one 5 (by kernel_rfl) rfl ?_
    refine r_storeA 0 rfl rfl rfl rfl (by rfl) (by repeat' (first | exact rfl | assumption | refine all_cons ?_ ?_)) rfl ?_; refine r_nn ?_
    refine h_keptA hG ?_
    refine h_done (by kernel_rfl) ?_
    refine r_then_normal <| r_seq <| r_sr <| r_loadB1 2 rfl rfl rfl rfl ?_
    refine r_callO 0 rfl rfl rfl (pokG_spec g4 _ b i (deepR p).1 (deepR p).2) ?_
    refine r_ev rfl rfl <| r_nn ?_
    refine r_condb rfl (fun hd => ?_) (fun hd => ?_)
    ·replace hd : ¬ (deepR p).1 = 0 := by simpa using hd
     rw [show (match (Except.ok p : Except Int Pg) with
      | .error p => .error (3, p)
      | .ok P => if (deepR P).1 = 0 then .ok P else .error (deepR P)) = (.error (deepR p) : Except (Int × Int) Pg) from if_neg hd]
     refine r_seq ?_
     refine h_beginE [4, 3] mixed (fun hG => ?_)
     refine h_takeXA 0 rfl (by kernel_rfl) rfl hG ?_; refine ⟨_, (val_build rfl (by rfl)), ?_⟩; refine h_takeXA 1 rfl (by kernel_rfl) rfl hG ?_; refine ⟨_, (val_loadB1 2 rfl rfl rfl), ?_⟩; refine h_takeXA 2 rfl (by kernel_rfl) rfl hG ?_; refine ⟨_, (val_ev rfl), ?_⟩; refine h_takeXA 3 rfl (by kernel_rfl) rfl hG ?_; refine ⟨_, (val_fieldAddr rfl), ?_⟩; refine h_takeXA 4 rfl (by kernel_rfl) rfl hG ?_; refine ⟨_, (val_loadB 0 rfl rfl (by rfl)), ?_⟩
     refine h_one 5 (by kernel_rfl) rfl ?_
     refine r_storeA 4 rfl rfl rfl rfl (by rfl) (by repeat' (first | exact rfl | assumption | refine all_cons ?_ ?_)) rfl ?_; refine r_nn ?_
     refine h_keptA hG ?_
     refine h_one 6 (by kernel_rfl) rfl ?_
     refine r_storeA 3 rfl rfl rfl rfl (by rfl) (by repeat' (first | exact rfl | assumption | refine all_cons ?_ ?_)) rfl ?_; refine r_nn ?_
     refine h_keptA hG ?_
     refine h_done (by kernel_rfl) ?_
     refine r_then_normal <| r_retc <| r_then_ret ?_
     exact r_ret2 [] rfl (res_blk 4 rfl rfl (by rfl)) (res_blk 3 rfl rfl (by rfl)) (by simp) ⟨⟨_, rfl, ⟨_, rfl, _, [], _, [], rfl, slNil _ 4, rfl, slNil _ 20, rfl⟩⟩, rfl⟩
    ·have hd0 : (deepR p).1 = 0 := by simpa using hd
     rw [show (match (Except.ok p : Except Int Pg) with
      | .error p => .error (3, p)
      | .ok P => if (deepR P).1 = 0 then .ok P else .error (deepR P)) = (.ok p : Except (Int × Int) Pg) from if_pos hd0]
     refine r_skip <| r_then_normal <| r_sr <| r_loadB 1 rfl rfl rfl (by rfl) ?_; refine r_build rfl rfl (by rfl) ?_; refine r_storeA 4 rfl rfl rfl rfl (by rfl) (by repeat' (first | exact rfl | assumption | refine all_cons ?_ ?_)) rfl ?_; refine r_storeA 3 rfl rfl rfl rfl (by rfl) (by repeat' (first | exact rfl | assumption | refine all_cons ?_ ?_)) rfl ?_; refine r_nn <| r_retc ?_
     exact r_ret2 [] rfl (res_blk 4 rfl rfl (by rfl)) (res_blk 3 rfl rfl (by rfl)) (by simp) ⟨⟨_, rfl, hV⟩, rfl⟩
end Go.Proofs.YtpjehhnaojjanaaGreatDoor
-- sum 808d5226b739c802


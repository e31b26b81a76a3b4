/- The walks of package token, second part: HasPrefix, Scan. -/
import Derived.Test.YtjiommnmkokldaaDoorTokA
namespace Go.Proofs.YtjiommnmkokldaaDoor
open Go Go.Eng Go.Th Go.Proofs
set_option maxRecDepth 10000
attribute [local irreducible] wpList Code.wp Run bodyPost Go.Eng.Ends Exit.then Exit.inBlock Again Wq Kq
theorem sHasPrefix_spec (g : Ghost) (s p : Bytes) : Pure Tryd.prog 85 [str s, str p] g (.bool (decide (p.length ≤ s.length ∧ s.take p.length = p))) := by
  refine spec_of_run Tryd.func85 rfl Tryd.ntmps85 rfl fun E hE => ?_
  refine r_sr ?_; refine r_ev rfl rfl ?_; refine r_nn ?_; refine r_sr ?_; refine r_ev rfl rfl ?_; refine r_len_str rfl rfl ?_; refine r_ev rfl rfl ?_; refine r_len_str rfl rfl ?_; refine r_ev rfl rfl ?_; refine r_ev rfl rfl ?_
  refine r_gdec rfl rfl (fun h => ?_) (fun h => ?_)
  · have h' : p.length ≤ s.length := by omega
    refine r_tev rfl rfl rfl ?_; refine r_tev rfl rfl rfl ?_; refine r_take rfl ?_; refine r_len_str rfl rfl ?_; refine r_take rfl ?_
    refine r_slice_str (p := 0) (q := p.length) rfl rfl rfl ⟨_, _, rfl, rfl⟩ (by omega) (by omega) ?_
    refine r_tev rfl rfl rfl ?_; refine r_tev rfl rfl rfl ?_; refine r_ev rfl rfl ?_; refine r_ev rfl rfl ?_; refine r_nn ?_; refine r_retc ?_
    exact r_ret1 [] rfl rfl (by simp) ⟨vb (by simp [h']), rfl, rfl⟩
  · have h' : ¬ p.length ≤ s.length := by omega
    refine r_pass rfl rfl rfl ?_; refine r_pass rfl rfl rfl ?_; refine r_pass rfl rfl rfl ?_; refine r_pass rfl rfl rfl ?_; refine r_pass rfl rfl rfl ?_; refine r_pass rfl rfl rfl ?_; refine r_ev rfl rfl ?_; refine r_ev rfl rfl ?_; refine r_nn ?_; refine r_retc ?_
    exact r_ret1 [] rfl rfl (by simp) ⟨vb (by simp [h']), rfl, rfl⟩
theorem HasPrefix_spec (g : Ghost) (s p : Bytes) : Pure Tryd.prog 59 [str s, str p] g (.bool (decide (p.length ≤ s.length ∧ s.take p.length = p))) := by
  refine spec_of_run Tryd.func59 rfl Tryd.ntmps59 rfl fun E hE => ?_
  refine r_sr ?_; refine r_ev rfl rfl ?_; refine r_nn ?_; refine r_sr ?_; refine r_ev rfl rfl ?_; refine r_ev rfl rfl ?_
  refine r_callP rfl rfl (sHasPrefix_spec g s p) ?_
  refine r_ev rfl rfl ?_; refine r_nn ?_; refine r_retc ?_
  exact r_ret1 [] rfl rfl (by simp) ⟨rfl, rfl, rfl⟩

theorem comment_idx : ∀ s : Bytes, commentLen s = if idxByte 10 s < 0 then s.length else (idxByte 10 s).toNat
  | [] => rfl
  | x :: r => by
    have ih := comment_idx r
    have h0 : (10 : UInt8).toNat = 10 := rfl
    simp only [commentLen, idxByte, ← UInt8.toNat_inj, h0]
    by_cases hx : x.toNat = 10
    · simp [hx]
    · rw [if_neg hx, if_neg hx]
      rcases idxByte_cases 10 r with ⟨h1, _⟩ | ⟨h1, h2⟩
      · rw [h1] at ih ⊢; simpa using ih
      · rw [if_neg (by omega)] at ih ⊢
        rw [if_neg (by omega)]
        omega

theorem idxByte_mem {c : UInt8} : ∀ {s : Bytes}, 0 ≤ idxByte c s → c ∈ s
  | [], h => by simp [idxByte] at h
  | x :: r, h => by
    simp only [idxByte] at h
    by_cases hx : x = c
    · simp [hx]
    · rw [if_neg hx] at h
      have : 0 ≤ idxByte c r := by
        by_cases h2 : idxByte c r < 0
        · rw [if_pos h2] at h; omega
        · omega
      exact List.mem_cons_of_mem _ (idxByte_mem this)
theorem wordLen_all : ∀ s : Bytes, (s.take (wordLen s)).all inner = true
  | [] => rfl
  | c :: r => by
    have ih := wordLen_all r
    simp only [wordLen]
    cases hc : inner c
    · simp
    · simp only [if_true, List.take_succ_cons, List.all_cons, hc, Bool.true_and]; exact ih
theorem tokLen_all {s : Bytes} {i : Nat} (h : i < s.length) (hn : inner s[i] = true) : ((s.drop i).take (tokLen (s.drop i))).all inner = true := by
  rw [tokLen_word h hn, drop_cons h, List.take_succ_cons, List.all_cons, hn, Bool.true_and]
  exact wordLen_all _
theorem take_two {s : Bytes} {i : Nat} {x y : UInt8} : (s.drop i).take 2 = [x, y] ↔ ∃ h : i + 1 < s.length, s[i] = x ∧ s[i + 1] = y := by
  constructor
  · intro h
    have hl := congrArg List.length h
    simp at hl
    have h1 : i + 1 < s.length := by omega
    rw [drop_cons (by omega), drop_cons h1] at h
    simp only [List.take_succ_cons, List.take_zero, List.cons.injEq, and_true] at h
    exact ⟨h1, h⟩
  · rintro ⟨h1, h2, h3⟩
    rw [drop_cons (by omega), drop_cons h1, h2, h3]; rfl
theorem kind_one {c : UInt8} (hc : inner c = false) : kindOf [c] = if idxByte c markBytes < 0 then 0 else 5 := by
  have h1 : isKeyword [c] = false := by simp [isKeyword, keywords]
  have h2 : isWord [c] = false := by simp [isWord, hc]
  have h3 : digit c = false := by
    simp only [inner, Bool.or_eq_false_iff] at hc
    exact hc.1.2
  have h4 : isMark [c] = decide (c ∈ markBytes) := by
    rw [Bool.eq_iff_iff]
    simp only [isMark, Bool.or_eq_true, decide_eq_true_eq, List.any_eq_true]
    constructor
    · rintro (h | ⟨x, hx, h⟩)
      · simp at h
      · have : c = x := by simpa using h
        subst this; exact hx
    · intro h; exact .inr ⟨c, h, rfl⟩
  simp only [kindOf, h1, isLower, isUpper, h2, isInteger, h4]
  simp [h3]
  rcases idxByte_cases c markBytes with ⟨h5, h6⟩ | ⟨h5, _⟩
  · rw [h5, if_neg (fun h => h6 c h rfl), if_pos (by omega)]
  · rw [if_pos (idxByte_mem h5), if_neg (by omega)]

theorem tScan_spec (g : Ghost) (s : Bytes) (hs : s.length ≤ 9223372036854775807) : Eng.Spec Tryd.prog 31 [str s] g [] (ScanPost 44 s g) := by
  refine spec_of_run Tryd.func31 rfl Tryd.ntmps31 rfl fun E hE => ?_
  refine r_sr ?_
  refine r_ev rfl rfl ?_
  refine r_alloc rfl (fun b => ?_)
  refine r_nn ?_; refine r_seq ?_; refine r_sr ?_; refine r_ev rfl rfl ?_; refine r_len_str rfl rfl ?_; refine r_ev rfl rfl ?_; refine r_nn ?_
  refine r_cond rfl (fun hlong => ?_) (fun hlong => ?_)
  · refine r_sr ?_; refine r_build rfl rfl (by rfl) ?_; refine r_ev rfl rfl ?_; refine r_storeA 0 rfl rfl rfl rfl (by rfl) rfl rfl ?_; refine r_nn ?_; refine r_retc ?_; refine r_then_ret ?_
    refine r_ret2 [] rfl (.tmp rfl) (res_blk 0 rfl rfl (by rfl)) (by simp) ⟨rfl, ?_⟩
    have : 4000 < s.length := by omega
    simp [scan, this]
  · have hle : s.length ≤ 4000 := by omega
    refine r_skip ?_; refine r_then_normal ?_; refine r_sr ?_; refine r_ev rfl rfl ?_; refine r_nn ?_; refine r_seq ?_; refine r_sr ?_; refine r_ev rfl rfl ?_; refine r_nn ?_; refine r_block ?_
    refine r_nilRow 44 3 ?_
    refine r_loop (ι := Nat × List Tok × Value) (fun p => [(0, str s), (3, ptr b 0), (4, p.2.2), (5, .int .i64 p.1)]) (fun _ => g)
      (fun p => [.row 44 3 p.2.2 p.2.1.length (p.2.1.flatMap tokCells), .blk b 40 [.int .i64 0, .int .i64 0]])
      (fun p => p.1 ≤ s.length ∧ p.2.1.length ≤ p.1 ∧ scanFrom 0 (s.drop 0) = pre p.2.1 (scanFrom p.1 (s.drop p.1))) (fun p => s.length - p.1) (0, [], .slice none 0 0) ⟨by simp, by simp, by simp [pre_nil]⟩ ⟨rfl, rfl, rfl, rfl, trivial⟩ rfl rfl ?_
    rintro ⟨i, l, v⟩ ⟨hi, hl, hinv⟩
    simp only at hi hl hinv
    show Run E _ [(0, str s), (3, ptr b 0), (4, v), (5, .int .i64 i)] g [.row 44 3 v l.length (l.flatMap tokCells), .blk b 40 [.int .i64 0, .int .i64 0]] _
    refine r_seq ?_; refine r_sr ?_; refine r_ev rfl rfl ?_; refine r_ev rfl rfl ?_; refine r_len_str rfl rfl ?_; refine r_ev rfl rfl ?_; refine r_nn ?_
    refine r_cond rfl (fun hlt => ?_) (fun hlt => ?_)
    · have hlt' : i < s.length := by omega
      have hpc : commentLen (s.drop i) ≤ s.length - i := by have := commentLen_le (s.drop i); rwa [List.length_drop] at this
      refine r_skip ?_; refine r_then_normal ?_; refine r_block ?_; refine r_sr ?_; refine r_ev rfl rfl ?_; refine r_ev rfl rfl ?_
      refine r_index_str (j := i) rfl rfl rfl rfl hlt' ?_
      refine r_ev rfl rfl ?_; refine r_ev rfl rfl ?_; refine r_ev rfl rfl ?_; refine r_nn ?_
      refine r_cut [(0, str s), (3, ptr b 0), (4, v), (5, .int .i64 i), (7, .int .i64 (tokLen (s.drop i) : Nat)), (8, .int .i64 (kindOf ((s.drop i).take (tokLen (s.drop i)))))] (white s[i] = false ∧ s[i].toNat ≠ 35) ?_ ?_
      · rintro ⟨hw, hc⟩
        have htl := tokLen_le (s.drop i)
        have htp : 1 ≤ tokLen (s.drop i) := by rw [drop_cons hlt']; exact tokLen_pos _ _
        rw [List.length_drop] at htl
        refine r_seq ?_; refine r_sr ?_; refine r_ev rfl rfl ?_; refine r_ev rfl rfl ?_; refine r_nn ?_
        refine r_cond rfl (fun hk => ?_) (fun hk => ?_)
        · refine r_sr ?_; refine r_ev rfl rfl ?_; refine r_build rfl rfl (by rfl) ?_; refine r_ev rfl rfl ?_; refine r_storeA 1 rfl rfl rfl rfl (by rfl) rfl rfl ?_; refine r_nn ?_; refine r_retc ?_; refine r_then_ret ?_; refine r_in_ret ?_; refine r_then_ret ?_; refine r_in_ret ?_; refine r_then_ret ?_
          refine r_ret2 [] rfl (.tmp rfl) (res_blk 1 rfl rfl (by rfl)) (by simp) ⟨rfl, ?_⟩
          rw [scan_of hle, hinv, scan_bad hlt' hw hc hk]
          exact ⟨rfl, rfl⟩
        · refine r_skip ?_; refine r_then_normal ?_; refine r_sr ?_; refine r_ev rfl rfl ?_; refine r_ev rfl rfl ?_; refine r_ev rfl rfl ?_; refine r_ev rfl rfl ?_; refine r_ev rfl rfl ?_; refine r_ev rfl rfl ?_
          refine r_add rfl rfl rfl (by omega) ?_
          skip
          refine r_slice_str (p := i) (q := i + tokLen (s.drop i)) rfl rfl ⟨_, _, rfl, rfl⟩ ⟨_, _, rfl, by omega⟩ (by omega) (by omega) ?_
          rw [piece_eq]
          refine r_ev rfl rfl ?_; refine r_build rfl rfl (by rfl) ?_
          refine r_buildSlice rfl rfl (by rfl) (by rfl) (by rfl) (by rfl) (by rfl) (fun b2 => ?_)
          refine r_appendRow 1 0 rfl rfl rfl rfl rfl (by rfl) (by rfl) rfl (by unfold maxLen; omega) (by omega) (fun v' _ => ?_)
          refine r_ev rfl rfl ?_; refine r_nn ?_; refine r_region ?_; refine r_ev rfl rfl ?_; refine r_ev rfl rfl ?_
          refine r_add rfl rfl rfl (by omega) ?_
          refine r_ev rfl rfl ?_; refine r_nil ?_; refine r_in_normal ?_; refine r_then_normal ?_
          refine r_drop (own' := [_, _]) (List.sublist_cons_self _ _) ?_
          refine r_again (i + tokLen (s.drop i), l ++ [⟨kindOf ((s.drop i).take (tokLen (s.drop i))), (s.drop i).take (tokLen (s.drop i)), i⟩], v') ⟨by simp; omega, by simp; omega, ?_⟩ (by simp; omega) ⟨rfl, rfl, rfl, rfl, trivial⟩ rfl ?_
          · simp only
            rw [hinv, scan_tok hlt' hw hc hk]
          · simp [tokCells, repN]
      · intro K hK
        have hwa : white s[i] = true → (32 = s[i].toNat ∨ 9 = s[i].toNat ∨ 13 = s[i].toNat ∨ 10 = s[i].toNat) := fun h => by simp [white] at h; omega
        refine r_block ?_; refine r_seq ?_; refine r_block ?_; refine r_seq ?_; refine r_block ?_; refine r_seq ?_; refine r_block ?_; refine r_seq ?_; refine r_block ?_; refine r_seq ?_; refine r_block ?_; refine r_seq ?_; refine r_seq ?_; refine r_sr ?_; refine r_ev rfl rfl ?_; refine r_ev rfl rfl ?_; refine r_ev rfl rfl ?_; refine r_nn ?_
        refine r_cond rfl (fun hc => ?_) (fun hc => ?_)
        · have hc' : s[i].toNat = 35 := by omega
          have hw : white s[i] = false := by simp [white]; omega
          have hcm := scan_comment hlt' hw hc'
          have hcp : 1 ≤ commentLen (s.drop i) := by rw [drop_cons hlt']; exact commentLen_pos _ hc'
          refine r_exit ?_; refine r_then_exit ?_; refine r_then_exit ?_; refine r_in_exit ?_; refine r_then_normal ?_; refine r_sr ?_; refine r_ev rfl rfl ?_; refine r_ev rfl rfl ?_
          refine r_slice_str (p := i) (q := s.length) rfl rfl ⟨_, _, rfl, rfl⟩ rfl (by omega) (by omega) ?_
          rw [List.take_length]
          refine r_callP rfl rfl (IndexByte_spec g _ 10) ?_
          have hidx := comment_idx (s.drop i)
          rw [List.length_drop] at hidx
          refine r_ev rfl rfl ?_; refine r_nn ?_; refine r_sr ?_; refine r_ev rfl rfl ?_; refine r_ev rfl rfl ?_; refine r_nn ?_
          refine r_cond rfl (fun hneg => ?_) (fun hneg => ?_)
          · rw [if_pos hneg] at hidx
            refine r_region ?_; refine r_ev rfl rfl ?_; refine r_len_str rfl rfl ?_; refine r_ev rfl rfl ?_
            refine r_sub_ rfl rfl rfl (by omega) ?_
            refine r_ev rfl rfl ?_; refine r_nil ?_; refine r_in_normal ?_; refine r_then_normal ?_; refine r_seq ?_; refine r_sr ?_; refine r_ev rfl rfl ?_; refine r_ev rfl rfl ?_
            refine r_add rfl rfl rfl (by omega) ?_
            refine r_ev rfl rfl ?_; refine r_nn ?_; refine r_exit ?_; refine r_then_exit ?_; refine r_in_exit_other rfl ?_; refine r_then_exit ?_; refine r_in_exit_other rfl ?_; refine r_then_exit ?_; refine r_in_exit_other rfl ?_; refine r_then_exit ?_; refine r_in_exit_other rfl ?_; refine r_then_exit ?_; refine r_in_exit ?_; refine r_then_normal ?_
            exact r_again (i + commentLen (s.drop i), l, v) ⟨by simp; omega, by simp; omega, by simp only; rw [hinv, hcm]⟩ (by simp; omega) ⟨rfl, rfl, rfl, by rw [show ((i + commentLen (s.drop i) : Nat) : Int) = i + ((s.length : Nat) - (i : Nat)) by omega]; rfl, trivial⟩ rfl rfl
          · rw [if_neg hneg] at hidx
            refine r_skip ?_; refine r_in_normal ?_; refine r_then_normal ?_; refine r_seq ?_; refine r_sr ?_; refine r_ev rfl rfl ?_; refine r_ev rfl rfl ?_
            refine r_add rfl rfl rfl (by omega) ?_
            refine r_ev rfl rfl ?_; refine r_nn ?_; refine r_exit ?_; refine r_then_exit ?_; refine r_in_exit_other rfl ?_; refine r_then_exit ?_; refine r_in_exit_other rfl ?_; refine r_then_exit ?_; refine r_in_exit_other rfl ?_; refine r_then_exit ?_; refine r_in_exit_other rfl ?_; refine r_then_exit ?_; refine r_in_exit ?_; refine r_then_normal ?_
            exact r_again (i + commentLen (s.drop i), l, v) ⟨by simp; omega, by simp; omega, by simp only; rw [hinv, hcm]⟩ (by simp; omega) ⟨rfl, rfl, rfl, by rw [show ((i + commentLen (s.drop i) : Nat) : Int) = i + idxByte 10 (s.drop i) by omega]; rfl, trivial⟩ rfl rfl
        · have hc' : s[i].toNat ≠ 35 := by omega
          refine r_skip ?_; refine r_then_normal ?_; refine r_seq ?_; refine r_seq ?_; refine r_sr ?_; refine r_ev rfl rfl ?_; refine r_ev rfl rfl ?_; refine r_ev rfl rfl ?_; refine r_nn ?_
          refine r_cond rfl (fun w1 => ?_) (fun w1 => ?_)
          · have hw : white s[i] = true := by simp [white]; omega
            refine r_skip ?_; refine r_then_normal ?_
            refine r_cond rfl (fun _ => ?_) (fun hx => absurd w1 hx)
            refine r_exit ?_; refine r_then_exit ?_; refine r_then_exit ?_; refine r_in_exit_other rfl ?_; refine r_then_exit ?_; refine r_in_exit ?_; refine r_then_normal ?_; refine r_seq ?_; refine r_sr ?_; refine r_ev rfl rfl ?_; refine r_ev rfl rfl ?_
            refine r_add rfl rfl rfl (by omega) ?_
            refine r_ev rfl rfl ?_; refine r_nn ?_; refine r_exit ?_; refine r_then_exit ?_; refine r_in_exit_other rfl ?_; refine r_then_exit ?_; refine r_in_exit_other rfl ?_; refine r_then_exit ?_; refine r_in_exit_other rfl ?_; refine r_then_exit ?_; refine r_in_exit_other rfl ?_; refine r_then_exit ?_; refine r_in_exit ?_; refine r_then_normal ?_
            exact r_again (i + 1, l, v) ⟨by simp; omega, by simp; omega, by simp only; rw [hinv, scan_white hlt' hw]⟩ (by simp; omega) ⟨rfl, rfl, rfl, rfl, trivial⟩ rfl rfl
          refine r_sr ?_; refine r_ev rfl rfl ?_; refine r_ev rfl rfl ?_; refine r_ev rfl rfl ?_; refine r_nn ?_
          refine r_cond rfl (fun w2 => ?_) (fun w2 => ?_)
          · have hw : white s[i] = true := by simp [white]; omega
            refine r_skip ?_; refine r_then_normal ?_
            refine r_cond rfl (fun _ => ?_) (fun hx => absurd w2 hx)
            refine r_exit ?_; refine r_then_exit ?_; refine r_then_exit ?_; refine r_in_exit_other rfl ?_; refine r_then_exit ?_; refine r_in_exit ?_; refine r_then_normal ?_; refine r_seq ?_; refine r_sr ?_; refine r_ev rfl rfl ?_; refine r_ev rfl rfl ?_
            refine r_add rfl rfl rfl (by omega) ?_
            refine r_ev rfl rfl ?_; refine r_nn ?_; refine r_exit ?_; refine r_then_exit ?_; refine r_in_exit_other rfl ?_; refine r_then_exit ?_; refine r_in_exit_other rfl ?_; refine r_then_exit ?_; refine r_in_exit_other rfl ?_; refine r_then_exit ?_; refine r_in_exit_other rfl ?_; refine r_then_exit ?_; refine r_in_exit ?_; refine r_then_normal ?_
            exact r_again (i + 1, l, v) ⟨by simp; omega, by simp; omega, by simp only; rw [hinv, scan_white hlt' hw]⟩ (by simp; omega) ⟨rfl, rfl, rfl, rfl, trivial⟩ rfl rfl
          refine r_sr ?_; refine r_ev rfl rfl ?_; refine r_ev rfl rfl ?_; refine r_ev rfl rfl ?_; refine r_nn ?_
          refine r_cond rfl (fun w3 => ?_) (fun w3 => ?_)
          · have hw : white s[i] = true := by simp [white]; omega
            refine r_skip ?_; refine r_then_normal ?_
            refine r_cond rfl (fun _ => ?_) (fun hx => absurd w3 hx)
            refine r_exit ?_; refine r_then_exit ?_; refine r_then_exit ?_; refine r_in_exit_other rfl ?_; refine r_then_exit ?_; refine r_in_exit ?_; refine r_then_normal ?_; refine r_seq ?_; refine r_sr ?_; refine r_ev rfl rfl ?_; refine r_ev rfl rfl ?_
            refine r_add rfl rfl rfl (by omega) ?_
            refine r_ev rfl rfl ?_; refine r_nn ?_; refine r_exit ?_; refine r_then_exit ?_; refine r_in_exit_other rfl ?_; refine r_then_exit ?_; refine r_in_exit_other rfl ?_; refine r_then_exit ?_; refine r_in_exit_other rfl ?_; refine r_then_exit ?_; refine r_in_exit_other rfl ?_; refine r_then_exit ?_; refine r_in_exit ?_; refine r_then_normal ?_
            exact r_again (i + 1, l, v) ⟨by simp; omega, by simp; omega, by simp only; rw [hinv, scan_white hlt' hw]⟩ (by simp; omega) ⟨rfl, rfl, rfl, rfl, trivial⟩ rfl rfl
          refine r_region ?_; refine r_ev rfl rfl ?_; refine r_ev rfl rfl ?_; refine r_ev rfl rfl ?_; refine r_nn ?_
          refine r_cond rfl (fun w4 => ?_) (fun w4 => ?_)
          · have hw : white s[i] = true := by simp [white]; omega
            refine r_exit ?_; refine r_then_exit ?_; refine r_then_exit ?_; refine r_in_exit_other rfl ?_; refine r_then_exit ?_; refine r_in_exit ?_; refine r_then_normal ?_; refine r_seq ?_; refine r_sr ?_; refine r_ev rfl rfl ?_; refine r_ev rfl rfl ?_
            refine r_add rfl rfl rfl (by omega) ?_
            refine r_ev rfl rfl ?_; refine r_nn ?_; refine r_exit ?_; refine r_then_exit ?_; refine r_in_exit_other rfl ?_; refine r_then_exit ?_; refine r_in_exit_other rfl ?_; refine r_then_exit ?_; refine r_in_exit_other rfl ?_; refine r_then_exit ?_; refine r_in_exit_other rfl ?_; refine r_then_exit ?_; refine r_in_exit ?_; refine r_then_normal ?_
            exact r_again (i + 1, l, v) ⟨by simp; omega, by simp; omega, by simp only; rw [hinv, scan_white hlt' hw]⟩ (by simp; omega) ⟨rfl, rfl, rfl, rfl, trivial⟩ rfl rfl
          have hw : white s[i] = false := by simp [white]; omega
          refine r_skip ?_; refine r_then_normal ?_; refine r_seq ?_; refine r_sr ?_; refine r_ev rfl rfl ?_
          refine r_callP rfl rfl (part_spec g _) ?_
          refine r_ev rfl rfl ?_; refine r_nn ?_
          refine r_condb rfl (fun hin => ?_) (fun hin => ?_)
          · have htk := tokLen_word hlt' hin
            have hwl := wordLen_le (s.drop (i + 1))
            rw [List.length_drop] at hwl
            refine r_exit ?_; refine r_then_exit ?_; refine r_then_exit ?_; refine r_in_exit_other rfl ?_; refine r_then_exit ?_; refine r_in_exit_other rfl ?_; refine r_then_exit ?_; refine r_in_exit ?_; refine r_then_normal ?_; refine r_seq ?_; refine r_seq ?_; refine r_block ?_
            refine r_loop (ι := Nat) (fun n => [(0, str s), (3, ptr b 0), (4, v), (5, .int .i64 i), (7, .int .i64 n)]) (fun _ => g) (fun _ => [.row 44 3 v l.length (l.flatMap tokCells), .blk b 40 [.int .i64 0, .int .i64 0]])
              (fun n => 1 ≤ n ∧ i + n ≤ s.length ∧ n + wordLen (s.drop (i + n)) = 1 + wordLen (s.drop (i + 1))) (fun n => s.length - n) 1 ⟨Nat.le_refl _, by omega, rfl⟩ ⟨rfl, rfl, rfl, rfl, rfl, trivial⟩ rfl rfl ?_
            rintro n ⟨hn1, hnl, hcm⟩
            refine r_seq ?_; refine r_sr ?_; refine r_ev rfl rfl ?_; refine r_ev rfl rfl ?_
            refine r_add rfl rfl rfl (by omega) ?_
            refine r_ev rfl rfl ?_; refine r_len_str rfl rfl ?_; refine r_ev rfl rfl ?_; refine r_ev rfl rfl ?_
            refine r_gdec rfl rfl (fun hj => ?_) (fun hj => ?_)
            · have hj' : i + n < s.length := by omega
              refine r_tev rfl rfl rfl ?_; refine r_tev rfl rfl rfl ?_; refine r_tev rfl rfl rfl ?_; refine r_take rfl ?_
              refine r_add rfl rfl rfl (by omega) ?_
              refine r_take rfl ?_
              refine r_index_str (j := i + n) rfl rfl rfl (by omega) hj' ?_
              refine r_take rfl ?_
              refine r_callP rfl rfl (part_spec g _) ?_
              refine r_ev rfl rfl ?_; refine r_nn ?_
              refine r_condb rfl (fun hn => ?_) (fun hn => ?_)
              · have hst := wordLen_step hj' hn
                refine r_skip ?_; refine r_then_normal ?_; refine r_block ?_; refine r_region ?_; refine r_ev rfl rfl ?_
                refine r_add rfl rfl rfl (by omega) ?_
                refine r_ev rfl rfl ?_; refine r_nil ?_; refine r_in_normal ?_; refine r_then_normal ?_
                exact r_again (n + 1) ⟨by omega, by omega, by rw [← Nat.add_assoc]; omega⟩ (by omega) ⟨rfl, rfl, rfl, rfl, rfl, trivial⟩ rfl rfl
              · have hst := wordLen_stop hj' hn
                have hfin : n = tokLen (s.drop i) := by omega
                subst hfin
                refine r_exit ?_; refine r_then_exit ?_; refine r_then_exit ?_; refine r_in_exit ?_; refine r_then_normal ?_; refine r_region ?_; refine r_ev rfl rfl ?_; refine r_ev rfl rfl ?_; refine r_ev rfl rfl ?_; refine r_ev rfl rfl ?_
                refine r_add rfl rfl rfl (by omega) ?_
                skip
                refine r_slice_str (p := i) (q := i + tokLen (s.drop i)) rfl rfl ⟨_, _, rfl, rfl⟩ ⟨_, _, rfl, by omega⟩ (by omega) (by omega) ?_
                rw [piece_eq]
                refine r_callP rfl rfl (tword_spec g _ (by rw [List.length_take, List.length_drop]; omega) (by rw [List.length_take, List.length_drop]; omega) (tokLen_all hlt' hin)) ?_
                refine r_ev rfl rfl ?_; refine r_nn ?_; refine r_exit ?_; refine r_in_exit_other rfl ?_; refine r_then_exit ?_; refine r_in_exit_other rfl ?_; refine r_then_exit ?_; refine r_in_exit ?_; refine r_then_normal ?_
                exact hK _ ⟨hw, hc'⟩ ⟨rfl, rfl, rfl, rfl, rfl, rfl, trivial⟩
            · have hst := wordLen_end (s := s) (k := i + n) (by omega)
              have hfin : n = tokLen (s.drop i) := by omega
              subst hfin
              refine r_pass rfl rfl rfl ?_; refine r_pass rfl rfl rfl ?_; refine r_pass rfl rfl rfl ?_; refine r_pass rfl rfl rfl ?_; refine r_pass rfl rfl rfl ?_; refine r_pass rfl rfl rfl ?_; refine r_ev rfl rfl ?_; refine r_nn ?_; refine r_cond_false rfl ?_; refine r_exit ?_; refine r_then_exit ?_; refine r_then_exit ?_; refine r_in_exit ?_; refine r_then_normal ?_; refine r_region ?_; refine r_ev rfl rfl ?_; refine r_ev rfl rfl ?_; refine r_ev rfl rfl ?_; refine r_ev rfl rfl ?_
              refine r_add rfl rfl rfl (by omega) ?_
              skip
              refine r_slice_str (p := i) (q := i + tokLen (s.drop i)) rfl rfl ⟨_, _, rfl, rfl⟩ ⟨_, _, rfl, by omega⟩ (by omega) (by omega) ?_
              rw [piece_eq]
              refine r_callP rfl rfl (tword_spec g _ (by rw [List.length_take, List.length_drop]; omega) (by rw [List.length_take, List.length_drop]; omega) (tokLen_all hlt' hin)) ?_
              refine r_ev rfl rfl ?_; refine r_nn ?_; refine r_exit ?_; refine r_in_exit_other rfl ?_; refine r_then_exit ?_; refine r_in_exit_other rfl ?_; refine r_then_exit ?_; refine r_in_exit ?_; refine r_then_normal ?_
              exact hK _ ⟨hw, hc'⟩ ⟨rfl, rfl, rfl, rfl, rfl, rfl, trivial⟩
          · refine r_skip ?_; refine r_then_normal ?_; refine r_seq ?_; refine r_sr ?_; refine r_ev rfl rfl ?_; refine r_ev rfl rfl ?_
            refine r_slice_str (p := i) (q := s.length) rfl rfl ⟨_, _, rfl, rfl⟩ rfl (by omega) (by omega) ?_
            rw [List.take_length]
            refine r_callP rfl rfl (HasPrefix_spec g _ [45, 62]) ?_
            refine r_ev rfl rfl ?_; refine r_nn ?_
            refine r_cond rfl (fun hp => ?_) (fun hp => ?_)
            · obtain ⟨h2, e1, e2⟩ := take_two.1 hp.2
              have htk := tokLen_arrow h2 hin (by rw [e1]; rfl) (by rw [e2]; rfl)
              have hkd : kindOf ((s.drop i).take (tokLen (s.drop i))) = 5 := by rw [htk]; rw [show (s.drop i).take 2 = [45, 62] from hp.2]; decide
              refine r_exit ?_; refine r_then_exit ?_; refine r_then_exit ?_; refine r_in_exit_other rfl ?_; refine r_then_exit ?_; refine r_in_exit_other rfl ?_; refine r_then_exit ?_; refine r_in_exit_other rfl ?_; refine r_then_exit ?_; refine r_in_exit ?_; refine r_then_normal ?_; refine r_sr ?_; refine r_ev rfl rfl ?_; refine r_nn ?_; refine r_exit ?_; refine r_in_exit_other rfl ?_; refine r_then_exit ?_; refine r_in_exit ?_; refine r_then_normal ?_
              exact hK _ ⟨hw, hc'⟩ ⟨rfl, rfl, rfl, rfl, by rw [htk]; rfl, by rw [hkd]; rfl, trivial⟩
            · have htk := tokLen_one hlt' hin (fun h1 h2 h3 => hp ⟨by rw [List.length_drop]; simp; omega, take_two.2 ⟨h2, UInt8.toNat_inj.1 (by rw [h1]; rfl), UInt8.toNat_inj.1 (by rw [h3]; rfl)⟩⟩)
              have hkd : kindOf ((s.drop i).take (tokLen (s.drop i))) = if idxByte s[i] markBytes < 0 then 0 else 5 := by rw [htk, drop_cons hlt']; exact kind_one hin
              refine r_skip ?_; refine r_then_normal ?_; refine r_sr ?_; refine r_ev rfl rfl ?_
              refine r_callP rfl rfl (IndexByte_spec g markBytes _) ?_
              refine r_ev rfl rfl ?_; refine r_ev rfl rfl ?_; refine r_nn ?_
              refine r_cond rfl (fun hm => ?_) (fun hm => ?_)
              · rw [if_pos hm] at hkd
                refine r_exit ?_; refine r_then_exit ?_; refine r_in_exit_other rfl ?_; refine r_then_exit ?_; refine r_in_exit_other rfl ?_; refine r_then_exit ?_; refine r_in_exit_other rfl ?_; refine r_then_exit ?_; refine r_in_exit_other rfl ?_; refine r_then_exit ?_; refine r_in_exit ?_; refine r_then_normal ?_; refine r_sr ?_; refine r_ev rfl rfl ?_; refine r_nn ?_; refine r_exit ?_; refine r_in_exit ?_; refine r_then_normal ?_
                exact hK _ ⟨hw, hc'⟩ ⟨rfl, rfl, rfl, rfl, by rw [htk]; rfl, by rw [hkd]; rfl, trivial⟩
              · rw [if_neg hm] at hkd
                refine r_skip ?_; refine r_then_normal ?_; refine r_exit ?_; refine r_in_exit_other rfl ?_; refine r_then_exit ?_; refine r_in_exit_other rfl ?_; refine r_then_exit ?_; refine r_in_exit_other rfl ?_; refine r_then_exit ?_; refine r_in_exit_other rfl ?_; refine r_then_exit ?_; refine r_in_exit_other rfl ?_; refine r_then_exit ?_; refine r_in_exit ?_; refine r_then_normal ?_
                exact hK _ ⟨hw, hc'⟩ ⟨rfl, rfl, rfl, rfl, by rw [htk]; rfl, by rw [hkd]; rfl, trivial⟩
    · have hil : i = s.length := by omega
      subst hil
      refine r_exit ?_; refine r_then_exit ?_; refine r_then_exit ?_; refine r_in_exit ?_; refine r_then_normal ?_; refine r_sr ?_; refine r_ev rfl rfl ?_; refine r_build rfl rfl (by rfl) ?_; refine r_ev rfl rfl ?_; refine r_storeA 1 rfl rfl rfl rfl (by rfl) rfl rfl ?_; refine r_nn ?_; refine r_retc ?_
      refine r_ret2 [_] rfl (.tmp rfl) (res_blk 1 rfl rfl (by rfl)) (List.sublist_append_left [_] [_]) ⟨rfl, ?_⟩
      rw [scan_of hle, hinv, List.drop_length, scanFrom_nil]
      simp only [pre, List.append_nil]
      exact ⟨v, rfl, rfl⟩
end Go.Proofs.YtjiommnmkokldaaDoor

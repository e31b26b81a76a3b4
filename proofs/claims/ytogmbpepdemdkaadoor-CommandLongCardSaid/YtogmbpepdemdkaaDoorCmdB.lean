/- The walks of chapter 37: strings.Cut, strconv.Atoi, the tables of forms, the readers of words and numbers. -/
import Derived.Test.YtogmbpepdemdkaaDoorCmdA
import Derived.Test.YtogmbpepdemdkaaDoorOpsF
import Derived.Test.YtogmbpepdemdkaaDoorShelf
namespace Go.Proofs.YtogmbpepdemdkaaDoor
open Go Go.Eng Go.Proofs
set_option maxRecDepth 10000
attribute [local irreducible] wpList Code.wp Run bodyPost Go.Eng.Ends Exit.then Exit.inBlock Again Wq Kq
abbrev ints (l : List Int) : List Value := l.map (Value.int .i64)
def formCells (f : Form) : List Value := [str f.word, .int .i64 f.kind, .int .i64 f.cnt, .bool f.txt]
theorem formCells_len (f : Form) : (formCells f).length = 4 := rfl
def formV (f : Form) : Value := .agg #[str f.word, .int .i64 f.kind, .int .i64 f.cnt, .bool f.txt]
def optS (r : Option Bytes) : Bytes := r.getD []
theorem cut_none : ∀ {s : Bytes}, idxByte 32 s < 0 → cutSp s = (s, none)
  | [], _ => rfl
  | x :: r, h => by
    simp only [idxByte] at h
    by_cases hx : x = 32
    · simp [hx] at h
    · rw [if_neg hx] at h
      have hr : idxByte 32 r < 0 := by
        by_cases h2 : idxByte 32 r < 0
        · exact h2
        · rw [if_neg h2] at h; omega
      simp [cutSp, hx, cut_none hr]
theorem cut_some : ∀ {s : Bytes} {m : Nat}, idxByte 32 s = m → cutSp s = (s.take m, some (s.drop (m + 1)))
  | [], m, h => by simp only [idxByte] at h; omega
  | x :: r, m, h => by
    simp only [idxByte] at h
    by_cases hx : x = 32
    · rw [if_pos hx] at h
      have : m = 0 := by omega
      subst this
      simp [cutSp, hx]
    · rw [if_neg hx] at h
      by_cases h2 : idxByte 32 r < 0
      · rw [if_pos h2] at h; omega
      · rw [if_neg h2] at h
        obtain ⟨k, rfl⟩ : ∃ k, m = k + 1 := ⟨m - 1, by omega⟩
        have ih := cut_some (s := r) (m := k) (by omega)
        simp [cutSp, hx, ih]
def cutV (s : Bytes) : Value := .tuple #[str (cutSp s).1, str (optS (cutSp s).2), .bool (cutSp s).2.isSome]
theorem slCut_spec (g : Ghost) (s : Bytes) (hs : s.length ≤ 9223372036854775806) : Pure Tryd.prog 45 [str s, str [32]] g (cutV s) := by
  refine spec_of_run Tryd.func45 rfl Tryd.ntmps45 rfl fun E hE => ?_
  refine r_sr ?_; refine r_ev rfl rfl ?_; refine r_ev rfl rfl ?_; refine r_ev rfl rfl ?_; refine r_nn ?_; refine r_seq ?_; refine r_sr ?_; refine r_ev rfl rfl ?_; refine r_ev rfl rfl ?_
  refine r_callP rfl rfl (sIndex_spec g s 32) ?_
  rcases idxByte_cases 32 s with ⟨hm, _⟩ | ⟨hm0, hm1⟩
  · have hc := cut_none (s := s) (by omega)
    rw [hm]
    refine r_ev rfl rfl ?_; refine r_nn ?_; refine r_sr ?_; refine r_ev rfl rfl ?_; refine r_ev rfl rfl ?_; refine r_nn ?_; refine r_cond_false rfl ?_; refine r_skip ?_; refine r_then_normal ?_; refine r_sr ?_; refine r_ev rfl rfl ?_; refine r_ev rfl rfl ?_; refine r_ev rfl rfl ?_; refine r_ev rfl rfl ?_; refine r_nn ?_; refine r_retc ?_
    exact r_ret3 [] rfl (.tmp rfl) (.tmp rfl) (.tmp rfl) (by simp) ⟨by rw [cutV, hc]; rfl, rfl, rfl⟩
  · obtain ⟨m, hm⟩ : ∃ m : Nat, idxByte 32 s = m := ⟨(idxByte 32 s).toNat, by omega⟩
    have hc := cut_some hm
    rw [hm] at hm1 ⊢
    refine r_ev rfl rfl ?_; refine r_nn ?_; refine r_sr ?_; refine r_ev rfl rfl ?_; refine r_ev rfl rfl ?_; refine r_nn ?_; refine r_cond_true rfl ?_; refine r_seq ?_
    refine r_qregion mixed (by kernel_rfl) ?_
    refine q_ev rfl rfl ?_; refine q_ev rfl rfl ?_
    refine q_v rfl (val_slice_str (p := 0) (q := m) rfl rfl ⟨_, _, rfl, rfl⟩ (by omega) (by omega)) ?_
    refine q_ev rfl rfl ?_; refine q_ev rfl rfl ?_; refine q_ev rfl rfl ?_; refine q_v rfl (val_len_str rfl) ?_; refine q_v rfl (val_add rfl rfl (by simp; omega)) ?_
    refine q_v rfl (val_slice_str (p := m + 1) (q := s.length) rfl ⟨_, _, rfl, by simp⟩ rfl (by omega) (by omega)) ?_
    refine q_ev rfl rfl ?_; refine q_ev rfl rfl ?_; refine q_ev rfl rfl ?_; refine q_end ?_; refine r_then_normal ?_; refine r_retc ?_; refine r_then_ret ?_
    exact r_ret3 [] rfl (.tmp rfl) (.tmp rfl) (.tmp rfl) (by simp) ⟨by rw [cutV, hc, List.drop_zero, List.take_length]; rfl, rfl, rfl⟩
theorem Cut_spec (g : Ghost) (s : Bytes) (hs : s.length ≤ 9223372036854775806) : Pure Tryd.prog 35 [str s, str [32]] g (cutV s) := by
  refine spec_of_run Tryd.func35 rfl Tryd.ntmps35 rfl fun E hE => ?_
  refine r_sr ?_; refine r_ev rfl rfl ?_; refine r_ev rfl rfl ?_; refine r_ev rfl rfl ?_; refine r_nn ?_; refine r_sr ?_; refine r_ev rfl rfl ?_; refine r_ev rfl rfl ?_
  refine r_callP rfl rfl (slCut_spec g s hs) ?_
  unfold cutV
  refine r_ev rfl rfl ?_; refine r_ev rfl rfl ?_; refine r_ev rfl rfl ?_; refine r_ev rfl rfl ?_; refine r_ev rfl rfl ?_; refine r_ev rfl rfl ?_; refine r_nn ?_; refine r_retc ?_
  exact r_ret3 [] rfl (.tmp rfl) (.tmp rfl) (.tmp rfl) (by simp) ⟨rfl, rfl, rfl⟩
theorem forms_spec (g : Ghost) : Eng.Spec Tryd.prog 36 [] g [] fun v g' own' => g' = g ∧ ∃ b, v = .slice (some ⟨b, 0, none⟩) 11 11 ∧ own' = [.row 58 4 v 11 (formList.flatMap formCells)] := by
  refine spec_of_run Tryd.func36 rfl Tryd.ntmps36 rfl fun E hE => ?_
  refine r_sr ?_; refine r_ev rfl rfl ?_; refine r_nn ?_; refine r_sr ?_; refine r_build rfl rfl (by rfl) ?_; refine r_build rfl rfl (by rfl) ?_; refine r_build rfl rfl (by rfl) ?_; refine r_build rfl rfl (by rfl) ?_; refine r_build rfl rfl (by rfl) ?_; refine r_build rfl rfl (by rfl) ?_; refine r_build rfl rfl (by rfl) ?_; refine r_build rfl rfl (by rfl) ?_; refine r_build rfl rfl (by rfl) ?_; refine r_build rfl rfl (by rfl) ?_; refine r_build rfl rfl (by rfl) ?_
  refine r_buildSlice rfl rfl (by rfl) (by rfl) (by rfl) (by rfl) (by rfl) (fun b => ?_)
  refine r_ev rfl rfl ?_; refine r_nn ?_; refine r_retc ?_
  exact r_ret1 [_] rfl rfl (List.Sublist.refl _) ⟨rfl, b, rfl, rfl⟩
theorem rows_spec (g : Ghost) : Eng.Spec Tryd.prog 39 [] g [] fun v g' own' => g' = g ∧ ∃ b, v = .slice (some ⟨b, 0, none⟩) 11 11 ∧ own' = [.row 66 4 v 11 (formList.flatMap formCells)] := by
  refine spec_of_run Tryd.func39 rfl Tryd.ntmps39 rfl fun E hE => ?_
  refine r_sr ?_; refine r_ev rfl rfl ?_; refine r_nn ?_; refine r_sr ?_; refine r_build rfl rfl (by rfl) ?_; refine r_build rfl rfl (by rfl) ?_; refine r_build rfl rfl (by rfl) ?_; refine r_build rfl rfl (by rfl) ?_; refine r_build rfl rfl (by rfl) ?_; refine r_build rfl rfl (by rfl) ?_; refine r_build rfl rfl (by rfl) ?_; refine r_build rfl rfl (by rfl) ?_; refine r_build rfl rfl (by rfl) ?_; refine r_build rfl rfl (by rfl) ?_; refine r_build rfl rfl (by rfl) ?_
  refine r_buildSlice rfl rfl (by rfl) (by rfl) (by rfl) (by rfl) (by rfl) (fun b => ?_)
  refine r_ev rfl rfl ?_; refine r_nn ?_; refine r_retc ?_
  exact r_ret1 [_] rfl rfl (List.Sublist.refl _) ⟨rfl, b, rfl, rfl⟩
/-- The index behind a word: -1 at the end. -/
def atOf (s : Bytes) : Option Bytes → Int
  | none => -1
  | some t => s.length - t.length
theorem drop_split (s : Bytes) (i k : Nat) (h : i ≤ k) (hk : k ≤ s.length) : s.drop i = (s.take k).drop i ++ s.drop k := by
  conv => lhs; rw [← List.take_append_drop k s]
  rw [List.drop_append_of_le_length (by rw [List.length_take]; omega)]
theorem word_spec (g : Ghost) (s : Bytes) (hs : s.length ≤ 9223372036854775806) (i : Nat) (hi : i ≤ s.length) : Pure Tryd.prog 38 [str s, .int .i64 i] g (.tuple #[str (cutSp (s.drop i)).1, .int .i64 (atOf s (cutSp (s.drop i)).2)]) := by
  refine spec_of_run Tryd.func38 rfl Tryd.ntmps38 rfl fun E hE => ?_
  refine r_sr ?_; refine r_ev rfl rfl ?_; refine r_ev rfl rfl ?_; refine r_nn ?_; refine r_seq ?_; refine r_sr ?_; refine r_ev rfl rfl ?_; refine r_ev rfl rfl ?_; refine r_nn ?_; refine r_block ?_
  refine r_loop (ι := Nat) (fun k => [(0, str s), (1, .int .i64 i), (6, .int .i64 k)]) (fun _ => g) (fun _ => []) (fun k => i ≤ k ∧ k ≤ s.length ∧ ∀ c ∈ (s.take k).drop i, c ≠ 32) (fun k => s.length - k) i ⟨Nat.le_refl _, hi, by simp⟩ ⟨rfl, rfl, rfl, trivial⟩ rfl rfl ?_
  rintro k ⟨h1, h2, h3⟩
  have hsp := drop_split s i k h1 h2
  refine r_seq ?_; refine r_sr ?_; refine r_ev rfl rfl ?_; refine r_ev rfl rfl ?_; refine r_len_str rfl rfl ?_; refine r_ev rfl rfl ?_; refine r_nn ?_
  refine r_cond rfl (fun hlt => ?_) (fun hlt => ?_)
  · have hlt' : k < s.length := by omega
    refine r_skip ?_; refine r_then_normal ?_; refine r_seq ?_; refine r_block ?_; refine r_sr ?_; refine r_ev rfl rfl ?_; refine r_ev rfl rfl ?_; refine r_index_str rfl rfl rfl rfl (by omega) ?_; refine r_ev rfl rfl ?_; refine r_nn ?_
    refine r_cond rfl (fun h32 => ?_) (fun h32 => ?_)
    · have h32' : s[k] = 32 := UInt8.toNat_inj.1 (by simpa using Int.ofNat.inj h32)
      have hc : cutSp (s.drop i) = ((s.take k).drop i, some (s.drop (k + 1))) := by
        rw [hsp, List.drop_eq_getElem_cons hlt', h32']
        exact cut_of _ (some _) h3
      refine r_sr ?_; refine r_ev rfl rfl ?_; refine r_ev rfl rfl ?_; refine r_ev rfl rfl ?_
      refine r_slice_str (p := i) (q := k) rfl rfl ⟨_, _, rfl, rfl⟩ ⟨_, _, rfl, rfl⟩ h1 h2 ?_
      refine r_ev rfl rfl ?_; refine r_add rfl rfl rfl (by omega) ?_; refine r_ev rfl rfl ?_; refine r_ev rfl rfl ?_; refine r_nn ?_; refine r_retc ?_; refine r_in_ret ?_; refine r_then_ret ?_; refine r_then_ret ?_; refine r_in_ret ?_; refine r_then_ret ?_
      exact r_ret2 [] rfl (.tmp rfl) (.tmp rfl) (by simp) ⟨by rw [hc]; simp only [atOf, List.length_drop]; rw [show (s.length : Int) - ((s.length - (k + 1) : Nat) : Int) = (k : Int) + 1 by omega], rfl, rfl⟩
    · refine r_skip ?_; refine r_in_normal ?_; refine r_then_normal ?_; refine r_region ?_; refine r_ev rfl rfl ?_; refine r_add rfl rfl rfl (by omega) ?_; refine r_ev rfl rfl ?_; refine r_nn ?_
      refine r_again (k + 1) ⟨by omega, by omega, ?_⟩ (by omega) ⟨rfl, rfl, rfl, trivial⟩ rfl rfl
      intro c hc
      rw [List.take_succ_eq_append_getElem hlt', List.drop_append_of_le_length (by rw [List.length_take]; omega)] at hc
      rcases List.mem_append.1 hc with hc | hc
      · exact h3 c hc
      · rw [List.mem_singleton] at hc
        subst hc
        exact fun h => h32 (by rw [h]; rfl)
  · have hk : k = s.length := by omega
    subst hk
    have hc : cutSp (s.drop i) = (s.drop i, none) := by
      have := cut_of ((s.take s.length).drop i) none h3
      rw [List.take_length] at this
      simpa [tailO] using this
    refine r_exit ?_; refine r_then_exit ?_; refine r_then_exit ?_; refine r_in_exit ?_; refine r_then_normal ?_; refine r_sr ?_; refine r_ev rfl rfl ?_; refine r_ev rfl rfl ?_
    refine r_slice_str (p := i) (q := s.length) rfl rfl ⟨_, _, rfl, rfl⟩ rfl h1 (Nat.le_refl _) ?_
    refine r_ev rfl rfl ?_; refine r_ev rfl rfl ?_; refine r_nn ?_; refine r_retc ?_
    exact r_ret2 [] rfl (.tmp rfl) (.tmp rfl) (by simp) ⟨by rw [hc, List.take_length]; rfl, rfl, rfl⟩
theorem numOf_none {w : Bytes} (h : w = [] ∨ 6 < w.length ∨ (w.headD 0 = 48 ∧ 1 < w.length) ∨ ¬ (w.all isDig = true)) : numOf w = none := by unfold numOf; rw [if_pos h]
def numV (w : Bytes) : Value := .tuple #[.int .i64 ((numOf w).getD 0 : Nat), .bool (numOf w).isSome]
theorem headD_get {w : Bytes} (h : 0 < w.length) : w.headD 0 = w[0] := by cases w with
  | nil => simp at h
  | cons x r => rfl
theorem rnumber_spec (g : Ghost) (w : Bytes) (hw : w.length ≤ 9223372036854775806) : Pure Tryd.prog 47 [str w] g (numV w) := by
  refine spec_of_run Tryd.func47 rfl Tryd.ntmps47 rfl fun E hE => ?_
  refine r_sr ?_
  refine r_ev rfl rfl ?_; refine r_ev rfl rfl ?_; refine r_nn ?_
  refine r_cut [(0, str w)] (w ≠ [] ∧ w.length ≤ 6 ∧ ¬ (w.headD 0 = 48 ∧ 1 < w.length)) ?_ ?_
  · rintro ⟨he, h6, hz⟩
    refine r_sr ?_; refine r_ev rfl rfl ?_; refine r_nn ?_; refine r_seq ?_; refine r_sr ?_; refine r_ev rfl rfl ?_; refine r_nn ?_; refine r_block ?_
    refine r_loop (ι := Nat) (fun i => [(0, str w), (4, .int .i64 (decV 0 (w.take i) : Nat)), (5, .int .i64 i)]) (fun _ => g) (fun _ => []) (fun i => i ≤ w.length ∧ (w.take i).all isDig = true) (fun i => w.length - i) 0 ⟨by omega, by simp⟩ ⟨rfl, rfl, rfl, trivial⟩ rfl rfl ?_
    rintro i ⟨hi, hd⟩
    have hlt := decV_lt (w.take i) 0 hd
    have hpw : 10 ^ (w.take i).length ≤ 10 ^ 6 := Nat.pow_le_pow_right (by decide) (by rw [List.length_take]; omega)
    refine r_seq ?_; refine r_sr ?_; refine r_ev rfl rfl ?_; refine r_ev rfl rfl ?_; refine r_len_str rfl rfl ?_; refine r_ev rfl rfl ?_; refine r_nn ?_
    refine r_cond rfl (fun hil => ?_) (fun hil => ?_)
    · have hil' : i < w.length := by omega
      have htk := List.take_succ_eq_append_getElem hil'
      refine r_skip ?_; refine r_then_normal ?_; refine r_seq ?_; refine r_block ?_; refine r_seq ?_; refine r_sr ?_; refine r_ev rfl rfl ?_; refine r_ev rfl rfl ?_; refine r_index_str rfl rfl rfl rfl (by omega) ?_; refine r_ev rfl rfl ?_; refine r_ev rfl rfl ?_
      refine r_gdec rfl rfl (fun ha => ?_) (fun ha => ?_)
      · have hn := numOf_none (w := w) (.inr (.inr (.inr (fun h => by
          have := List.all_eq_true.1 h _ (List.getElem_mem hil')
          simp only [isDig, Bool.and_eq_true, decide_eq_true_eq] at this
          omega))))
        refine r_pass rfl rfl rfl ?_; refine r_pass rfl rfl rfl ?_; refine r_pass rfl rfl rfl ?_; refine r_pass rfl rfl rfl ?_; refine r_ev rfl rfl ?_; refine r_nn ?_; refine r_cond_true rfl ?_; refine r_sr ?_; refine r_ev rfl rfl ?_; refine r_ev rfl rfl ?_; refine r_nn ?_; refine r_retc ?_; refine r_then_ret ?_; refine r_in_ret ?_; refine r_then_ret ?_; refine r_then_ret ?_; refine r_in_ret ?_; refine r_then_ret ?_
        exact r_ret2 [] rfl (.tmp rfl) (.tmp rfl) (by simp) ⟨by rw [numV, hn]; rfl, rfl, rfl⟩
      refine r_tev rfl rfl rfl ?_; refine r_tev rfl rfl rfl ?_; refine r_take rfl ?_; refine r_index_str rfl rfl rfl rfl (by omega) ?_; refine r_tev rfl rfl rfl ?_; refine r_ev rfl rfl ?_; refine r_nn ?_
      refine r_cond rfl (fun hb => ?_) (fun hb => ?_)
      · have hn := numOf_none (w := w) (.inr (.inr (.inr (fun h => by
          have := List.all_eq_true.1 h _ (List.getElem_mem hil')
          simp only [isDig, Bool.and_eq_true, decide_eq_true_eq] at this
          omega))))
        refine r_sr ?_; refine r_ev rfl rfl ?_; refine r_ev rfl rfl ?_; refine r_nn ?_; refine r_retc ?_; refine r_then_ret ?_; refine r_in_ret ?_; refine r_then_ret ?_; refine r_then_ret ?_; refine r_in_ret ?_; refine r_then_ret ?_
        exact r_ret2 [] rfl (.tmp rfl) (.tmp rfl) (by simp) ⟨by rw [numV, hn]; rfl, rfl, rfl⟩
      have hsn := decV_snoc (w.take i) 0 w[i]
      rw [← htk] at hsn
      refine r_skip ?_; refine r_then_normal ?_; refine r_region ?_; refine r_ev rfl rfl ?_
      refine r_mul rfl rfl rfl (by omega) ?_
      refine r_ev rfl rfl ?_; refine r_ev rfl rfl ?_; refine r_index_str rfl rfl rfl rfl (by omega) ?_
      refine r_v rfl (val_subK rfl rfl (IntWalk.u8_in _ (by omega))) ?_
      refine r_conv_i64 rfl rfl (by omega) ?_
      refine r_add rfl rfl rfl (by omega) ?_; refine r_ev rfl rfl ?_; refine r_nil ?_; refine r_in_normal ?_; refine r_then_normal ?_; refine r_region ?_; refine r_ev rfl rfl ?_; refine r_add rfl rfl rfl (by omega) ?_; refine r_ev rfl rfl ?_; refine r_nn ?_
      refine r_again (i + 1) ⟨by omega, ?_⟩ (by omega) ⟨rfl, lkInt rfl (by omega), rfl, trivial⟩ rfl rfl
      rw [htk, List.all_append, hd]
      simp only [List.all_cons, List.all_nil, Bool.and_true, isDig, Bool.true_and, Bool.and_eq_true, decide_eq_true_eq]
      omega
    · have hil' : i = w.length := by omega
      subst hil'
      rw [List.take_length] at hd
      have hn : numOf w = some (decV 0 w) := by
        unfold numOf
        rw [if_neg]
        simp only [not_or, Decidable.not_not, Nat.not_lt]
        exact ⟨he, by omega, hz, hd⟩
      rw [List.take_length]
      refine r_exit ?_; refine r_then_exit ?_; refine r_then_exit ?_; refine r_in_exit ?_; refine r_then_normal ?_; refine r_sr ?_; refine r_ev rfl rfl ?_; refine r_ev rfl rfl ?_; refine r_ev rfl rfl ?_; refine r_nn ?_; refine r_retc ?_
      exact r_ret2 [] rfl (.tmp rfl) (.tmp rfl) (by simp) ⟨by rw [numV, hn]; rfl, rfl, rfl⟩
  · intro K hK
    refine r_sr ?_; refine r_ev rfl rfl ?_; refine r_ev rfl rfl ?_; refine r_ev rfl rfl ?_
    refine r_gdec rfl rfl (fun he => ?_) (fun he => ?_)
    · have hn := numOf_none (w := w) (.inl he)
      refine r_pass rfl rfl rfl ?_; refine r_pass rfl rfl rfl ?_; refine r_pass rfl rfl rfl ?_; refine r_ev rfl rfl ?_; refine r_ev rfl rfl ?_; refine r_pass rfl rfl rfl ?_; refine r_pass rfl rfl rfl ?_; refine r_pass rfl rfl rfl ?_; refine r_pass rfl rfl rfl ?_; refine r_passU rfl rfl ?_; refine r_passU rfl rfl ?_; refine r_passU rfl rfl ?_; refine r_pass rfl rfl rfl ?_; refine r_ev rfl rfl ?_; refine r_nn ?_; refine r_cond_true rfl ?_; refine r_sr ?_; refine r_ev rfl rfl ?_; refine r_ev rfl rfl ?_; refine r_nn ?_; refine r_retc ?_; refine r_then_ret ?_
      exact r_ret2 [] rfl (.tmp rfl) (.tmp rfl) (by simp) ⟨by rw [numV, hn]; rfl, rfl, rfl⟩
    have h0 : 0 < w.length := List.length_pos_iff.2 he
    have hh := headD_get h0
    refine r_tev rfl rfl rfl ?_; refine r_take rfl ?_; refine r_len_str rfl rfl ?_; refine r_tev rfl rfl rfl ?_; refine r_ev rfl rfl ?_; refine r_ev rfl rfl ?_
    refine r_gdec rfl rfl (fun h6 => ?_) (fun h6 => ?_)
    · have hn := numOf_none (w := w) (.inr (.inl (by omega)))
      refine r_pass rfl rfl rfl ?_; refine r_pass rfl rfl rfl ?_; refine r_pass rfl rfl rfl ?_; refine r_pass rfl rfl rfl ?_; refine r_passU rfl rfl ?_; refine r_passU rfl rfl ?_; refine r_passU rfl rfl ?_; refine r_pass rfl rfl rfl ?_; refine r_ev rfl rfl ?_; refine r_nn ?_; refine r_cond_true rfl ?_; refine r_sr ?_; refine r_ev rfl rfl ?_; refine r_ev rfl rfl ?_; refine r_nn ?_; refine r_retc ?_; refine r_then_ret ?_
      exact r_ret2 [] rfl (.tmp rfl) (.tmp rfl) (by simp) ⟨by rw [numV, hn]; rfl, rfl, rfl⟩
    refine r_tev rfl rfl rfl ?_; refine r_take rfl ?_; refine r_index_str (j := 0) rfl rfl rfl rfl (by omega) ?_; refine r_tev rfl rfl rfl ?_; refine r_tev rfl rfl rfl ?_
    refine r_gdec rfl rfl (fun h48 => ?_) (fun h48 => ?_)
    · have h48' : w[0] = 48 := UInt8.toNat_inj.1 (by simpa using Int.ofNat.inj h48)
      refine r_tev rfl rfl rfl ?_; refine r_take rfl ?_; refine r_len_str rfl rfl ?_; refine r_tev rfl rfl rfl ?_; refine r_tev rfl rfl rfl ?_; refine r_ev rfl rfl ?_; refine r_nn ?_
      refine r_cond rfl (fun h1 => ?_) (fun h1 => ?_)
      · have hn := numOf_none (w := w) (.inr (.inr (.inl ⟨by rw [hh, h48'], by omega⟩)))
        refine r_sr ?_; refine r_ev rfl rfl ?_; refine r_ev rfl rfl ?_; refine r_nn ?_; refine r_retc ?_; refine r_then_ret ?_
        exact r_ret2 [] rfl (.tmp rfl) (.tmp rfl) (by simp) ⟨by rw [numV, hn]; rfl, rfl, rfl⟩
      · refine r_skip ?_; refine r_then_normal ?_
        exact hK _ ⟨he, by omega, fun h => by omega⟩ ⟨rfl, trivial⟩
    · refine r_pass rfl rfl rfl ?_; refine r_pass rfl rfl rfl ?_; refine r_pass rfl rfl rfl ?_; refine r_tev rfl rfl rfl ?_; refine r_ev rfl rfl ?_; refine r_nn ?_; refine r_cond_false rfl ?_; refine r_skip ?_; refine r_then_normal ?_
      exact hK _ ⟨he, by omega, fun h => h48 (by rw [← hh, h.1]; rfl)⟩ ⟨rfl, trivial⟩
/-- What is known of the two errors of package strconv. -/
def ErrOk (g : Ghost) : Prop := (∃ t p, g 4 0 = some (.iface t p)) ∧ ∃ t p, g 5 0 = some (.iface t p)
theorem ErrOk.mono {g g' : Ghost} (h : Ghost.le g g') (he : ErrOk g) : ErrOk g' := by
  obtain ⟨⟨t, p, h1⟩, t', p', h2⟩ := he
  exact ⟨⟨t, p, h _ _ _ h1⟩, t', p', h _ _ _ h2⟩
theorem Atoi_spec (g : Ghost) (he : ErrOk g) (s : Bytes) (hs : s.length ≤ 1000000) : SpecN Tryd.prog 55 [str s] g fun v g' => (∃ n e, v = .tuple #[.int .i64 n, e] ∧ match Lib.atoiAll s with | .ok k => n = k ∧ e = .nilIface | _ => ∃ t p, e = .iface t p) ∧ g' = g := by
  refine specN_of_below fun w hH => ?_
  obtain ⟨⟨t1, p1, h1⟩, t2, p2, h2⟩ := he
  have c1 := hH.cov _ _ _ h1
  have c2 := hH.cov _ _ _ h2
  cases ha : Lib.atoiAll s with
  | ok k =>
    refine (Tryd.strconv_Atoi_ok ⟨⟨s⟩⟩ (by show s.length ≤ _; omega) k ha w).mono fun e w' h => ?_
    obtain ⟨he, hb⟩ := h
    refine ⟨_, he, ⟨k, .nilIface, rfl, rfl, rfl⟩, ?_⟩
    rcases hb with rfl | ⟨t, rfl⟩
    · exact RowKit.Below.refl _ _
    · exact Lib.bytesWorld_below _ _ _
  | range => exact (Tryd.strconv_Atoi_range ⟨⟨s⟩⟩ (by show s.length ≤ _; omega) ha _ w c2 (.inr ⟨_, _, rfl⟩)).mono fun e w' ⟨N, he, _, _, hb⟩ => ⟨_, he, ⟨_, _, rfl, _, _, rfl⟩, hb⟩
  | _ => exact (Tryd.strconv_Atoi_none ⟨⟨s⟩⟩ (by show s.length ≤ _; omega) (ha.trans rfl) _ w c1 (.inr ⟨_, _, rfl⟩)).mono fun e w' ⟨N, he, _, _, hb⟩ => ⟨_, he, ⟨_, _, rfl, _, _, rfl⟩, hb⟩
def numPost (w : Bytes) (v : Value) : Prop := ∃ n b, v = .tuple #[.int .i64 n, .bool b] ∧ match numOf w with
  | some k => n = k ∧ b = true
  | none => b = false
theorem number_spec (g : Ghost) {o : Obj} (hp : PowTab o) (he : ErrOk g) (w : Bytes) (hw : w.length ≤ 1000000) : SpecO Tryd.prog 46 [str w] g (tabRes o) fun v g' => numPost w v ∧ g' = g := by
  refine spec_of_run Tryd.func46 rfl Tryd.ntmps46 rfl fun E hE => ?_
  refine r_sr ?_; refine r_ev rfl rfl ?_; refine r_ev rfl rfl ?_; refine r_nn ?_; refine r_sr ?_; refine r_ev rfl rfl ?_
  refine r_callN rfl rfl (Atoi_spec g he w hw) ?_
  rintro v g' ⟨⟨n, e, rfl, hm⟩, rfl⟩ _
  have hno : ∀ k : Int, 0 ≤ k → k ≤ 999999 → Lib.itoa k = w → numOf w = some k.toNat := fun k h1 h2 h3 => by
    obtain ⟨j, rfl⟩ : ∃ j : Nat, k = j := ⟨k.toNat, by omega⟩
    rw [← h3, itoa_nat]
    exact numOf_dec (by omega)
  have hyes : ∀ k, numOf w = some k → k ≤ 999999 ∧ Lib.itoa (k : Int) = w ∧ Lib.atoiAll w = .ok (k : Int) := fun k hk => by
    obtain ⟨h1, h2, h3⟩ := numOf_some hk
    exact ⟨h1, by rw [itoa_nat, h2], h3⟩
  cases ha : Lib.atoiAll w with
  | ok k =>
    rw [ha] at hm
    obtain ⟨rfl, rfl⟩ := hm
    have hbd := Lib.atoiAll_bounds ha
    have hend : ∀ b : Bool, (b = true → 0 ≤ n ∧ n ≤ 999999 ∧ Lib.itoa n = w) → (b = false → ¬ (0 ≤ n ∧ n ≤ 999999 ∧ Lib.itoa n = w)) → numPost w (.tuple #[.int .i64 n, .bool b]) := by
      intro b h1 h2
      refine ⟨n, b, rfl, ?_⟩
      cases hn : numOf w with
      | none =>
        cases b with
        | false => rfl
        | true => obtain ⟨a1, a2, a3⟩ := h1 rfl; rw [hno n a1 a2 a3] at hn; cases hn
      | some k =>
        obtain ⟨a1, a2, a3⟩ := hyes k hn
        rw [ha] at a3
        injection a3 with a3
        refine ⟨a3, ?_⟩
        cases b with
        | true => rfl
        | false => exact absurd ⟨by omega, by omega, by rw [a3]; exact a2⟩ (h2 rfl)
    refine r_ev rfl rfl ?_; refine r_ev rfl rfl ?_; refine r_ev rfl rfl ?_; refine r_ev rfl rfl ?_; refine r_ev rfl rfl ?_; refine r_nn ?_; refine r_sr ?_; refine r_ev rfl rfl ?_; refine r_ev rfl rfl ?_; refine r_eql_nil_nil rfl rfl ?_; refine r_ev rfl rfl ?_; refine r_tev rfl rfl rfl ?_; refine r_tev rfl rfl rfl ?_; refine r_ev rfl rfl ?_; refine r_ev rfl rfl ?_
    refine r_gdec rfl rfl (fun h1 => ?_) (fun h1 => ?_)
    · refine r_tev rfl rfl rfl ?_; refine r_tev rfl rfl rfl ?_; refine r_ev rfl rfl ?_; refine r_ev rfl rfl ?_
      refine r_gdec rfl rfl (fun h2 => ?_) (fun h2 => ?_)
      · refine r_tev rfl rfl rfl ?_; refine r_take rfl ?_
        refine r_callO 0 rfl rfl rfl (Number_spec g' hp n hbd) ?_
        refine r_tev rfl rfl rfl ?_; refine r_tev rfl rfl rfl ?_; refine r_ev rfl rfl ?_; refine r_ev rfl rfl ?_; refine r_ev rfl rfl ?_; refine r_nn ?_; refine r_retc ?_
        exact r_ret2 [_] rfl (.tmp rfl) (.tmp rfl) (List.Sublist.refl _) ⟨⟨hend _ (fun h => ⟨h1, h2, by simpa using h⟩) (fun h h' => by simp [h'.2.2] at h), rfl⟩, rfl⟩
      · refine r_pass rfl rfl rfl ?_; refine r_pass rfl rfl rfl ?_; refine r_pass rfl rfl rfl ?_; refine r_pass rfl rfl rfl ?_; refine r_ev rfl rfl ?_; refine r_ev rfl rfl ?_; refine r_ev rfl rfl ?_; refine r_nn ?_; refine r_retc ?_
        exact r_ret2 [_] rfl (.tmp rfl) (.tmp rfl) (List.Sublist.refl _) ⟨⟨hend _ (fun h => by cases h) (fun _ h' => h2 h'.2.1), rfl⟩, rfl⟩
    · refine r_pass rfl rfl rfl ?_; refine r_pass rfl rfl rfl ?_; refine r_ev rfl rfl ?_; refine r_ev rfl rfl ?_; refine r_pass rfl rfl rfl ?_; refine r_pass rfl rfl rfl ?_; refine r_pass rfl rfl rfl ?_; refine r_pass rfl rfl rfl ?_; refine r_ev rfl rfl ?_; refine r_ev rfl rfl ?_; refine r_ev rfl rfl ?_; refine r_nn ?_; refine r_retc ?_
      exact r_ret2 [_] rfl (.tmp rfl) (.tmp rfl) (List.Sublist.refl _) ⟨⟨hend _ (fun h => by cases h) (fun _ h' => h1 h'.1), rfl⟩, rfl⟩
  | _ =>
    rw [ha] at hm
    obtain ⟨t, p, rfl⟩ := hm
    repeat (first | (refine is_w ?_; (first | refine r_ev rfl rfl ?_ | refine r_len_str rfl rfl ?_ | refine r_len_sl rfl rfl ?_ | refine r_fieldAddr rfl rfl ?_ | refine r_loadB1 0 rfl rfl rfl rfl ?_ | refine r_loadB1 1 rfl rfl rfl rfl ?_ | refine r_loadB1 2 rfl rfl rfl rfl ?_ | refine r_loadB1 3 rfl rfl rfl rfl ?_ | refine r_loadB 0 rfl rfl rfl (by rfl) ?_ | refine r_loadB 1 rfl rfl rfl (by rfl) ?_ | refine r_loadB 2 rfl rfl rfl (by rfl) ?_ | refine r_loadB 3 rfl rfl rfl (by rfl) ?_ | refine r_build rfl rfl (by rfl) ?_ | refine r_neq_nil_held rfl rfl ?_ | refine r_neq_nil_nil rfl rfl ?_ | refine r_eql_nil_held rfl rfl ?_ | refine r_eql_nil_nil rfl rfl ?_ | refine r_mkIface rfl rfl ?_ | refine r_min rfl rfl rfl ?_ | refine r_max rfl rfl rfl ?_ | refine r_conv_str rfl rfl ?_ | refine r_makeFunc rfl rfl rfl ?_ | refine r_alloc rfl (fun b => ?_) | refine r_box rfl rfl rfl (fun b => ?_))) | (refine is_wb ?_; (first | refine r_add rfl rfl rfl (by omega) ?_ | refine r_add rfl rfl rfl (by simp; omega) ?_ | refine r_sub_ rfl rfl rfl (by omega) ?_ | refine r_rem rfl rfl rfl (by omega) ?_ | refine r_v rfl (val_eql_bool rfl rfl (by kernel_rfl)) ?_ | refine r_v rfl (val_neq_bool rfl rfl (by kernel_rfl)) ?_)) | (refine is_wix ?_; (first | refine r_index_str (j := 0) rfl rfl rfl rfl (by omega) ?_ | refine r_index_str rfl rfl rfl rfl (by omega) ?_)) | (refine is_wia ?_; (first | refine r_indexAddr (j := 0) rfl rfl rfl rfl (by omega) ?_ | refine r_indexAddr rfl rfl rfl rfl (by omega) ?_)) | (refine is_wc ?_; (first | refine r_len_at rfl rfl (by assumption) ?_)) | (refine is_w0 ?_; (first | refine r_store1 0 rfl rfl rfl (cells_one (by assumption)) (by simp [allOne, *]) rfl ?_ | refine r_store1 1 rfl rfl rfl (cells_one (by assumption)) (by simp [allOne, *]) rfl ?_ | refine r_store1 2 rfl rfl rfl (cells_one (by assumption)) (by simp [allOne, *]) rfl ?_ | refine r_store1 3 rfl rfl rfl (cells_one (by assumption)) (by simp [allOne, *]) rfl ?_ | refine r_store1 4 rfl rfl rfl (cells_one (by assumption)) (by simp [allOne, *]) rfl ?_ | refine r_storeA 0 rfl rfl rfl rfl (by rfl) (by simp [allOne, oneC, *]) rfl ?_ | refine r_storeA 1 rfl rfl rfl rfl (by rfl) (by simp [allOne, oneC, *]) rfl ?_ | refine r_storeA 2 rfl rfl rfl rfl (by rfl) (by simp [allOne, oneC, *]) rfl ?_ | refine r_storeA 3 rfl rfl rfl rfl (by rfl) (by simp [allOne, oneC, *]) rfl ?_ | refine r_storeA 4 rfl rfl rfl rfl (by rfl) (by simp [allOne, oneC, *]) rfl ?_)) | (refine is_w ?_; (first | refine r_loadB1 4 rfl rfl rfl rfl ?_ | refine r_loadB1 5 rfl rfl rfl rfl ?_ | refine r_loadB1 6 rfl rfl rfl rfl ?_ | refine r_loadB 4 rfl rfl rfl (by rfl) ?_ | refine r_loadB 5 rfl rfl rfl (by rfl) ?_ | refine r_loadB 6 rfl rfl rfl (by rfl) ?_)) | (refine is_g ?_; (first | refine r_tev rfl rfl rfl ?_ | refine r_pass rfl rfl rfl ?_ | refine r_take rfl ?_ | refine r_passU rfl rfl ?_ | refine r_pass0 rfl rfl ?_)) | (refine is_n ?_; (first | refine r_nn ?_ | refine r_nil ?_)) | (refine is_c ?_; (first | refine r_sr ?_ | refine r_seq ?_ | refine r_region ?_ | refine r_cond_true rfl ?_ | refine r_cond_false rfl ?_ | refine r_retc ?_ | refine r_block ?_ | refine r_exit ?_ | refine r_skip ?_)) | (refine is_t ?_; (first | refine r_then_normal ?_ | refine r_then_ret ?_ | refine r_then_exit ?_)) | (refine is_b ?_; (first | refine r_in_normal ?_ | refine r_in_ret ?_ | refine r_in_exit ?_ | refine r_in_exit_other rfl ?_)) | (refine is_w0 ?_; (first | refine r_store1 0 rfl rfl rfl rfl rfl rfl ?_ | refine r_store1 1 rfl rfl rfl rfl rfl rfl ?_ | refine r_store1 2 rfl rfl rfl rfl rfl rfl ?_ | refine r_store1 3 rfl rfl rfl rfl rfl rfl ?_ | refine r_storeA 0 rfl rfl rfl rfl (by rfl) rfl rfl ?_ | refine r_storeA 1 rfl rfl rfl rfl (by rfl) rfl rfl ?_ | refine r_storeA 2 rfl rfl rfl rfl (by rfl) rfl rfl ?_ | refine r_storeA 3 rfl rfl rfl rfl (by rfl) rfl rfl ?_ | refine r_nilCheck0 rfl ?_)) | (refine is_q ?_; (first | refine q_ev rfl rfl ?_ | refine q_v rfl (val_fieldAddr rfl) ?_ | refine q_v rfl (val_len_str rfl) ?_ | refine q_v rfl (val_len_sl rfl) ?_ | refine q_v rfl (val_loadB1 0 rfl rfl rfl) ?_ | refine q_v rfl (val_loadB1 1 rfl rfl rfl) ?_ | refine q_v rfl (val_loadB1 2 rfl rfl rfl) ?_ | refine q_v rfl (val_loadB1 3 rfl rfl rfl) ?_ | refine q_v rfl (val_loadB 0 rfl rfl (by rfl)) ?_ | refine q_v rfl (val_loadB 1 rfl rfl (by rfl)) ?_ | refine q_v rfl (val_loadB 2 rfl rfl (by rfl)) ?_ | refine q_v rfl (val_loadB 3 rfl rfl (by rfl)) ?_ | refine q_v rfl (val_build rfl (by rfl)) ?_)) | (refine is_qb ?_; (first | refine q_v rfl (val_add rfl rfl (by omega)) ?_ | refine q_v rfl (val_add rfl rfl (by simp; omega)) ?_ | refine q_v rfl (val_sub_ rfl rfl (by omega)) ?_ | refine q_v rfl (val_eql_bool rfl rfl (by kernel_rfl)) ?_ | refine q_v rfl (val_neq_bool rfl rfl (by kernel_rfl)) ?_)) | (refine is_qix ?_; (first | refine q_v rfl (val_index_str (j := 0) rfl rfl rfl (by omega)) ?_ | refine q_v rfl (val_index_str rfl rfl rfl (by omega)) ?_)) | (refine is_qia ?_; (first | refine q_v rfl (val_indexAddr (j := 0) rfl rfl rfl (by omega)) ?_ | refine q_v rfl (val_indexAddr rfl rfl rfl (by omega)) ?_)) | (refine is_qc ?_; (first | refine q_v rfl (val_len_at rfl (by assumption)) ?_)) | (refine is_qg ?_; (first | refine q_tev rfl rfl rfl ?_ | refine q_pass rfl rfl rfl ?_ | refine q_take rfl ?_ | refine q_passU rfl rfl ?_)) | (refine is_qn ?_; (first | refine q_end ?_)) | refine r_fin_n ?_)
    refine r_ret2 [_] rfl (.tmp rfl) (.tmp rfl) (List.Sublist.refl _) ⟨⟨⟨n, false, rfl, ?_⟩, rfl⟩, rfl⟩
    cases hn : numOf w with
    | none => rfl
    | some k => have := (hyes k hn).2.2; rw [ha] at this; cases this
end Go.Proofs.YtogmbpepdemdkaaDoor

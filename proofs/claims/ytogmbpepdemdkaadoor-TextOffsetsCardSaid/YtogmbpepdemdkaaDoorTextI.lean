/- The walks of chapter 1: Offset, of the program and of the reference; Join. -/
import Derived.Test.YtogmbpepdemdkaaDoorTextH
namespace Go.Proofs.YtogmbpepdemdkaaDoor
open Go Go.Eng Go.Proofs
set_option maxRecDepth 10000
attribute [local irreducible] wpList Code.wp Run bodyPost Go.Eng.Ends Exit.then Exit.inBlock Again Wq Kq
theorem lk_int {o : Option Value} {a b : Int} (h : o = some (.int .i64 a)) (e : a = b) : o = some (.int .i64 b) := by rw [h, e]
def sumL (ls : List Bytes) : Nat := (ls.map fun l => l.length + 1).sum
theorem sumL_parts (c : UInt8) : ∀ s : Bytes, sumL (parts c s) = s.length + 1
  | [] => rfl
  | x :: r => by
    have ih := sumL_parts c r
    by_cases hx : x = c
    · simp [parts, hx, sumL] at ih ⊢; omega
    · cases hp : parts c r with
      | nil => exact absurd hp (parts_ne c r)
      | cons l ls => rw [hp] at ih; simp [parts, hx, hp, sumL] at ih ⊢; omega
theorem len_sumL : ∀ ls : List Bytes, ls.length ≤ sumL ls
  | [] => by simp
  | l :: ls => by
    have := len_sumL ls
    unfold sumL at this ⊢
    simp only [List.map_cons, List.sum_cons, List.length_cons]; omega
theorem sumL_take : ∀ (ls : List Bytes) (k : Nat), sumL (ls.take k) ≤ sumL ls
  | [], k => by simp
  | l :: ls, 0 => by simp [sumL]
  | l :: ls, k + 1 => by have := sumL_take ls k; simp [sumL] at this ⊢; omega
theorem sumL_succ {ls : List Bytes} {k : Nat} (h : k < ls.length) : sumL (ls.take (k + 1)) = sumL (ls.take k) + (ls[k].length + 1) := by
  unfold sumL; rw [List.take_succ_eq_append_getElem h, List.map_append, List.sum_append]; simp
theorem sumL_get {ls : List Bytes} {k : Nat} (h : k < ls.length) : ls[k].length + 1 ≤ sumL ls := by
  have h1 := sumL_succ h
  have h2 := sumL_take ls (k + 1)
  omega
theorem offR_val : ∀ (ps : List Bytes) (line col : Nat) (h : line < ps.length), 1 ≤ col → col ≤ ps[line].length + 1 → offR ps (line + 1) col = some (col - 1 + sumL (ps.take line))
  | p :: ps, 0, col, h, h1, h2 => by
    simp only [List.getElem_cons_zero] at h2
    simp [offR, h1, h2, sumL]
  | p :: ps, line + 1, col, h, h1, h2 => by
    have ih := offR_val ps line col (by simpa using h) h1 (by simpa using h2)
    simp [offR, ih, sumL]; omega
theorem offR_none_line : ∀ (ps : List Bytes) (line col : Nat), ps.length < line → offR ps line col = none
  | [], line, col, _ => rfl
  | p :: ps, line, col, h => by
    simp only [List.length_cons] at h
    simp [offR, show line ≠ 1 by omega, offR_none_line ps (line - 1) col (by omega)]
theorem offR_none_col : ∀ (ps : List Bytes) (line col : Nat) (h : line < ps.length), ps[line].length + 1 < col → offR ps (line + 1) col = none
  | p :: ps, 0, col, h, h2 => by
    simp only [List.getElem_cons_zero] at h2
    simp [offR]; omega
  | p :: ps, line + 1, col, h, h2 => by
    have ih := offR_none_col ps line col (by simpa using h) (by simpa using h2)
    simp [offR, ih]
theorem offR_col0 : ∀ (ps : List Bytes) (line : Nat), offR ps line 0 = none
  | [], line => rfl
  | p :: ps, line => by simp [offR, offR_col0 ps]
def offV : Option Nat → Value
  | some i => .tuple #[.int .i64 i, .bool true]
  | none => .tuple #[.int .i64 0, .bool false]
/-- What Offset returns. -/
def offOf (s : Bytes) (line col : Int) : Value := offV (offR (parts 10 s) line.toNat col.toNat)
theorem Offset_spec (g : Ghost) (s : Bytes) (hs : s.length ≤ 1000000) (line col : Int) (hline : -9223372036854775808 ≤ line ∧ line ≤ 9223372036854775807) (hcol : -9223372036854775808 ≤ col ∧ col ≤ 9223372036854775807) :
    Pure Tryd.prog 22 [str s, .int .i64 line, .int .i64 col] g (offOf s line col) := by
  refine spec_of_run Tryd.func22 rfl Tryd.ntmps22 rfl fun E hE => ?_
  refine r_sr ?_; refine r_ev rfl rfl ?_; refine r_ev rfl rfl ?_; refine r_nn ?_; refine r_sr ?_; refine r_ev rfl rfl ?_
  refine r_call rfl rfl (Lines_spec g s hs) ?_
  rintro v g' own' ⟨rfl, b, rfl, rfl⟩ _
  refine r_publishBlk (fun g1 hg1 hx => ?_)
  have hsum := sumL_parts 10 s
  unfold offOf
  generalize parts 10 s = ps at hx hsum ⊢
  have hcell : ∀ (j : Nat) (h : j < ps.length), g1 b j = some (str ps[j]) := fun j h => hx j _ (by simp [h])
  have hcell' : ∀ (j : Nat) (h : j < ps.length), g1 b (0 + j * 1) = some (str ps[j]) := fun j h => by rw [show 0 + j * 1 = j by omega]; exact hcell j h
  have hpl := len_sumL ps
  refine r_ev rfl rfl ?_; refine r_nn ?_; refine r_seq ?_; refine r_sr ?_; refine r_ev rfl rfl ?_; refine r_ev rfl rfl ?_; refine r_ev rfl rfl ?_
  refine r_gdec rfl rfl (fun h1 => ?_) (fun h1 => ?_)
  · refine r_pass rfl rfl rfl ?_; refine r_pass rfl rfl rfl ?_; refine r_pass rfl rfl rfl ?_; refine r_pass rfl rfl rfl ?_; refine r_ev rfl rfl ?_; refine r_ev rfl rfl ?_; refine r_pass rfl rfl rfl ?_; refine r_pass rfl rfl rfl ?_; refine r_ev rfl rfl ?_; refine r_ev rfl rfl ?_; refine r_pass rfl rfl rfl ?_; refine r_pass rfl rfl rfl ?_; refine r_pass rfl rfl rfl ?_; refine r_pass rfl rfl rfl ?_; refine r_pass rfl rfl rfl ?_; refine r_pass rfl rfl rfl ?_; refine r_pass rfl rfl rfl ?_; refine r_pass rfl rfl rfl ?_; refine r_pass rfl rfl rfl ?_; refine r_ev rfl rfl ?_; refine r_nn ?_; refine r_cond_true rfl ?_; refine r_sr ?_; refine r_ev rfl rfl ?_; refine r_ev rfl rfl ?_; refine r_nn ?_; refine r_retc ?_; refine r_then_ret ?_
    refine r_shrink hE hg1 ?_
    exact r_ret2 [] rfl (.tmp rfl) (.tmp rfl) (by simp) ⟨by rw [show line.toNat = 0 by omega, offR_zero]; rfl, rfl, rfl⟩
  refine r_tev rfl rfl rfl ?_; refine r_tev rfl rfl rfl ?_; refine r_take rfl ?_; refine r_len_sl rfl rfl ?_; refine r_tev rfl rfl rfl ?_; refine r_ev rfl rfl ?_; refine r_ev rfl rfl ?_
  refine r_gdec rfl rfl (fun h2 => ?_) (fun h2 => ?_)
  · refine r_pass rfl rfl rfl ?_; refine r_pass rfl rfl rfl ?_; refine r_ev rfl rfl ?_; refine r_ev rfl rfl ?_; refine r_pass rfl rfl rfl ?_; refine r_pass rfl rfl rfl ?_; refine r_pass rfl rfl rfl ?_; refine r_pass rfl rfl rfl ?_; refine r_pass rfl rfl rfl ?_; refine r_pass rfl rfl rfl ?_; refine r_pass rfl rfl rfl ?_; refine r_pass rfl rfl rfl ?_; refine r_pass rfl rfl rfl ?_; refine r_ev rfl rfl ?_; refine r_nn ?_; refine r_cond_true rfl ?_; refine r_sr ?_; refine r_ev rfl rfl ?_; refine r_ev rfl rfl ?_; refine r_nn ?_; refine r_retc ?_; refine r_then_ret ?_
    refine r_shrink hE hg1 ?_
    exact r_ret2 [] rfl (.tmp rfl) (.tmp rfl) (by simp) ⟨by rw [offR_none_line _ _ _ (by omega)]; rfl, rfl, rfl⟩
  refine r_tev rfl rfl rfl ?_; refine r_tev rfl rfl rfl ?_; refine r_ev rfl rfl ?_; refine r_ev rfl rfl ?_
  refine r_gdec rfl rfl (fun h3 => ?_) (fun h3 => ?_)
  · refine r_pass rfl rfl rfl ?_; refine r_pass rfl rfl rfl ?_; refine r_pass rfl rfl rfl ?_; refine r_pass rfl rfl rfl ?_; refine r_pass rfl rfl rfl ?_; refine r_pass rfl rfl rfl ?_; refine r_pass rfl rfl rfl ?_; refine r_pass rfl rfl rfl ?_; refine r_pass rfl rfl rfl ?_; refine r_ev rfl rfl ?_; refine r_nn ?_; refine r_cond_true rfl ?_; refine r_sr ?_; refine r_ev rfl rfl ?_; refine r_ev rfl rfl ?_; refine r_nn ?_; refine r_retc ?_; refine r_then_ret ?_
    refine r_shrink hE hg1 ?_
    exact r_ret2 [] rfl (.tmp rfl) (.tmp rfl) (by simp) ⟨by rw [show col.toNat = 0 by omega, offR_col0]; rfl, rfl, rfl⟩
  obtain ⟨k, hk⟩ : ∃ k : Nat, line = k + 1 := ⟨line.toNat - 1, by omega⟩
  obtain ⟨c, hc⟩ : ∃ c : Nat, col = c := ⟨col.toNat, by omega⟩
  subst hk; subst hc
  have hkl : k < ps.length := by omega
  have hkk : ((k : Int) + 1).toNat = k + 1 := by omega
  have hgl := sumL_get hkl
  rw [hkk, Int.toNat_natCast]
  refine r_tev rfl rfl rfl ?_; refine r_tev rfl rfl rfl ?_; refine r_tev rfl rfl rfl ?_; refine r_take rfl ?_; refine r_sub_ rfl rfl rfl (by omega) ?_; refine r_take rfl ?_
  rw [show (k : Int) + 1 - 1 = k by omega]
  refine r_indexAddr (j := k) rfl rfl rfl rfl hkl ?_
  refine r_take rfl ?_
  refine r_load1 rfl rfl (rd_g1 (hcell' k hkl)) ?_
  refine r_take rfl ?_; refine r_len_str rfl rfl ?_; refine r_take rfl ?_; refine r_add rfl rfl rfl (by omega) ?_; refine r_tev rfl rfl rfl ?_; refine r_ev rfl rfl ?_; refine r_nn ?_
  refine r_cond rfl (fun h4 => ?_) (fun h4 => ?_)
  · refine r_sr ?_; refine r_ev rfl rfl ?_; refine r_ev rfl rfl ?_; refine r_nn ?_; refine r_retc ?_; refine r_then_ret ?_
    refine r_shrink hE hg1 ?_
    exact r_ret2 [] rfl (.tmp rfl) (.tmp rfl) (by simp) ⟨by rw [offR_none_col _ _ _ hkl (by omega)]; rfl, rfl, rfl⟩
  have hv := offR_val ps k c hkl (by omega) (by omega)
  refine r_skip ?_; refine r_then_normal ?_; refine r_sr ?_; refine r_ev rfl rfl ?_; refine r_sub_ rfl rfl rfl (by omega) ?_; refine r_ev rfl rfl ?_; refine r_nn ?_; refine r_seq ?_; refine r_sr ?_; refine r_ev rfl rfl ?_; refine r_ev rfl rfl ?_; refine r_sub_ rfl rfl rfl (by omega) ?_
  rw [show (k : Int) + 1 - 1 = k by omega]
  refine r_v rfl (val_slice_hi (q := k) rfl rfl rfl (by omega)) ?_
  refine r_len_sl rfl rfl ?_; refine r_ev rfl rfl ?_; refine r_nn ?_; refine r_block ?_
  refine r_loop (ι := Nat) (fun j => [(9, .int .i64 ((c - 1 + sumL (ps.take j) : Nat) : Int)), (42, .slice (some ⟨b, 0, none⟩) k ps.length), (43, .int .i64 k), (44, .int .i64 j)]) (fun _ => g1) (fun _ => []) (fun j => j ≤ k) (fun j => k - j) 0 (by omega) ⟨lk_int rfl (by simp [sumL]; omega), rfl, rfl, rfl, trivial⟩ rfl rfl ?_
  intro j hj
  have hts := sumL_take ps j
  refine r_sr ?_; refine r_ev rfl rfl ?_; refine r_nn ?_; refine r_seq ?_
  refine r_cond rfl (fun hlt => ?_) (fun hlt => ?_)
  · have hlt' : j < ps.length := by omega
    have hsu := sumL_succ hlt'
    have hgl2 := sumL_get hlt'
    refine r_skip ?_; refine r_then_normal ?_; refine r_seq ?_; refine r_block ?_; refine r_sr ?_; refine r_indexAddr rfl rfl rfl rfl (by omega) ?_
    refine r_load1 rfl rfl (rd_g1 (hcell' j hlt')) ?_
    refine r_ev rfl rfl ?_; refine r_nn ?_; refine r_region ?_; refine r_ev rfl rfl ?_; refine r_ev rfl rfl ?_; refine r_len_str rfl rfl ?_; refine r_add rfl rfl rfl (by omega) ?_; refine r_add rfl rfl rfl (by omega) ?_; refine r_ev rfl rfl ?_; refine r_nil ?_; refine r_in_normal ?_; refine r_then_normal ?_; refine r_region ?_; refine r_add rfl rfl rfl (by omega) ?_; refine r_ev rfl rfl ?_; refine r_nn ?_
    exact r_again (j + 1) (by omega) (by omega) ⟨lk_int rfl (by omega), rfl, rfl, rfl, trivial⟩ rfl rfl
  · have hjk : j = k := by omega
    subst hjk
    refine r_exit ?_; refine r_then_exit ?_; refine r_then_exit ?_; refine r_in_exit ?_; refine r_then_normal ?_; refine r_sr ?_; refine r_ev rfl rfl ?_; refine r_ev rfl rfl ?_; refine r_ev rfl rfl ?_; refine r_nn ?_; refine r_retc ?_
    refine r_shrink hE hg1 ?_
    exact r_ret2 [] rfl (.tmp rfl) (.tmp rfl) (by simp) ⟨by rw [hv]; rfl, rfl, rfl⟩
theorem rOffset_spec (g : Ghost) (s : Bytes) (hs : s.length ≤ 1000000) (line col : Int) (hline : -9223372036854775808 ≤ line ∧ line ≤ 9223372036854775807) (hcol : -9223372036854775808 ≤ col ∧ col ≤ 9223372036854775807) :
    Pure Tryd.prog 23 [str s, .int .i64 line, .int .i64 col] g (offOf s line col) := by
  refine spec_of_run Tryd.func23 rfl Tryd.ntmps23 rfl fun E hE => ?_
  refine r_sr ?_; refine r_ev rfl rfl ?_; refine r_ev rfl rfl ?_; refine r_nn ?_; refine r_seq ?_; refine r_sr ?_; refine r_ev rfl rfl ?_; refine r_nn ?_; refine r_block ?_
  refine r_loop (ι := Nat) (fun k => [(0, str s), (1, .int .i64 line), (2, .int .i64 col), (8, .int .i64 k)]) (fun _ => g) (fun _ => []) (fun k => k ≤ s.length + 1 ∧ ∀ j, j < k → ¬ (((pl s j).1 : Int) = line ∧ ((pl s j).2 : Int) = col)) (fun k => s.length + 1 - k) 0 ⟨by omega, fun j h => by omega⟩ ⟨rfl, rfl, rfl, rfl, trivial⟩ rfl rfl ?_
  rintro k ⟨hk, hno⟩
  refine r_seq ?_; refine r_sr ?_; refine r_ev rfl rfl ?_; refine r_ev rfl rfl ?_; refine r_len_str rfl rfl ?_; refine r_ev rfl rfl ?_; refine r_nn ?_
  refine r_cond rfl (fun hle => ?_) (fun hle => ?_)
  · have hcl : clamp (k : Int) s.length = k := by unfold clamp; omega
    refine r_skip ?_; refine r_then_normal ?_; refine r_seq ?_; refine r_block ?_; refine r_sr ?_; refine r_ev rfl rfl ?_; refine r_ev rfl rfl ?_
    refine r_callP rfl rfl (rPlace_spec g s hs k) ?_
    rw [hcl, pl_eq]
    refine r_ev rfl rfl ?_; refine r_ev rfl rfl ?_; refine r_ev rfl rfl ?_; refine r_ev rfl rfl ?_; refine r_ev rfl rfl ?_; refine r_nn ?_; refine r_sr ?_; refine r_ev rfl rfl ?_; refine r_ev rfl rfl ?_; refine r_ev rfl rfl ?_; refine r_ev rfl rfl ?_
    refine r_gdec rfl rfl (fun hl1 => ?_) (fun hl1 => ?_)
    · refine r_tev rfl rfl rfl ?_; refine r_tev rfl rfl rfl ?_; refine r_tev rfl rfl rfl ?_; refine r_ev rfl rfl ?_; refine r_nn ?_
      refine r_cond rfl (fun hl2 => ?_) (fun hl2 => ?_)
      · have : offOf s line col = offV (some k) := by
          unfold offOf
          rw [(offR_iff s _ _ k).2 ⟨by omega, Prod.ext (by simp only; omega) (by simp only; omega)⟩]
        refine r_sr ?_; refine r_ev rfl rfl ?_; refine r_ev rfl rfl ?_; refine r_ev rfl rfl ?_; refine r_nn ?_; refine r_retc ?_; refine r_in_ret ?_; refine r_then_ret ?_; refine r_then_ret ?_; refine r_in_ret ?_; refine r_then_ret ?_
        exact r_ret2 [] rfl (.tmp rfl) (.tmp rfl) (by simp) ⟨by rw [this]; rfl, rfl, rfl⟩
      · refine r_skip ?_; refine r_in_normal ?_; refine r_then_normal ?_; refine r_region ?_; refine r_ev rfl rfl ?_; refine r_add rfl rfl rfl (by omega) ?_; refine r_ev rfl rfl ?_; refine r_nn ?_
        exact r_again (k + 1) ⟨by omega, fun j hj => by
          by_cases h : j = k
          · subst h; exact fun h => hl2 h.2
          · exact hno j (by omega)⟩ (by omega) ⟨rfl, rfl, rfl, rfl, trivial⟩ rfl rfl
    · refine r_pass rfl rfl rfl ?_; refine r_pass rfl rfl rfl ?_; refine r_pass rfl rfl rfl ?_; refine r_ev rfl rfl ?_; refine r_nn ?_; refine r_cond_false rfl ?_; refine r_skip ?_; refine r_in_normal ?_; refine r_then_normal ?_; refine r_region ?_; refine r_ev rfl rfl ?_; refine r_add rfl rfl rfl (by omega) ?_; refine r_ev rfl rfl ?_; refine r_nn ?_
      exact r_again (k + 1) ⟨by omega, fun j hj => by
          by_cases h : j = k
          · subst h; exact fun h => hl1 h.1
          · exact hno j (by omega)⟩ (by omega) ⟨rfl, rfl, rfl, rfl, trivial⟩ rfl rfl
  · have : offOf s line col = offV none := by
      unfold offOf
      cases ho : offR (parts 10 s) line.toNat col.toNat with
      | none => rfl
      | some i =>
        obtain ⟨h1, h2⟩ := (offR_iff s _ _ i).1 ho
        have hp := pl_pos s i
        rw [h2] at hp
        exact absurd (by rw [h2]; simp only at hp ⊢; omega) (hno i (by omega))
    refine r_exit ?_; refine r_then_exit ?_; refine r_then_exit ?_; refine r_in_exit ?_; refine r_then_normal ?_; refine r_sr ?_; refine r_ev rfl rfl ?_; refine r_ev rfl rfl ?_; refine r_nn ?_; refine r_retc ?_
    exact r_ret2 [] rfl (.tmp rfl) (.tmp rfl) (by simp) ⟨by rw [this]; rfl, rfl, rfl⟩
theorem rJoin_spec (g : Ghost) (b : Nat) (ls : List Bytes) (hx : ∀ j x, (ls.map str)[j]? = some x → g b j = some x) (hn : ls.length ≤ 1000000) (hl : (joinL ls).length ≤ 1000000) : Pure Tryd.prog 17 [.slice (some ⟨b, 0, none⟩) ls.length ls.length] g (str (joinL ls)) := by
  have hcell' : ∀ (j : Nat) (h : j < ls.length), g b (0 + j * 1) = some (str ls[j]) := fun j h => by rw [show 0 + j * 1 = j by omega]; exact hx j _ (by simp [h])
  refine spec_of_run Tryd.func17 rfl Tryd.ntmps17 rfl fun E hE => ?_
  refine r_sr ?_; refine r_ev rfl rfl ?_; refine r_nn ?_; refine r_sr ?_; refine r_ev rfl rfl ?_; refine r_nn ?_; refine r_seq ?_; refine r_sr ?_; refine r_ev rfl rfl ?_; refine r_nn ?_; refine r_block ?_
  refine r_loop (ι := Nat) (fun k => [(0, .slice (some ⟨b, 0, none⟩) ls.length ls.length), (3, str (joinL (ls.take k))), (4, .int .i64 k)]) (fun _ => g) (fun _ => []) (fun k => k ≤ ls.length) (fun k => ls.length - k) 0 (by omega) ⟨rfl, rfl, rfl, trivial⟩ rfl rfl ?_
  intro k hk
  have hjl := joinL_len ls k
  refine r_seq ?_; refine r_sr ?_; refine r_ev rfl rfl ?_; refine r_ev rfl rfl ?_; refine r_len_sl rfl rfl ?_; refine r_ev rfl rfl ?_; refine r_nn ?_
  refine r_cond rfl (fun hlt => ?_) (fun hlt => ?_)
  · have hlt' : k < ls.length := by omega
    have hjl2 := joinL_len ls (k + 1)
    have hsn := joinL_snoc (ls.take k) ls[k]
    rw [← List.take_succ_eq_append_getElem hlt'] at hsn
    refine r_skip ?_; refine r_then_normal ?_; refine r_seq ?_; refine r_block ?_; refine r_seq ?_; refine r_sr ?_; refine r_ev rfl rfl ?_; refine r_ev rfl rfl ?_; refine r_nn ?_
    refine r_cond rfl (fun hpos => ?_) (fun hpos => ?_)
    · rw [if_neg (fun h => by have := congrArg List.length h; rw [List.length_take, List.length_nil] at this; omega)] at hsn
      have hll := congrArg List.length hsn
      rw [List.length_append, List.length_cons] at hll
      refine r_region ?_; refine r_ev rfl rfl ?_
      refine r_add_str rfl rfl rfl (by rw [List.length_singleton]; omega) ?_
      refine r_ev rfl rfl ?_; refine r_nn ?_; refine r_region ?_; refine r_ev rfl rfl ?_; refine r_ev rfl rfl ?_; refine r_ev rfl rfl ?_; refine r_indexAddr rfl rfl rfl rfl (by omega) ?_
      refine r_load1 rfl rfl (rd_g1 (hcell' k hlt')) ?_
      refine r_add_str rfl rfl rfl (by rw [List.length_append, List.length_singleton]; omega) ?_
      refine r_ev rfl rfl ?_; refine r_nil ?_; refine r_in_normal ?_; refine r_then_normal ?_; refine r_region ?_; refine r_ev rfl rfl ?_; refine r_add rfl rfl rfl (by omega) ?_; refine r_ev rfl rfl ?_; refine r_nn ?_
      exact r_again (k + 1) (by omega) (by omega) ⟨rfl, by rw [hsn, show joinL (ls.take k) ++ 10 :: ls[k] = joinL (ls.take k) ++ [10] ++ ls[k] by simp]; rfl, rfl, trivial⟩ rfl rfl
    · have hk0 : k = 0 := by omega
      subst hk0
      rw [if_pos (by simp)] at hsn
      have hll := congrArg List.length hsn
      refine r_skip ?_; refine r_then_normal ?_; refine r_region ?_; refine r_ev rfl rfl ?_; refine r_ev rfl rfl ?_; refine r_ev rfl rfl ?_; refine r_indexAddr (j := 0) rfl rfl rfl rfl (by omega) ?_
      refine r_load1 rfl rfl (rd_g1 (hcell' 0 hlt')) ?_
      refine r_add_str rfl rfl rfl (by simp [joinL]; omega) ?_
      refine r_ev rfl rfl ?_; refine r_nil ?_; refine r_in_normal ?_; refine r_then_normal ?_; refine r_region ?_; refine r_ev rfl rfl ?_; refine r_add rfl rfl rfl (by omega) ?_; refine r_ev rfl rfl ?_; refine r_nn ?_
      exact r_again 1 (by omega) (by omega) ⟨rfl, by rw [hsn]; rfl, rfl, trivial⟩ rfl rfl
  · have hkl : k = ls.length := by omega
    subst hkl
    refine r_exit ?_; refine r_then_exit ?_; refine r_then_exit ?_; refine r_in_exit ?_; refine r_then_normal ?_; refine r_sr ?_; refine r_ev rfl rfl ?_; refine r_ev rfl rfl ?_; refine r_nn ?_; refine r_retc ?_
    exact r_ret1 [] rfl rfl (by simp) ⟨by rw [List.take_length], rfl, rfl⟩
end Go.Proofs.YtogmbpepdemdkaaDoor

/- The walks of Join, of the program and of the reference, and of the program's Valid on tokens that are whole. -/
import Derived.Test.YtjiommnmkokldaaDoorLawC
import Derived.Test.YtjiommnmkokldaaDoorPlainC
import Derived.Test.YtjiommnmkokldaaDoorOpsD
namespace Go.Proofs.YtjiommnmkokldaaDoor
open Go Go.Eng Go.Th Go.Proofs
set_option maxRecDepth 10000
attribute [local irreducible] wpList Code.wp Run bodyPost Go.Eng.Ends Exit.then Exit.inBlock Again Wq Kq
theorem joined_snoc : ∀ (ws : List Bytes) (w : Bytes), joined (ws ++ [w]) = if ws = [] then w else joined ws ++ 32 :: w
  | [], w => rfl
  | [x], w => by simp [joined]
  | x :: y :: r, w => by
    have ih := joined_snoc (y :: r) w
    simp only [List.cons_append] at ih ⊢
    simp only [joined, ih]
    simp
theorem joined_len : ∀ (ws : List Bytes) (n : Nat), (∀ w ∈ ws, w.length ≤ n) → (joined ws).length ≤ (n + 1) * ws.length
  | [], n, _ => by simp [joined]
  | [w], n, h => by have := h w (by simp); simp [joined]; omega
  | w :: v :: r, n, h => by
    have h1 := h w (by simp)
    have ih := joined_len (v :: r) n (fun x hx => h x (List.mem_cons_of_mem _ hx))
    simp only [joined, List.length_append, List.length_cons, Nat.mul_add, Nat.add_mul] at ih ⊢
    omega
def texts (l : List Tok) : List Bytes := l.map (·.text)
theorem rJoin_spec (g : Ghost) (v : Value) (l : List Tok) (hs : SlAt g 3 v l.length (l.flatMap tokCells)) (hl : l.length ≤ 100) (hv : ∀ t ∈ l, validTok t = true ∧ t.text.length ≤ 14) : Pure Tryd.prog 37 [v] g (str (joined (texts l))) := by
  refine spec_of_run Tryd.func37 rfl Tryd.ntmps37 rfl fun E hE => ?_
  refine r_sr ?_; refine r_ev rfl rfl ?_; refine r_nn ?_; refine r_sr ?_; refine r_ev rfl rfl ?_; refine r_nn ?_; refine r_seq ?_; refine r_sr ?_; refine r_ev rfl rfl ?_; refine r_nn ?_; refine r_block ?_
  refine r_loop (ι := Nat) (fun k => [(0, v), (3, str (joined (texts (l.take k)))), (4, .int .i64 k)]) (fun _ => g) (fun _ => []) (fun k => k ≤ l.length) (fun k => l.length - k) 0 (by omega) ⟨rfl, rfl, rfl, trivial⟩ rfl rfl ?_
  intro k hk
  refine r_seq ?_; refine r_sr ?_; refine r_ev rfl rfl ?_; refine r_ev rfl rfl ?_
  refine r_len_at rfl rfl hs ?_
  refine r_ev rfl rfl ?_; refine r_nn ?_
  refine r_cond rfl (fun hlt => ?_) (fun hlt => ?_)
  · have hlt' : k < l.length := by omega
    have hvk := hv _ (List.getElem_mem hlt')
    have hjl := joined_len (texts (l.take k)) 14 (fun w hw => by
      obtain ⟨t, ht, rfl⟩ := List.mem_map.1 hw
      exact (hv t (List.mem_of_mem_take ht)).2)
    rw [show (texts (l.take k)).length = min k l.length by simp [texts], Nat.min_eq_left hk] at hjl
    have hsn : joined (texts (l.take (k + 1))) = if texts (l.take k) = [] then l[k].text else joined (texts (l.take k)) ++ 32 :: l[k].text := by
      rw [List.take_succ_eq_append_getElem hlt', texts, List.map_append, List.map_singleton, joined_snoc]; rfl
    obtain ⟨b, off, cap, rfl, hx⟩ := hs.held hlt'
    refine r_skip ?_; refine r_then_normal ?_; refine r_seq ?_; refine r_block ?_; refine r_seq ?_; refine r_sr ?_; refine r_ev rfl rfl ?_; refine r_ev rfl rfl ?_
    refine r_indexAddr (j := k) rfl rfl rfl rfl hlt' ?_
    refine r_load rfl rfl (vs := tokCells l[k]) (rd_elem tokCells_len hx hlt') rfl ?_
    skip
    refine r_callP rfl rfl (Valid_spec g l[k] (by omega)) ?_
    rw [hvk.1]
    refine r_ev rfl rfl ?_; refine r_nn ?_; refine r_cond_false rfl ?_; refine r_skip ?_; refine r_then_normal ?_; refine r_seq ?_; refine r_sr ?_; refine r_ev rfl rfl ?_; refine r_ev rfl rfl ?_; refine r_nn ?_
    refine r_cond rfl (fun hpos => ?_) (fun hpos => ?_)
    · rw [if_neg (fun h => by have := congrArg List.length h; rw [texts, List.length_map, List.length_take, List.length_nil] at this; omega)] at hsn
      refine r_region ?_; refine r_ev rfl rfl ?_
      refine r_add_str rfl rfl rfl (by rw [List.length_singleton]; omega) ?_
      refine r_ev rfl rfl ?_; refine r_nn ?_; refine r_region ?_; refine r_ev rfl rfl ?_; refine r_ev rfl rfl ?_; refine r_ev rfl rfl ?_
      refine r_indexAddr (j := k) rfl rfl rfl rfl hlt' ?_
      refine r_fieldAddr rfl rfl ?_
      refine r_load1 rfl rfl (SlAt.cell tokCells_len hx hlt' 1 rfl) ?_
      refine r_add_str rfl rfl rfl (by rw [List.length_append, List.length_singleton]; omega) ?_
      refine r_ev rfl rfl ?_; refine r_nil ?_; refine r_in_normal ?_; refine r_then_normal ?_; refine r_region ?_; refine r_ev rfl rfl ?_
      refine r_add rfl rfl rfl (by omega) ?_
      refine r_ev rfl rfl ?_; refine r_nn ?_
      exact r_again (k + 1) (by omega) (by omega) ⟨rfl, by rw [hsn, show joined (texts (l.take k)) ++ 32 :: l[k].text = joined (texts (l.take k)) ++ [32] ++ l[k].text by simp]; rfl, rfl, trivial⟩ rfl rfl
    · have hk0 : k = 0 := by omega
      subst hk0
      rw [if_pos (by simp [texts])] at hsn
      refine r_skip ?_; refine r_then_normal ?_; refine r_region ?_; refine r_ev rfl rfl ?_; refine r_ev rfl rfl ?_; refine r_ev rfl rfl ?_
      refine r_indexAddr (j := 0) rfl rfl rfl rfl hlt' ?_
      refine r_fieldAddr rfl rfl ?_
      refine r_load1 rfl rfl (SlAt.cell tokCells_len hx hlt' 1 rfl) ?_
      refine r_add_str rfl rfl rfl (by simp [joined, texts]; omega) ?_
      refine r_ev rfl rfl ?_; refine r_nil ?_; refine r_in_normal ?_; refine r_then_normal ?_; refine r_region ?_; refine r_ev rfl rfl ?_
      refine r_add rfl rfl rfl (by omega) ?_
      refine r_ev rfl rfl ?_; refine r_nn ?_
      exact r_again 1 (by omega) (by omega) ⟨rfl, by rw [hsn]; rfl, rfl, trivial⟩ rfl rfl
  · have hkl : k = l.length := by omega
    subst hkl
    refine r_exit ?_; refine r_then_exit ?_; refine r_then_exit ?_; refine r_in_exit ?_; refine r_then_normal ?_; refine r_sr ?_; refine r_ev rfl rfl ?_; refine r_ev rfl rfl ?_; refine r_nn ?_; refine r_retc ?_
    exact r_ret1 [] rfl rfl (by simp) ⟨by rw [List.take_length], rfl, rfl⟩
theorem sIndex_spec (g : Ghost) (s : Bytes) (c : UInt8) : Pure Tryd.prog 127 [str s, str [c]] g (.int .i64 (idxByte c s)) := by
  refine spec_of_run Tryd.func127 rfl Tryd.ntmps127 rfl fun E hE => ?_
  refine r_sr ?_; refine r_ev rfl rfl ?_; refine r_nn ?_; refine r_sr ?_; refine r_ev rfl rfl ?_; refine r_len_str rfl rfl ?_; refine r_ev rfl rfl ?_; refine r_nn ?_; refine r_seq ?_; refine r_block ?_; refine r_sr ?_; refine r_ev rfl rfl ?_; refine r_ev rfl rfl ?_; refine r_ev rfl rfl ?_; refine r_tev rfl rfl rfl ?_; refine r_tev rfl rfl rfl ?_; refine r_tev rfl rfl rfl ?_; refine r_ev rfl rfl ?_; refine r_ev rfl rfl ?_; refine r_nn ?_
  refine r_cond rfl (fun heq => ?_) (fun heq => ?_)
  · subst heq
    refine r_sr ?_; refine r_ev rfl rfl ?_; refine r_nn ?_; refine r_retc ?_; refine r_in_ret ?_; refine r_then_ret ?_
    exact r_ret1 [] rfl rfl (by simp) ⟨vi (by simp [idxByte]), rfl, rfl⟩
  refine r_sr ?_; refine r_ev rfl rfl ?_; refine r_ev rfl rfl ?_; refine r_ev rfl rfl ?_; refine r_nn ?_; refine r_cond_true rfl ?_; refine r_sr ?_; refine r_ev rfl rfl ?_; refine r_ev rfl rfl ?_
  refine r_index_str (l := [c]) (j := 0) rfl rfl rfl rfl (by simp) ?_
  skip
  refine r_callP rfl rfl (sIndexByte_spec g s c) ?_
  refine r_ev rfl rfl ?_; refine r_nn ?_; refine r_retc ?_; refine r_in_ret ?_; refine r_then_ret ?_
  exact r_ret1 [] rfl rfl (by simp) ⟨rfl, rfl, rfl⟩
theorem Index_spec (g : Ghost) (s : Bytes) (c : UInt8) : Pure Tryd.prog 112 [str s, str [c]] g (.int .i64 (idxByte c s)) := by
  refine spec_of_run Tryd.func112 rfl Tryd.ntmps112 rfl fun E hE => ?_
  refine r_sr ?_; refine r_ev rfl rfl ?_; refine r_nn ?_; refine r_sr ?_; refine r_ev rfl rfl ?_; refine r_ev rfl rfl ?_
  refine r_callP rfl rfl (sIndex_spec g s c) ?_
  refine r_ev rfl rfl ?_; refine r_nn ?_; refine r_retc ?_
  exact r_ret1 [] rfl rfl (by simp) ⟨rfl, rfl, rfl⟩
theorem Contains_spec (g : Ghost) (s : Bytes) (c : UInt8) : Pure Tryd.prog 90 [str s, str [c]] g (.bool (decide (0 ≤ idxByte c s))) := by
  refine spec_of_run Tryd.func90 rfl Tryd.ntmps90 rfl fun E hE => ?_
  refine r_sr ?_; refine r_ev rfl rfl ?_; refine r_nn ?_; refine r_sr ?_; refine r_ev rfl rfl ?_; refine r_ev rfl rfl ?_
  refine r_callP rfl rfl (Index_spec g s c) ?_
  refine r_ev rfl rfl ?_; refine r_ev rfl rfl ?_; refine r_nn ?_; refine r_retc ?_
  exact r_ret1 [] rfl rfl (by simp) ⟨rfl, rfl, rfl⟩
theorem kind_five {w : Bytes} : isMark w = true ↔ kindOf w = 5 := by
  constructor
  · intro h
    have : kindOf [45, 62] = 5 ∧ ∀ c ∈ markBytes, kindOf [c] = 5 := by decide
    rcases mark_cases h with rfl | ⟨c, hc, rfl⟩
    · exact this.1
    · exact this.2 c hc
  · intro h
    by_cases hm : isMark w = true
    · exact hm
    · simp only [kindOf, hm] at h
      revert h
      cases isKeyword w <;> cases isLower w <;> cases isUpper w <;> cases isInteger w <;> simp
theorem idx_mem {c : UInt8} {s : Bytes} (h : c ∈ s) : 0 ≤ idxByte c s := by
  rcases idxByte_cases c s with ⟨_, h2⟩ | ⟨h1, _⟩
  · exact absurd rfl (h2 c h)
  · exact h1
/-- A token as texts have them. -/
def Good (t : Tok) : Prop := kindOf t.text = t.kind ∧ t.kind ≠ 0 ∧ 0 ≤ t.pos ∧ t.pos < 4000 ∧ t.text.length ≤ 14
theorem tValid_spec (g : Ghost) (t : Tok) (ht : Good t) : Pure Tryd.prog 66 [tokV t] g (.bool true) := by
  obtain ⟨h1, h2, h3, h4, h5⟩ := ht
  have hk : kindOf t.text ≠ 0 := by rw [h1]; exact h2
  have hne : t.text ≠ [] := fun h => by rw [h] at hk; exact hk (by decide)
  have hpos : 0 < t.text.length := List.length_pos_iff.2 hne
  refine spec_of_run Tryd.func66 rfl Tryd.ntmps66 rfl fun E hE => ?_
  refine r_sr ?_; refine r_box rfl rfl rfl (fun b => ?_); refine r_ev rfl rfl ?_; refine r_nn ?_; refine r_seq ?_; refine r_sr ?_; refine r_fieldAddr rfl rfl ?_; refine r_loadB1 0 rfl rfl rfl rfl ?_; refine r_ev rfl rfl ?_; refine r_ev rfl rfl ?_
  refine r_gdec rfl rfl (fun h => absurd h hne) (fun _ => ?_)
  refine r_take rfl ?_; refine r_fieldAddr rfl rfl ?_; refine r_take rfl ?_; refine r_loadB1 0 rfl rfl rfl rfl ?_; refine r_tev rfl rfl rfl ?_; refine r_ev rfl rfl ?_; refine r_ev rfl rfl ?_
  refine r_gdec rfl rfl (fun h => by omega) (fun _ => ?_)
  refine r_take rfl ?_; refine r_fieldAddr rfl rfl ?_; refine r_take rfl ?_; refine r_loadB1 0 rfl rfl rfl rfl ?_; refine r_tev rfl rfl rfl ?_; refine r_ev rfl rfl ?_; refine r_nn ?_
  refine r_cond rfl (fun h => by omega) (fun _ => ?_)
  refine r_skip ?_; refine r_then_normal ?_; refine r_seq ?_; refine r_sr ?_; refine r_fieldAddr rfl rfl ?_; refine r_loadB1 0 rfl rfl rfl rfl ?_; refine r_ev rfl rfl ?_; refine r_nn ?_
  refine r_cond rfl (fun h5k => ?_) (fun h5k => ?_)
  · have hm := kind_five.2 (h1.trans (by omega))
    refine r_sr ?_; refine r_fieldAddr rfl rfl ?_; refine r_loadB1 0 rfl rfl rfl rfl ?_; refine r_ev rfl rfl ?_; refine r_ev rfl rfl ?_
    refine r_gdec rfl rfl (fun har => ?_) (fun har => ?_)
    · refine r_pass rfl rfl rfl ?_; refine r_pass rfl rfl rfl ?_; refine r_pass rfl rfl rfl ?_; refine r_pass rfl rfl rfl ?_; refine r_pass rfl rfl rfl ?_; refine r_passU rfl rfl ?_; refine r_passU rfl rfl ?_; refine r_passU rfl rfl ?_; refine r_pass rfl rfl rfl ?_; refine r_ev rfl rfl ?_; refine r_ev rfl rfl ?_; refine r_nn ?_; refine r_retc ?_; refine r_then_ret ?_
      exact r_ret1 [] rfl rfl (by simp) ⟨rfl, rfl, rfl⟩
    · rcases mark_cases hm with h | ⟨c, hc, hw⟩
      · exact absurd h har
      · rw [hw]
        refine r_take rfl ?_; refine r_fieldAddr rfl rfl ?_; refine r_take rfl ?_; refine r_loadB1 0 rfl rfl rfl rfl ?_; refine r_take rfl ?_; refine r_len_str rfl rfl ?_; refine r_tev rfl rfl rfl ?_; refine r_tev rfl rfl rfl ?_; refine r_take rfl ?_; refine r_fieldAddr rfl rfl ?_; refine r_take rfl ?_; refine r_loadB1 0 rfl rfl rfl rfl ?_; refine r_take rfl ?_
        refine r_callP rfl rfl (Contains_spec g markBytes c) ?_
        refine r_tev rfl rfl rfl ?_; refine r_ev rfl rfl ?_; refine r_ev rfl rfl ?_; refine r_nn ?_; refine r_retc ?_; refine r_then_ret ?_
        exact r_ret1 [] rfl rfl (by simp) ⟨vb (by simp [idx_mem hc]), rfl, rfl⟩
  · have hall : t.text.all inner = true := by
      rcases kind_shape hk with h | h
      · exact h.1
      · exact absurd (h1.symm.trans (kind_five.1 h)) (by omega)
    refine r_skip ?_; refine r_then_normal ?_; refine r_seq ?_; refine r_sr ?_; refine r_fieldAddr rfl rfl ?_; refine r_loadB1 0 rfl rfl rfl rfl ?_; refine r_len_str rfl rfl ?_; refine r_ev rfl rfl ?_; refine r_nn ?_; refine r_block ?_
    refine r_loop (ι := Nat) (fun k => [(1, ptr b 0), (36, .int .i64 t.text.length), (37, .int .i64 k)]) (fun _ => g) (fun _ => [.blk b 44 (tokCells t)]) (fun k => k ≤ t.text.length) (fun k => t.text.length - k) 0 (by omega) ⟨rfl, rfl, rfl, trivial⟩ rfl rfl ?_
    intro k hk1
    refine r_sr ?_; refine r_ev rfl rfl ?_; refine r_nn ?_; refine r_seq ?_
    refine r_cond rfl (fun hlt => ?_) (fun hlt => ?_)
    · have hlt' : k < t.text.length := by omega
      refine r_skip ?_; refine r_then_normal ?_; refine r_seq ?_; refine r_block ?_; refine r_sr ?_; refine r_ev rfl rfl ?_; refine r_ev rfl rfl ?_; refine r_nn ?_; refine r_sr ?_; refine r_fieldAddr rfl rfl ?_; refine r_loadB1 0 rfl rfl rfl rfl ?_; refine r_ev rfl rfl ?_
      refine r_index_str (j := k) rfl rfl rfl rfl hlt' ?_
      skip
      refine r_callP rfl rfl (part_spec g _) ?_
      rw [List.all_eq_true.1 hall _ (List.getElem_mem hlt')]
      refine r_ev rfl rfl ?_; refine r_nn ?_; refine r_cond_false rfl ?_; refine r_skip ?_; refine r_in_normal ?_; refine r_then_normal ?_; refine r_region ?_
      refine r_add rfl rfl rfl (by omega) ?_
      refine r_ev rfl rfl ?_; refine r_nn ?_
      exact r_again (k + 1) (by omega) (by omega) ⟨rfl, rfl, rfl, trivial⟩ rfl rfl
    · refine r_exit ?_; refine r_then_exit ?_; refine r_then_exit ?_; refine r_in_exit ?_; refine r_then_normal ?_; refine r_seq ?_
      refine r_qregion mixed (by kernel_rfl) ?_
      refine q_v rfl (val_fieldAddr rfl) ?_; refine q_v rfl (val_loadB1 0 rfl rfl rfl) ?_; refine q_ev rfl rfl ?_; refine q_ev rfl rfl ?_
      refine q_gdec rfl rfl (fun _ => ?_) (fun h => absurd h2 h)
      refine q_take rfl ?_; refine q_v rfl (val_fieldAddr rfl) ?_; refine q_take rfl ?_; refine q_v rfl (val_loadB1 0 rfl rfl rfl) ?_; refine q_take rfl ?_
      refine q_callP rfl rfl (tword_spec g _ (by omega) hpos hall) ?_
      refine q_take rfl ?_; refine q_v rfl (val_fieldAddr rfl) ?_; refine q_take rfl ?_; refine q_v rfl (val_loadB1 0 rfl rfl rfl) ?_; refine q_tev rfl rfl rfl ?_; refine q_ev rfl rfl ?_; refine q_ev rfl rfl ?_; refine q_end ?_; refine r_then_normal ?_; refine r_retc ?_
      exact r_ret1 [] rfl rfl (by simp) ⟨vb (by simp [h1]), rfl, rfl⟩
theorem join_joined : ∀ ws : List Bytes, Lib.join ws [32] = joined ws
  | [] => rfl
  | [w] => Lib.join_one w [32]
  | w :: v :: r => by
    have ih := join_joined (v :: r)
    rw [Lib.join_cons] at ih ⊢
    simp only [joined, ← ih]
    simp [Lib.joinTail]
theorem sJoin_spec (g : Ghost) (b : Nat) (ws : List Bytes) (hg : ∀ j w, ws[j]? = some w → g b j = some (str w)) (hn : ws.length ≤ 1000) (hw : ∀ w ∈ ws, w.length ≤ 14) : Pure Tryd.prog 67 [.slice (some ⟨b, 0, none⟩) ws.length ws.length, str [32]] g (str (joined ws)) := by
  cases hws : ws with
  | nil => exact pure_of_below fun w _ => (Tryd.strings_Join_none _ _ _ w).mono fun e w' ⟨he, hw'⟩ => ⟨he, hw' ▸ Go.RowKit.Below.refl _ _⟩
  | cons x r =>
    rw [← hws]
    refine pure_of_below fun w hH => ?_
    have hjl := joined_len ws 14 hw
    have e1 : (ws.map fun w => (⟨⟨w⟩⟩ : ByteArray)).map (·.data.toList) = ws := by rw [List.map_map]; exact List.map_id ws
    have hcell : ∀ (j : Nat) y, (ws.map fun w => (⟨⟨w⟩⟩ : ByteArray))[j]? = some y → w.cell? ⟨b, 0 + j, none⟩ = some (.string y) := by
      intro j y hy
      rw [List.getElem?_map] at hy
      cases hj : ws[j]? with
      | none => rw [hj] at hy; cases hy
      | some z =>
        rw [hj] at hy
        simp only [Option.map_some, Option.some.injEq] at hy
        subst hy
        rw [Nat.zero_add]
        exact hH.cov _ _ _ (hg j z hj)
    have hb : b < w.heap.size := cov_lt hH.cov (hg 0 x (by rw [hws]; rfl))
    have := Tryd.strings_Join b 0 ws.length (ws.map fun w => ⟨⟨w⟩⟩) ⟨⟨[32]⟩⟩ w hcell hb (by rw [List.length_map]; omega) (by rw [List.length_map]; omega) (by rw [e1]; show (Lib.join ws [32]).length ≤ _; rw [join_joined]; omega)
    rw [e1, List.length_map] at this
    have h3 : Lib.join ws (⟨⟨[32]⟩⟩ : ByteArray).data.toList = joined ws := join_joined ws
    rw [h3] at this
    exact this
theorem goodB {t : Tok} (h : Good t) : validTok t = true ∧ t.text.length ≤ 14 := by
  obtain ⟨h1, h2, h3, h4, h5⟩ := h
  refine ⟨?_, h5⟩
  have hr : 0 ≤ kindOf t.text ∧ kindOf t.text ≤ 5 := by
    unfold kindOf
    cases isKeyword t.text <;> cases isLower t.text <;> cases isUpper t.text <;> cases isInteger t.text <;> cases isMark t.text <;> simp
  simp only [validTok, h1, decide_true, Bool.and_true, Bool.and_eq_true, decide_eq_true_eq]
  rw [h1] at hr
  omega
theorem replicate_set (ws : List Bytes) (k n : Nat) (w : Bytes) (hk : ws.length = k) (hn : k < n) : ((ws ++ List.replicate (n - k) []).map str).set k (str w) = ((ws ++ [w]) ++ List.replicate (n - (k + 1)) []).map str := by
  obtain ⟨m, hm⟩ : ∃ m, n - k = m + 1 := ⟨n - k - 1, by omega⟩
  rw [hm, show n - (k + 1) = m by omega, ← List.map_set, List.set_append_right _ _ (by omega), hk]
  simp [List.replicate_succ]
theorem repN_str (k : Nat) : repN k [str []] = (List.replicate k ([] : Bytes)).map str := by
  induction k with
  | zero => rfl
  | succ k ih => rw [repN, ih]; rfl
theorem tJoin_spec (g : Ghost) (v : Value) (l : List Tok) (hs : SlAt g 3 v l.length (l.flatMap tokCells)) (hl : l.length ≤ 100) (hv : ∀ t ∈ l, Good t) : Pure Tryd.prog 36 [v] g (str (joined (texts l))) := by
  refine spec_of_run Tryd.func36 rfl Tryd.ntmps36 rfl fun E hE => ?_
  refine r_sr ?_; refine r_ev rfl rfl ?_; refine r_nn ?_; refine r_sr ?_; refine r_ev rfl rfl ?_
  refine r_len_at rfl rfl hs ?_
  refine r_makeSlice (len := l.length) rfl rfl rfl (by rfl) rfl (by omega) (by omega) (fun bt => ?_)
  rw [show repN l.length [Value.string ⟨⟨[]⟩⟩] = (List.replicate l.length ([] : Bytes)).map str from repN_str _]
  refine r_ev rfl rfl ?_; refine r_nn ?_; refine r_seq ?_; refine r_sr ?_; refine r_ev rfl rfl ?_
  refine r_len_at rfl rfl hs ?_
  refine r_ev rfl rfl ?_; refine r_nn ?_; refine r_block ?_
  refine r_loop (ι := Nat) (fun k => [(3, .slice (some ⟨bt, 0, none⟩) l.length l.length), (9, v), (10, .int .i64 l.length), (11, .int .i64 k)]) (fun _ => g) (fun k => [.blk bt 9 ((texts (l.take k) ++ List.replicate (l.length - k) []).map str)]) (fun k => k ≤ l.length) (fun k => l.length - k) 0 (by omega) ⟨rfl, rfl, rfl, rfl, trivial⟩ rfl rfl ?_
  intro k hk
  refine r_sr ?_; refine r_ev rfl rfl ?_; refine r_nn ?_; refine r_seq ?_
  refine r_cond rfl (fun hlt => ?_) (fun hlt => ?_)
  · have hlt' : k < l.length := by omega
    have hvk := hv _ (List.getElem_mem hlt')
    have htl : (texts (l.take k)).length = k := by simp [texts]; omega
    have htk : texts (l.take (k + 1)) = texts (l.take k) ++ [l[k].text] := by rw [List.take_succ_eq_append_getElem hlt', texts, List.map_append]; rfl
    obtain ⟨b0, off, cap, rfl, hx⟩ := hs.held hlt'
    refine r_skip ?_; refine r_then_normal ?_; refine r_seq ?_; refine r_block ?_; refine r_sr ?_; refine r_ev rfl rfl ?_
    refine r_indexAddr (j := k) rfl rfl rfl rfl hlt' ?_
    refine r_load rfl rfl (vs := tokCells l[k]) (rd_elem tokCells_len hx hlt') rfl ?_
    refine r_alloc rfl (fun b => ?_); refine r_ev rfl rfl ?_; refine r_storeA 0 rfl rfl rfl rfl (by rfl) rfl rfl ?_; refine r_nn ?_; refine r_seq ?_; refine r_sr ?_; refine r_loadB 0 rfl rfl rfl (by rfl) ?_
    refine r_callP rfl rfl (tValid_spec g l[k] hvk) ?_
    refine r_ev rfl rfl ?_; refine r_nn ?_; refine r_cond_false rfl ?_; refine r_skip ?_; refine r_then_normal ?_; refine r_region ?_; refine r_ev rfl rfl ?_; refine r_ev rfl rfl ?_; refine r_fieldAddr rfl rfl ?_; refine r_loadB1 0 rfl rfl rfl rfl ?_
    refine r_indexAddr (j := k) rfl rfl rfl rfl hlt' ?_
    refine r_store1 1 rfl rfl rfl rfl rfl (splice_set _ _ _ (by simp [htl]; omega)) ?_
    refine r_nil ?_; refine r_in_normal ?_; refine r_then_normal ?_; refine r_region ?_
    refine r_add rfl rfl rfl (by omega) ?_
    refine r_ev rfl rfl ?_; refine r_nn ?_
    refine r_drop (own' := [_]) (List.sublist_cons_self _ _) ?_
    refine r_again (k + 1) (by omega) (by omega) ⟨rfl, rfl, rfl, rfl, trivial⟩ rfl ?_
    rw [htk, ← replicate_set _ k l.length _ htl hlt', show 0 + k * 1 = k by omega]
  · have hkl : k = l.length := by omega
    subst hkl
    rw [List.take_length, Nat.sub_self, List.replicate_zero, List.append_nil]
    have htl : (texts l).length = l.length := by simp [texts]
    refine r_publishBlk (fun g1 hg1 hx => ?_)
    refine r_exit ?_; refine r_then_exit ?_; refine r_then_exit ?_; refine r_in_exit ?_; refine r_then_normal ?_; refine r_sr ?_; refine r_ev rfl rfl ?_
    refine r_callP rfl rfl (by
      rw [← htl]
      exact sJoin_spec g1 bt (texts l) (fun j w hw => hx j _ (by rw [List.getElem?_map, hw]; rfl)) (by omega) (fun w hw => by
        obtain ⟨t, ht, rfl⟩ := List.mem_map.1 hw
        exact (hv t ht).2.2.2.2)) ?_
    refine r_ev rfl rfl ?_; refine r_nn ?_; refine r_retc ?_
    refine r_shrink hE hg1 ?_
    exact r_ret1 [] rfl rfl (by simp) ⟨rfl, rfl, rfl⟩
end Go.Proofs.YtjiommnmkokldaaDoor

/- The walks of chapter 37: the program's Parse; the reference's arguments and Parse. -/
import Derived.Test.YtogmbpepdemdkaaDoorCmdC
namespace Go.Proofs.YtogmbpepdemdkaaDoor
open Go Go.Eng Go.Proofs
set_option maxRecDepth 10000
attribute [local irreducible] wpList Code.wp Run bodyPost Go.Eng.Ends Exit.then Exit.inBlock Again Wq Kq
def parsePost (r : Option Cmd) (v : Value) (g' : Ghost) : Prop := ∃ cv e, v = .tuple #[cv, .int .i64 e] ∧ match r with
  | some c => e = 0 ∧ CmdAt g' cv c
  | none => e = 19 ∧ CmdAt g' cv ⟨0, [], []⟩
/-- No form up to an index reads the text. -/
def NoForm (s : Bytes) (i : Nat) : Prop := ∀ (j : Nat) (h : j < formList.length), j < i → formList[j].word ≠ (cutSp s).1 ∨ 4100 < s.length ∨ parseForm formList[j] (cutSp s).2 = none
theorem NoForm.all {s : Bytes} (h : NoForm s 11) : parseCmd s = none := by
  unfold parseCmd
  split
  · rfl
  · rename_i hl
    cases hf : formOf (cutSp s).1 with
    | none => rfl
    | some f =>
      obtain ⟨hm, hw⟩ := formOf_mem hf
      obtain ⟨j, hj, rfl⟩ := List.getElem_of_mem hm
      simp only
      rcases h j hj (by simpa [formList] using hj) with h1 | h1 | h1
      · exact absurd hw h1
      · exact absurd h1 hl
      · exact h1
theorem parse_at {s : Bytes} {i : Nat} (hi : i < formList.length) (hw : formList[i].word = (cutSp s).1) (hl : ¬ 4100 < s.length) : parseCmd s = parseForm formList[i] (cutSp s).2 := by
  unfold parseCmd
  rw [if_neg hl, ← hw, (form_facts _ (List.getElem_mem hi)).1]
theorem zero_cmd (g : Ghost) (k : Int) (t : Bytes) : CmdAt g (.agg #[.int .i64 k, .slice none 0 0, str t]) ⟨k, [], t⟩ := ⟨_, rfl, rfl, rfl, .inl ⟨⟨_, _, rfl⟩, rfl⟩⟩
theorem Parse_spec (g : Ghost) {o : Obj} (hp : PowTab o) (he : ErrOk g) (s : Bytes) (hs : s.length ≤ 1000000) : SpecO Tryd.prog 26 [str s] g (tabRes o) fun v g' => parsePost (parseCmd s) v g' := by
  have hcl := cut_len s
  refine spec_of_run Tryd.func26 rfl Tryd.ntmps26 rfl fun E hE => ?_
  refine r_sr ?_
  refine r_alloc rfl (fun b2 => ?_)
  refine r_ev rfl rfl ?_; refine r_nn ?_; refine r_sr ?_; refine r_ev rfl rfl ?_
  refine r_callP rfl rfl (Cut_spec g s (by omega)) ?_
  unfold cutV
  refine r_ev rfl rfl ?_; refine r_ev rfl rfl ?_; refine r_ev rfl rfl ?_; refine r_ev rfl rfl ?_; refine r_ev rfl rfl ?_; refine r_ev rfl rfl ?_; refine r_ev rfl rfl ?_; refine r_nn ?_; refine r_seq ?_; refine r_sr ?_
  refine r_call rfl rfl (forms_spec g) ?_
  rintro v g0 own' ⟨rfl, bf, rfl, rfl⟩ _
  refine r_publishRow (fun g1 hg1 hsl => ?_)
  obtain ⟨_, _, _, he1, hx⟩ := hsl.held (j := 0) (by decide)
  simp only [Value.slice.injEq, Option.some.injEq, Addr.mk.injEq, and_true, true_and] at he1
  obtain ⟨⟨rfl, rfl⟩, rfl⟩ := he1
  refine r_len_sl rfl rfl ?_; refine r_ev rfl rfl ?_; refine r_nn ?_; refine r_block ?_
  refine r_loop (ι := Nat × Ghost) (fun p => [(0, str s), (2, ptr b2 0), (4, str (cutSp s).1), (5, str (optS (cutSp s).2)), (6, .bool (cutSp s).2.isSome), (17, .slice (some ⟨bf, 0, none⟩) 11 11), (18, .int .i64 11), (19, .int .i64 p.1)]) (fun p => p.2)
    (fun _ => [.blk b2 42 [.int .i64 0, .slice none 0 0, str []], tabRes o]) (fun p => p.1 ≤ 11 ∧ Ghost.le g1 p.2 ∧ NoForm s p.1) (fun p => 11 - p.1) (0, g1) ⟨by omega, Ghost.le_refl _, fun j _ h => by omega⟩ ⟨rfl, rfl, rfl, rfl, rfl, rfl, rfl, rfl, trivial⟩ rfl rfl ?_
  rintro ⟨i, g2⟩ ⟨hi, hle, hno⟩
  simp only at hi hle hno
  show Run E _ [(0, str s), (2, ptr b2 0), (4, str (cutSp s).1), (5, str (optS (cutSp s).2)), (6, .bool (cutSp s).2.isSome), (17, .slice (some ⟨bf, 0, none⟩) 11 11), (18, .int .i64 11), (19, .int .i64 i)] g2 [.blk b2 42 [.int .i64 0, .slice none 0 0, str []], tabRes o] _
  refine r_sr ?_; refine r_ev rfl rfl ?_; refine r_nn ?_; refine r_seq ?_
  refine r_cond rfl (fun hlt => ?_) (fun hlt => ?_)
  · have hlt' : i < formList.length := by simp only [formList, List.length_cons, List.length_nil]; omega
    have hff := form_facts _ (List.getElem_mem hlt')
    have hno1 : (formList[i].word ≠ (cutSp s).1 ∨ 4100 < s.length ∨ parseForm formList[i] (cutSp s).2 = none) → NoForm s (i + 1) := fun h j hj hji => by
      by_cases he : j = i
      · subst he; exact h
      · exact hno j hj (by omega)
    refine r_skip ?_; refine r_then_normal ?_; refine r_seq ?_; refine r_block ?_; refine r_sr ?_; refine r_indexAddr rfl rfl rfl rfl (by omega) ?_
    refine r_load rfl rfl (vs := formCells formList[i]) (rd_elem formCells_len (fun k x h => hle _ _ _ (hx k x h)) hlt') rfl ?_
    refine r_alloc rfl (fun b8 => ?_)
    refine r_storeA 0 rfl rfl rfl rfl (by rfl) (by repeat' (first | exact rfl | assumption | refine all_cons ?_ ?_)) rfl ?_; refine r_nn ?_; refine r_seq ?_; refine r_sr ?_; refine r_fieldAddr rfl rfl ?_; refine r_loadB1 0 rfl rfl rfl rfl ?_; refine r_ev rfl rfl ?_; refine r_ev rfl rfl ?_; refine r_ev rfl rfl ?_
    refine r_gdec rfl rfl (fun hw => ?_) (fun hw => ?_)
    · refine r_pass rfl rfl rfl ?_; refine r_pass rfl rfl rfl ?_; refine r_pass rfl rfl rfl ?_; refine r_ev rfl rfl ?_; refine r_nn ?_; refine r_cond_true rfl ?_; refine r_exit ?_; refine r_then_exit ?_; refine r_in_exit ?_; refine r_then_normal ?_; refine r_region ?_; refine r_add rfl rfl rfl (by omega) ?_; refine r_ev rfl rfl ?_; refine r_nn ?_
      refine r_drop (own' := [_, _]) (List.sublist_cons_self _ _) ?_
      exact r_again (i + 1, g2) ⟨by simp only; omega, hle, hno1 (.inl hw)⟩ (by simp only; omega) ⟨rfl, rfl, rfl, rfl, rfl, rfl, rfl, rfl, trivial⟩ rfl rfl
    refine r_tev rfl rfl rfl ?_; refine r_take rfl ?_; refine r_len_str rfl rfl ?_; refine r_tev rfl rfl rfl ?_; refine r_ev rfl rfl ?_; refine r_nn ?_
    refine r_cond rfl (fun hl => ?_) (fun hl => ?_)
    · refine r_exit ?_; refine r_then_exit ?_; refine r_in_exit ?_; refine r_then_normal ?_; refine r_region ?_; refine r_add rfl rfl rfl (by omega) ?_; refine r_ev rfl rfl ?_; refine r_nn ?_
      refine r_drop (own' := [_, _]) (List.sublist_cons_self _ _) ?_
      exact r_again (i + 1, g2) ⟨by simp only; omega, hle, hno1 (.inr (.inl (by omega)))⟩ (by simp only; omega) ⟨rfl, rfl, rfl, rfl, rfl, rfl, rfl, rfl, trivial⟩ rfl rfl
    have hpa := parse_at hlt' (Decidable.not_not.1 hw) (by omega : ¬ 4100 < s.length)
    refine r_skip ?_; refine r_then_normal ?_; refine r_sr ?_; refine r_loadB 0 rfl rfl rfl (by rfl) ?_; refine r_ev rfl rfl ?_; refine r_ev rfl rfl ?_
    refine r_callSO 2 rfl rfl rfl (parse_spec g2 hp (he.mono fun b o v h => hle _ _ _ (hg1 _ _ _ h)) formList[i] (by omega) (cutSp s).2 (by omega)) ?_
    rintro v g3 ⟨cv, b, rfl, hm⟩ hle3
    cases hpf : parseForm formList[i] (cutSp s).2 with
    | none =>
      rw [hpf] at hm
      obtain ⟨rfl, c, sl, rfl, h1, _⟩ := hm
      refine r_ev rfl rfl ?_; refine r_ev rfl rfl ?_; refine r_ev rfl rfl ?_
      refine r_alloc rfl (fun b9 => ?_)
      refine r_storeA 0 rfl rfl rfl rfl (by rfl) (by repeat' (first | exact rfl | assumption | refine all_cons ?_ ?_)) rfl ?_; refine r_ev rfl rfl ?_; refine r_nn ?_; refine r_sr ?_; refine r_ev rfl rfl ?_; refine r_nn ?_; refine r_cond_false rfl ?_; refine r_skip ?_; refine r_in_normal ?_; refine r_then_normal ?_; refine r_region ?_; refine r_add rfl rfl rfl (by omega) ?_; refine r_ev rfl rfl ?_; refine r_nn ?_
      refine r_drop (own' := [_, _]) (.cons _ (.cons _ (List.Sublist.refl _))) ?_
      exact r_again (i + 1, g3) ⟨by simp only; omega, Ghost.le_trans hle hle3, hno1 (.inr (.inr hpf))⟩ (by simp only; omega) ⟨rfl, rfl, rfl, rfl, rfl, rfl, rfl, rfl, trivial⟩ rfl rfl
    | some c =>
      rw [hpf] at hm hpa
      obtain ⟨rfl, sl, rfl, h1, h2⟩ := hm
      refine r_ev rfl rfl ?_; refine r_ev rfl rfl ?_; refine r_ev rfl rfl ?_
      refine r_alloc rfl (fun b9 => ?_)
      refine r_storeA 0 rfl rfl rfl rfl (by rfl) (by repeat' (first | exact rfl | assumption | refine all_cons ?_ ?_)) rfl ?_; refine r_ev rfl rfl ?_; refine r_nn ?_; refine r_sr ?_; refine r_ev rfl rfl ?_; refine r_nn ?_; refine r_cond_true rfl ?_; refine r_sr ?_; refine r_loadB 0 rfl rfl rfl (by rfl) ?_; refine r_storeA 2 rfl rfl rfl rfl (by rfl) (by repeat' (first | exact rfl | assumption | refine all_cons ?_ ?_)) rfl ?_; refine r_ev rfl rfl ?_; refine r_nn ?_; refine r_retc ?_; refine r_in_ret ?_; refine r_then_ret ?_; refine r_then_ret ?_; refine r_in_ret ?_; refine r_then_ret ?_
      refine r_ret2 [tabRes o] rfl (res_blk 2 rfl rfl (by rfl)) (.tmp rfl) (by simp) ⟨⟨_, _, rfl, ?_⟩, rfl⟩
      rw [hpa]
      exact ⟨rfl, sl, rfl, h1, h2⟩
  · have hi11 : i = 11 := by omega
    subst hi11
    refine r_exit ?_; refine r_then_exit ?_; refine r_then_exit ?_; refine r_in_exit ?_; refine r_then_normal ?_; refine r_sr ?_; refine r_build rfl rfl (by rfl) ?_; refine r_storeA 0 rfl rfl rfl rfl (by rfl) (by repeat' (first | exact rfl | assumption | refine all_cons ?_ ?_)) rfl ?_; refine r_ev rfl rfl ?_; refine r_nn ?_; refine r_retc ?_
    refine r_ret2 [tabRes o] rfl (res_blk 0 rfl rfl (by rfl)) (.tmp rfl) (by simp) ⟨⟨_, _, rfl, ?_⟩, rfl⟩
    rw [hno.all]
    exact ⟨rfl, zero_cmd _ _ _⟩
theorem cut_suf {s : Bytes} {k : Nat} (hk : k ≤ s.length) {t : Bytes} (h : (cutSp (s.drop k)).2 = some t) : ∃ k', k < k' ∧ k' ≤ s.length ∧ t = s.drop k' := by
  have hg := cut_glue (s.drop k)
  rw [h, tailO_some] at hg
  generalize (cutSp (s.drop k)).1 = a at hg
  have hl := congrArg List.length hg
  rw [List.length_append, List.length_cons, List.length_drop] at hl
  refine ⟨k + (a.length + 1), by omega, by omega, ?_⟩
  rw [← List.drop_drop, hg, List.drop_append, List.drop_eq_nil_of_le (by omega), show a.length + 1 - a.length = 1 by omega]
  rfl
/-- What is behind an index of the text. -/
def Suf (s : Bytes) : Option Bytes → Prop
  | none => True
  | some t => ∃ k, k ≤ s.length ∧ t = s.drop k
theorem Suf.at {s t : Bytes} (h : Suf s (some t)) : ∃ k, k ≤ s.length ∧ t = s.drop k ∧ atOf s (some t) = (k : Int) := by
  obtain ⟨k, hk, rfl⟩ := h
  exact ⟨k, hk, rfl, by simp [atOf]; omega⟩
theorem Suf.cut {s : Bytes} {k : Nat} (hk : k ≤ s.length) : Suf s (cutSp (s.drop k)).2 := by
  cases h : (cutSp (s.drop k)).2 with
  | none => trivial
  | some t => obtain ⟨k', _, h1, h2⟩ := cut_suf hk h; exact ⟨k', h1, h2⟩
theorem arguments_spec (g : Ghost) (f : Form) (hf : f.cnt ≤ 3) (s : Bytes) (hs : s.length ≤ 1000000) (r0 : Option Bytes) (hr : Suf s r0) :
    SpecN Tryd.prog 40 [formV f, str s, .int .i64 (atOf s r0)] g fun v g' => cmdPost (parseForm f r0) v g' := by
  refine spec_of_run Tryd.func40 rfl Tryd.ntmps40 rfl fun E hE => ?_
  refine r_sr ?_
  refine r_box rfl rfl rfl (fun b3 => ?_)
  refine r_alloc rfl (fun b6 => ?_)
  refine r_ev rfl rfl ?_; refine r_nn ?_; refine r_sr ?_; refine r_fieldAddr rfl rfl ?_; refine r_loadB1 1 rfl rfl rfl rfl ?_; refine r_build rfl rfl (by rfl) ?_
  refine r_alloc rfl (fun b8 => ?_)
  refine r_storeA 0 rfl rfl rfl rfl (by rfl) (by repeat' (first | exact rfl | assumption | refine all_cons ?_ ?_)) rfl ?_; refine r_nn ?_; refine r_seq ?_; refine r_sr ?_; refine r_ev rfl rfl ?_; refine r_nn ?_; refine r_block ?_
  refine r_nilRow 3 1 ?_
  refine r_loop (ι := Nat × List Int × Option Bytes × Value) (fun p => [(1, str s), (2, .int .i64 (atOf s p.2.2.1)), (3, ptr b3 0), (6, ptr b6 0), (8, ptr b8 0), (9, .int .i64 p.1)]) (fun _ => g)
    (fun p => [.row 3 1 p.2.2.2 p.2.1.length (ints p.2.1), .blk b8 42 [.int .i64 f.kind, p.2.2.2, str []], .blk b6 42 [.int .i64 0, .slice none 0 0, str []], .blk b3 66 (formCells f)])
    (fun p => p.1 ≤ f.cnt ∧ p.2.1.length = p.1 ∧ Suf s p.2.2.1 ∧ oneC p.2.2.2 = true ∧ Left f r0 p.1 p.2.1 p.2.2.1) (fun p => f.cnt - p.1) (0, [], r0, .slice none 0 0) ⟨Nat.zero_le _, rfl, hr, rfl, ?_⟩ ⟨rfl, rfl, rfl, rfl, rfl, rfl, trivial⟩ rfl rfl ?_
  · unfold Left
    rw [Nat.sub_zero]
    cases takeNums f.cnt r0 with
    | none => rfl
    | some p => simp
  rintro ⟨k, nums, r, sl⟩ ⟨h1, h2, h3, h4, h5⟩
  simp only at h1 h2 h3 h4 h5
  show Run E _ [(1, str s), (2, .int .i64 (atOf s r)), (3, ptr b3 0), (6, ptr b6 0), (8, ptr b8 0), (9, .int .i64 k)] g [.row 3 1 sl nums.length (ints nums), .blk b8 42 [.int .i64 f.kind, sl, str []], .blk b6 42 [.int .i64 0, .slice none 0 0, str []], .blk b3 66 (formCells f)] _
  refine r_seq ?_; refine r_sr ?_; refine r_ev rfl rfl ?_; refine r_fieldAddr rfl rfl ?_; refine r_loadB1 3 rfl rfl rfl rfl ?_; refine r_ev rfl rfl ?_; refine r_nn ?_
  refine r_cond rfl (fun hlt => ?_) (fun hlt => ?_)
  · have hlt' : k < f.cnt := by omega
    cases r with
    | none =>
      have hn := h5.none hlt' (.inl rfl)
      refine r_skip ?_; refine r_then_normal ?_; refine r_seq ?_; refine r_block ?_; refine r_seq ?_; refine r_sr ?_; refine r_ev rfl rfl ?_; refine r_ev rfl rfl ?_; refine r_nn ?_; refine r_cond_true rfl ?_; refine r_sr ?_; refine r_loadB 1 rfl rfl rfl (by rfl) ?_; refine r_storeA 2 rfl rfl rfl rfl (by rfl) (by repeat' (first | exact rfl | assumption | refine all_cons ?_ ?_)) rfl ?_; refine r_ev rfl rfl ?_; refine r_nn ?_; refine r_retc ?_; refine r_then_ret ?_; refine r_in_ret ?_; refine r_then_ret ?_; refine r_then_ret ?_; refine r_in_ret ?_; refine r_then_ret ?_
      refine r_publishRow (fun g' hg' hs => ?_)
      refine r_ret2 [] rfl (res_blk 1 rfl rfl (by rfl)) (.tmp rfl) (by simp) ⟨⟨_, _, rfl, ?_⟩, rfl⟩
      rw [hn]
      exact ⟨rfl, ⟨f.kind, nums, []⟩, sl, rfl, h4, hs⟩
    | some t =>
      obtain ⟨i, hi, rfl, hat⟩ := h3.at
      rw [hat]
      have hcl := cut_len (s.drop i)
      rw [List.length_drop] at hcl
      refine r_skip ?_; refine r_then_normal ?_; refine r_seq ?_; refine r_block ?_; refine r_seq ?_; refine r_sr ?_; refine r_ev rfl rfl ?_; refine r_ev rfl rfl ?_; refine r_nn ?_; refine r_cond_false rfl ?_; refine r_skip ?_; refine r_then_normal ?_; refine r_sr ?_; refine r_ev rfl rfl ?_; refine r_nn ?_; refine r_sr ?_; refine r_ev rfl rfl ?_; refine r_ev rfl rfl ?_
      refine r_callP rfl rfl (word_spec g s (by omega) i hi) ?_
      refine r_ev rfl rfl ?_; refine r_ev rfl rfl ?_; refine r_ev rfl rfl ?_; refine r_ev rfl rfl ?_; refine r_ev rfl rfl ?_; refine r_nn ?_; refine r_sr ?_; refine r_ev rfl rfl ?_
      refine r_callP rfl rfl (rnumber_spec g _ (by omega)) ?_
      unfold numV
      cases hno : numOf (cutSp (s.drop i)).1 with
      | none =>
        have hn := h5.none hlt' (.inr ⟨_, rfl, hno⟩)
        refine r_ev rfl rfl ?_; refine r_ev rfl rfl ?_; refine r_ev rfl rfl ?_; refine r_ev rfl rfl ?_; refine r_ev rfl rfl ?_; refine r_nn ?_; refine r_seq ?_; refine r_sr ?_; refine r_ev rfl rfl ?_; refine r_ev rfl rfl ?_; refine r_nn ?_; refine r_cond_true rfl ?_; refine r_sr ?_; refine r_loadB 1 rfl rfl rfl (by rfl) ?_; refine r_storeA 2 rfl rfl rfl rfl (by rfl) (by repeat' (first | exact rfl | assumption | refine all_cons ?_ ?_)) rfl ?_; refine r_ev rfl rfl ?_; refine r_nn ?_; refine r_retc ?_; refine r_then_ret ?_; refine r_in_ret ?_; refine r_then_ret ?_; refine r_then_ret ?_; refine r_in_ret ?_; refine r_then_ret ?_
        refine r_publishRow (fun g' hg' hs => ?_)
        refine r_ret2 [] rfl (res_blk 1 rfl rfl (by rfl)) (.tmp rfl) (by simp) ⟨⟨_, _, rfl, ?_⟩, rfl⟩
        rw [hn]
        exact ⟨rfl, ⟨f.kind, nums, []⟩, sl, rfl, h4, hs⟩
      | some m =>
        have hst := h5.step hlt' hno
        refine r_ev rfl rfl ?_; refine r_ev rfl rfl ?_; refine r_ev rfl rfl ?_; refine r_ev rfl rfl ?_; refine r_ev rfl rfl ?_; refine r_nn ?_; refine r_seq ?_; refine r_sr ?_; refine r_ev rfl rfl ?_; refine r_ev rfl rfl ?_; refine r_nn ?_; refine r_cond_false rfl ?_; refine r_skip ?_; refine r_then_normal ?_; refine r_region ?_; refine r_fieldAddr rfl rfl ?_; refine r_loadB1 1 rfl rfl rfl rfl ?_; refine r_ev rfl rfl ?_
        refine r_buildSlice rfl rfl (by rfl) (by rfl) (by rfl) (by rfl) (by rfl) (fun b2 => ?_)
        refine r_appendRow 1 0 rfl rfl rfl rfl rfl (by rfl) (by rfl) rfl (by unfold maxLen; omega) (by omega) (fun v' _ => ?_)
        refine r_rowOne 1 rfl (fun hv' => ?_)
        refine r_fieldAddr rfl rfl ?_; refine r_store1 2 rfl rfl rfl (cells_one (by assumption)) (by repeat' (first | exact rfl | assumption | refine all_cons ?_ ?_)) rfl ?_; refine r_nil ?_; refine r_in_normal ?_; refine r_then_normal ?_; refine r_region ?_; refine r_ev rfl rfl ?_; refine r_add rfl rfl rfl (by omega) ?_; refine r_ev rfl rfl ?_; refine r_nn ?_
        refine r_drop (own' := [_, _, _, _]) (List.sublist_cons_self _ _) ?_
        refine r_again (k + 1, nums ++ [(m : Int)], (cutSp (s.drop i)).2, v') ⟨by simp only; omega, by simp; omega, Suf.cut hi, hv', hst⟩ (by simp only; omega) ⟨rfl, rfl, rfl, rfl, rfl, rfl, trivial⟩ rfl ?_
        simp [ints, repN]
  · have hk : k = f.cnt := by omega
    subst hk
    have hl := h5.last
    obtain ⟨w, kd, cnt, tx⟩ := f
    simp only at hf h1 h2 h5 hl hlt ⊢
    rcases r with _ | t
    · cases tx with
      | true =>
        refine r_exit ?_; refine r_then_exit ?_; refine r_then_exit ?_; refine r_in_exit ?_; refine r_then_normal ?_; refine r_seq ?_; refine r_sr ?_; refine r_fieldAddr rfl rfl ?_; refine r_loadB1 3 rfl rfl rfl rfl ?_; refine r_ev rfl rfl ?_; refine r_nn ?_; refine r_cond_false rfl ?_; refine r_skip ?_; refine r_then_normal ?_; refine r_seq ?_; refine r_sr ?_; refine r_ev rfl rfl ?_; refine r_ev rfl rfl ?_; refine r_ev rfl rfl ?_; refine r_pass rfl rfl rfl ?_; refine r_pass rfl rfl rfl ?_; refine r_pass rfl rfl rfl ?_; refine r_pass rfl rfl rfl ?_; refine r_ev rfl rfl ?_; refine r_nn ?_; refine r_cond_true rfl ?_; refine r_sr ?_; refine r_loadB 1 rfl rfl rfl (by rfl) ?_; refine r_storeA 2 rfl rfl rfl rfl (by rfl) (by repeat' (first | exact rfl | assumption | refine all_cons ?_ ?_)) rfl ?_; refine r_ev rfl rfl ?_; refine r_nn ?_; refine r_retc ?_; refine r_then_ret ?_
        -- STOP1
        refine r_publishRow (fun g' hg' hs => ?_)
        refine r_ret2 [] rfl (res_blk 1 rfl rfl (by rfl)) (.tmp rfl) (by simp) ⟨⟨_, _, rfl, ?_⟩, rfl⟩
        rw [hl]
        exact ⟨rfl, ⟨kd, nums, _⟩, sl, rfl, h4, hs⟩
      | false =>
        refine r_exit ?_; refine r_then_exit ?_; refine r_then_exit ?_; refine r_in_exit ?_; refine r_then_normal ?_; refine r_seq ?_; refine r_sr ?_; refine r_fieldAddr rfl rfl ?_; refine r_loadB1 3 rfl rfl rfl rfl ?_; refine r_ev rfl rfl ?_; refine r_nn ?_; refine r_cond_true rfl ?_; refine r_sr ?_; refine r_loadB 1 rfl rfl rfl (by rfl) ?_; refine r_ev rfl rfl ?_; refine r_ev rfl rfl ?_; refine r_storeA 2 rfl rfl rfl rfl (by rfl) (by repeat' (first | exact rfl | assumption | refine all_cons ?_ ?_)) rfl ?_; refine r_ev rfl rfl ?_; refine r_nn ?_; refine r_retc ?_; refine r_then_ret ?_
        refine r_publishRow (fun g' hg' hs => ?_)
        refine r_ret2 [] rfl (res_blk 1 rfl rfl (by rfl)) (.tmp rfl) (by simp) ⟨⟨_, _, rfl, ?_⟩, rfl⟩
        rw [hl]
        exact ⟨rfl, sl, rfl, h4, hs⟩
    · obtain ⟨i, hi, rfl, hat⟩ := h3.at
      rw [hat]
      cases tx with
      | true =>
        refine r_exit ?_; refine r_then_exit ?_; refine r_then_exit ?_; refine r_in_exit ?_; refine r_then_normal ?_; refine r_seq ?_; refine r_sr ?_; refine r_fieldAddr rfl rfl ?_; refine r_loadB1 3 rfl rfl rfl rfl ?_; refine r_ev rfl rfl ?_; refine r_nn ?_; refine r_cond_false rfl ?_; refine r_skip ?_; refine r_then_normal ?_; refine r_seq ?_; refine r_sr ?_; refine r_ev rfl rfl ?_; refine r_ev rfl rfl ?_; refine r_ev rfl rfl ?_; refine r_tev rfl rfl rfl ?_; refine r_tev rfl rfl rfl ?_; refine r_take rfl ?_; refine r_len_str rfl rfl ?_; refine r_tev rfl rfl rfl ?_; refine r_ev rfl rfl ?_; refine r_nn ?_
        refine r_cond rfl (fun hend => ?_) (fun hend => ?_)
        · have ht : s.drop i = [] := List.drop_eq_nil_of_le (by omega)
          refine r_sr ?_; refine r_loadB 1 rfl rfl rfl (by rfl) ?_; refine r_storeA 2 rfl rfl rfl rfl (by rfl) (by repeat' (first | exact rfl | assumption | refine all_cons ?_ ?_)) rfl ?_; refine r_ev rfl rfl ?_; refine r_nn ?_; refine r_retc ?_; refine r_then_ret ?_
          refine r_publishRow (fun g' hg' hs => ?_)
          refine r_ret2 [] rfl (res_blk 1 rfl rfl (by rfl)) (.tmp rfl) (by simp) ⟨⟨_, _, rfl, ?_⟩, rfl⟩
          rw [hl, ht]
          exact ⟨rfl, ⟨kd, nums, []⟩, sl, rfl, h4, hs⟩
        · have ht : s.drop i ≠ [] := fun h => by have := congrArg List.length h; rw [List.length_drop, List.length_nil] at this; omega
          refine r_skip ?_; refine r_then_normal ?_; refine r_sr ?_; refine r_ev rfl rfl ?_; refine r_ev rfl rfl ?_
          refine r_slice_str (p := i) (q := s.length) rfl rfl ⟨_, _, rfl, rfl⟩ rfl hi (Nat.le_refl _) ?_
          rw [List.take_length]
          refine r_fieldAddr rfl rfl ?_; refine r_store1 1 rfl rfl rfl rfl rfl rfl ?_; refine r_nn ?_; refine r_sr ?_; refine r_loadB 1 rfl rfl rfl (by rfl) ?_; refine r_storeA 2 rfl rfl rfl rfl (by rfl) (by repeat' (first | exact rfl | assumption | refine all_cons ?_ ?_)) rfl ?_; refine r_ev rfl rfl ?_; refine r_nn ?_; refine r_retc ?_
          refine r_publishRow (fun g' hg' hs => ?_)
          refine r_ret2 [] rfl (res_blk 1 rfl rfl (by rfl)) (.tmp rfl) (by simp) ⟨⟨_, _, rfl, ?_⟩, rfl⟩
          rw [hl]
          simp only [endForm, ht, if_true, if_false]
          exact ⟨by simp, sl, rfl, h4, hs⟩
      | false =>
        refine r_exit ?_; refine r_then_exit ?_; refine r_then_exit ?_; refine r_in_exit ?_; refine r_then_normal ?_; refine r_seq ?_; refine r_sr ?_; refine r_fieldAddr rfl rfl ?_; refine r_loadB1 3 rfl rfl rfl rfl ?_; refine r_ev rfl rfl ?_; refine r_nn ?_; refine r_cond_true rfl ?_; refine r_sr ?_; refine r_loadB 1 rfl rfl rfl (by rfl) ?_; refine r_ev rfl rfl ?_; refine r_ev rfl rfl ?_; refine r_storeA 2 rfl rfl rfl rfl (by rfl) (by repeat' (first | exact rfl | assumption | refine all_cons ?_ ?_)) rfl ?_; refine r_ev rfl rfl ?_; refine r_nn ?_; refine r_retc ?_; refine r_then_ret ?_
        refine r_publishRow (fun g' hg' hs => ?_)
        refine r_ret2 [] rfl (res_blk 1 rfl rfl (by rfl)) (.tmp rfl) (by simp) ⟨⟨_, _, rfl, ?_⟩, rfl⟩
        rw [hl]
        exact ⟨by simp, ⟨kd, nums, _⟩, sl, rfl, h4, hs⟩
theorem rParse_spec (g : Ghost) (s : Bytes) (hs : s.length ≤ 1000000) : SpecN Tryd.prog 27 [str s] g fun v g' => parsePost (parseCmd s) v g' := by
  refine spec_of_run Tryd.func27 rfl Tryd.ntmps27 rfl fun E hE => ?_
  refine r_sr ?_
  refine r_alloc rfl (fun b2 => ?_)
  refine r_ev rfl rfl ?_; refine r_nn ?_; refine r_seq ?_; refine r_sr ?_; refine r_ev rfl rfl ?_; refine r_len_str rfl rfl ?_; refine r_ev rfl rfl ?_; refine r_nn ?_
  refine r_cond rfl (fun hl => ?_) (fun hl => ?_)
  · have hn : parseCmd s = none := by unfold parseCmd; rw [if_pos (by omega)]
    refine r_sr ?_; refine r_build rfl rfl (by rfl) ?_; refine r_storeA 0 rfl rfl rfl rfl (by rfl) (by repeat' (first | exact rfl | assumption | refine all_cons ?_ ?_)) rfl ?_; refine r_ev rfl rfl ?_; refine r_nn ?_; refine r_retc ?_; refine r_then_ret ?_
    refine r_ret2 [] rfl (res_blk 0 rfl rfl (by rfl)) (.tmp rfl) (by simp) ⟨⟨_, _, rfl, ?_⟩, rfl⟩
    rw [hn]
    exact ⟨rfl, zero_cmd _ _ _⟩
  refine r_skip ?_; refine r_then_normal ?_; refine r_sr ?_; refine r_ev rfl rfl ?_
  refine r_callP rfl rfl (word_spec g s (by omega) 0 (by omega)) ?_
  rw [List.drop_zero]
  refine r_ev rfl rfl ?_; refine r_ev rfl rfl ?_; refine r_ev rfl rfl ?_; refine r_ev rfl rfl ?_; refine r_ev rfl rfl ?_; refine r_nn ?_; refine r_sr ?_
  refine r_call rfl rfl (rows_spec g) ?_
  rintro v g0 own' ⟨rfl, bf, rfl, rfl⟩ _
  refine r_publishRow (fun g1 hg1 hsl => ?_)
  obtain ⟨_, _, _, he1, hx⟩ := hsl.held (j := 0) (by decide)
  simp only [Value.slice.injEq, Option.some.injEq, Addr.mk.injEq, and_true, true_and] at he1
  obtain ⟨⟨rfl, rfl⟩, rfl⟩ := he1
  refine r_ev rfl rfl ?_; refine r_nn ?_; refine r_seq ?_; refine r_sr ?_; refine r_ev rfl rfl ?_; refine r_nn ?_; refine r_block ?_
  refine r_loop (ι := Nat) (fun i => [(0, str s), (2, ptr b2 0), (4, str (cutSp s).1), (5, .int .i64 (atOf s (cutSp s).2)), (6, .slice (some ⟨bf, 0, none⟩) 11 11), (7, .int .i64 i)]) (fun _ => g1)
    (fun _ => [.blk b2 42 [.int .i64 0, .slice none 0 0, str []]]) (fun i => i ≤ 11 ∧ NoForm s i) (fun i => 11 - i) 0 ⟨by omega, fun j _ h => by omega⟩ ⟨rfl, rfl, rfl, rfl, rfl, rfl, trivial⟩ rfl rfl ?_
  rintro i ⟨hi, hno⟩
  refine r_seq ?_; refine r_sr ?_; refine r_ev rfl rfl ?_; refine r_ev rfl rfl ?_; refine r_len_sl rfl rfl ?_; refine r_ev rfl rfl ?_; refine r_nn ?_
  refine r_cond rfl (fun hlt => ?_) (fun hlt => ?_)
  · have hlt' : i < formList.length := by simp only [formList, List.length_cons, List.length_nil]; omega
    have hff := form_facts _ (List.getElem_mem hlt')
    have hno1 : (formList[i].word ≠ (cutSp s).1 ∨ 4100 < s.length ∨ parseForm formList[i] (cutSp s).2 = none) → NoForm s (i + 1) := fun h j hj hji => by
      by_cases he : j = i
      · subst he; exact h
      · exact hno j hj (by omega)
    refine r_skip ?_; refine r_then_normal ?_; refine r_seq ?_; refine r_block ?_; refine r_sr ?_; refine r_ev rfl rfl ?_; refine r_ev rfl rfl ?_; refine r_indexAddr rfl rfl rfl rfl (by omega) ?_; refine r_fieldAddr rfl rfl ?_
    refine r_load1 rfl rfl (SlAt.cell formCells_len hx hlt' 0 rfl) ?_
    refine r_ev rfl rfl ?_; refine r_ev rfl rfl ?_; refine r_nn ?_
    refine r_cond rfl (fun hw => ?_) (fun hw => ?_)
    · have hpa := parse_at hlt' hw (by omega : ¬ 4100 < s.length)
      refine r_seq ?_; refine r_sr ?_; refine r_ev rfl rfl ?_; refine r_ev rfl rfl ?_; refine r_indexAddr rfl rfl rfl rfl (by omega) ?_
      refine r_load rfl rfl (vs := formCells formList[i]) (rd_elem formCells_len hx hlt') rfl ?_
      refine r_ev rfl rfl ?_; refine r_ev rfl rfl ?_
      refine r_callN rfl rfl (arguments_spec g1 formList[i] (by omega) s hs (cutSp s).2 (by have := Suf.cut (s := s) (k := 0) (by omega); rwa [List.drop_zero] at this)) ?_
      rintro v g3 ⟨cv, b, rfl, hm⟩ hle3
      cases hpf : parseForm formList[i] (cutSp s).2 with
      | none =>
        rw [hpf] at hm hpa
        obtain ⟨rfl, c, sl, rfl, h1, _⟩ := hm
        refine r_ev rfl rfl ?_; refine r_ev rfl rfl ?_; refine r_ev rfl rfl ?_
        refine r_alloc rfl (fun b8 => ?_)
        refine r_storeA 0 rfl rfl rfl rfl (by rfl) (by repeat' (first | exact rfl | assumption | refine all_cons ?_ ?_)) rfl ?_; refine r_ev rfl rfl ?_; refine r_nn ?_; refine r_sr ?_; refine r_ev rfl rfl ?_; refine r_nn ?_; refine r_cond_false rfl ?_; refine r_skip ?_; refine r_then_normal ?_; refine r_exit ?_; refine r_in_exit_other rfl ?_; refine r_then_exit ?_; refine r_then_exit ?_; refine r_in_exit ?_; refine r_then_normal ?_; refine r_sr ?_; refine r_build rfl rfl (by rfl) ?_; refine r_storeA 1 rfl rfl rfl rfl (by rfl) (by repeat' (first | exact rfl | assumption | refine all_cons ?_ ?_)) rfl ?_; refine r_ev rfl rfl ?_; refine r_nn ?_; refine r_retc ?_
        refine r_ret2 [] rfl (res_blk 1 rfl rfl (by rfl)) (.tmp rfl) (by simp) ⟨⟨_, _, rfl, ?_⟩, rfl⟩
        rw [hpa]
        exact ⟨rfl, zero_cmd _ _ _⟩
      | some c =>
        rw [hpf] at hm hpa
        obtain ⟨rfl, sl, rfl, h1, h2⟩ := hm
        refine r_ev rfl rfl ?_; refine r_ev rfl rfl ?_; refine r_ev rfl rfl ?_
        refine r_alloc rfl (fun b8 => ?_)
        refine r_storeA 0 rfl rfl rfl rfl (by rfl) (by repeat' (first | exact rfl | assumption | refine all_cons ?_ ?_)) rfl ?_; refine r_ev rfl rfl ?_; refine r_nn ?_; refine r_sr ?_; refine r_ev rfl rfl ?_; refine r_nn ?_; refine r_cond_true rfl ?_; refine r_sr ?_; refine r_loadB 0 rfl rfl rfl (by rfl) ?_; refine r_storeA 1 rfl rfl rfl rfl (by rfl) (by repeat' (first | exact rfl | assumption | refine all_cons ?_ ?_)) rfl ?_; refine r_ev rfl rfl ?_; refine r_nn ?_; refine r_retc ?_; refine r_then_ret ?_; refine r_in_ret ?_; refine r_then_ret ?_; refine r_then_ret ?_; refine r_in_ret ?_; refine r_then_ret ?_
        refine r_ret2 [] rfl (res_blk 1 rfl rfl (by rfl)) (.tmp rfl) (by simp) ⟨⟨_, _, rfl, ?_⟩, rfl⟩
        rw [hpa]
        exact ⟨rfl, sl, rfl, h1, h2⟩
    · refine r_skip ?_; refine r_in_normal ?_; refine r_then_normal ?_; refine r_region ?_; refine r_ev rfl rfl ?_; refine r_add rfl rfl rfl (by omega) ?_; refine r_ev rfl rfl ?_; refine r_nn ?_
      exact r_again (i + 1) ⟨by omega, hno1 (.inl hw)⟩ (by omega) ⟨rfl, rfl, rfl, rfl, rfl, rfl, trivial⟩ rfl rfl
  · have hi11 : i = 11 := by omega
    subst hi11
    refine r_exit ?_; refine r_then_exit ?_; refine r_then_exit ?_; refine r_in_exit ?_; refine r_then_normal ?_; refine r_sr ?_; refine r_build rfl rfl (by rfl) ?_; refine r_storeA 0 rfl rfl rfl rfl (by rfl) (by repeat' (first | exact rfl | assumption | refine all_cons ?_ ?_)) rfl ?_; refine r_ev rfl rfl ?_; refine r_nn ?_; refine r_retc ?_
    refine r_ret2 [] rfl (res_blk 0 rfl rfl (by rfl)) (.tmp rfl) (by simp) ⟨⟨_, _, rfl, ?_⟩, rfl⟩
    rw [hno.all]
    exact ⟨rfl, zero_cmd _ _ _⟩
end Go.Proofs.YtogmbpepdemdkaaDoor

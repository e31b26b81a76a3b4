/- The walks of chapter 37: writing a command: the program's write, Format and Valid, the reference's too. -/
import Derived.Test.YtogmbpepdemdkaaDoorCmdD
namespace Go.Proofs.YtogmbpepdemdkaaDoor
open Go Go.Eng Go.Proofs
set_option maxRecDepth 10000
attribute [local irreducible] wpList Code.wp Run bodyPost Go.Eng.Ends Exit.then Exit.inBlock Again Wq Kq
theorem itoa_six {n : Int} (h : 0 ≤ n ∧ n ≤ 999999) : (Lib.itoa n).length ≤ 6 := by
  obtain ⟨k, rfl⟩ : ∃ k : Nat, n = k := ⟨n.toNat, by omega⟩
  rw [itoa_nat]
  exact dec_len 5 k (by omega)
theorem numsText_len : ∀ (l : List Int), (∀ n ∈ l, 0 ≤ n ∧ n ≤ 999999) → (numsText l).length ≤ 7 * l.length
  | [], _ => by simp [numsText]
  | n :: l, h => by
    have h1 := itoa_six (h n (by simp))
    have ih := numsText_len l (fun m hm => h m (List.mem_cons_of_mem _ hm))
    simp only [numsText, List.length_cons, List.length_append]; omega
theorem numsText_snoc : ∀ (l : List Int) (n : Int), numsText (l ++ [n]) = numsText l ++ 32 :: Lib.itoa n
  | [], n => by simp [numsText]
  | m :: l, n => by simp only [List.cons_append, numsText, numsText_snoc l n]; simp
def cmdCells (c : Cmd) (sl : Value) : List Value := [.int .i64 c.kind, sl, str c.text]
theorem closure_spec (g : Ghost) (f : Form) (c : Cmd) (sl : Value) (b : Nat) : Eng.Spec Tryd.prog 49 [formV f, ptr b 0] g [.blk b 42 (cmdCells c sl)] fun v g' own' => v = .bool (decide (f.kind = c.kind)) ∧ g' = g ∧ own' = [.blk b 42 (cmdCells c sl)] := by
  refine spec_of_run Tryd.func49 rfl Tryd.ntmps49 rfl fun E hE => ?_
  refine r_sr ?_; refine r_box rfl rfl rfl (fun b => ?_); refine r_ev rfl rfl ?_; refine r_nn ?_; refine r_sr ?_; refine r_fieldAddr rfl rfl ?_; refine r_loadB1 0 rfl rfl rfl rfl ?_; refine r_fieldAddr rfl rfl ?_; refine r_loadB1 1 rfl rfl rfl rfl ?_; refine r_ev rfl rfl ?_; refine r_ev rfl rfl ?_; refine r_nn ?_; refine r_retc ?_
  exact r_ret1 [_] rfl rfl (.cons _ (List.Sublist.refl _)) ⟨rfl, rfl, rfl⟩
/-- The first form of a kind. -/
def idxPost (k : Int) (v : Value) : Prop := (∃ (i : Nat) (h : i < formList.length), v = .int .i64 i ∧ kindForm k = some formList[i]) ∨ (v = .int .i64 (-1) ∧ kindForm k = none)
theorem kind_at {i : Nat} (h : i < formList.length) {k : Int} (hk : formList[i].kind = k) : kindForm k = some formList[i] := by
  rw [← hk]; exact (form_facts _ (List.getElem_mem h)).2.1
theorem kind_none {k : Int} (h : ∀ (j : Nat) (hj : j < formList.length), formList[j].kind ≠ k) : kindForm k = none := by
  cases hf : kindForm k with
  | none => rfl
  | some f =>
    obtain ⟨hm, hk⟩ := kindForm_mem hf
    obtain ⟨j, hj, rfl⟩ := List.getElem_of_mem hm
    exact absurd hk (h j hj)
theorem IndexFunc_spec (g : Ghost) (bf : Nat) (hx : ∀ k x, (formList.flatMap formCells)[k]? = some x → g bf (0 + k) = some x) (c : Cmd) (sl : Value) (b : Nat) :
    Eng.Spec Tryd.prog 48 [.slice (some ⟨bf, 0, none⟩) 11 11, .func (.func 49) #[] #[ptr b 0]] g [.blk b 42 (cmdCells c sl)]
      fun v g' own' => idxPost c.kind v ∧ g' = g ∧ own' = [.blk b 42 (cmdCells c sl)] := by
  refine spec_of_run Tryd.func48 rfl Tryd.ntmps48 rfl fun E hE => ?_
  refine r_sr ?_; refine r_ev rfl rfl ?_; refine r_nn ?_; refine r_seq ?_; refine r_sr ?_; refine r_ev rfl rfl ?_; refine r_len_sl rfl rfl ?_; refine r_ev rfl rfl ?_; refine r_nn ?_; refine r_block ?_
  refine r_loop (ι := Nat) (fun i => [(0, .slice (some ⟨bf, 0, none⟩) 11 11), (1, .func (.func 49) #[] #[ptr b 0]), (7, .int .i64 11), (8, .int .i64 i)]) (fun _ => g) (fun _ => [.blk b 42 (cmdCells c sl)]) (fun i => i ≤ 11 ∧ ∀ (j : Nat) (hj : j < formList.length), j < i → formList[j].kind ≠ c.kind) (fun i => 11 - i) 0 ⟨by omega, fun j _ h => by omega⟩ ⟨rfl, rfl, rfl, rfl, trivial⟩ rfl rfl ?_
  rintro i ⟨hi, hno⟩
  refine r_sr ?_; refine r_ev rfl rfl ?_; refine r_nn ?_; refine r_seq ?_
  refine r_cond rfl (fun hlt => ?_) (fun hlt => ?_)
  · have hlt' : i < formList.length := by simp only [formList, List.length_cons, List.length_nil]; omega
    refine r_skip ?_; refine r_then_normal ?_; refine r_seq ?_; refine r_block ?_; refine r_sr ?_; refine r_ev rfl rfl ?_; refine r_ev rfl rfl ?_; refine r_nn ?_; refine r_sr ?_; refine r_ev rfl rfl ?_; refine r_ev rfl rfl ?_; refine r_ev rfl rfl ?_; refine r_indexAddr rfl rfl rfl rfl (by omega) ?_
    refine r_load rfl rfl (vs := formCells formList[i]) (rd_elem formCells_len hx hlt') rfl ?_
    refine r_callF' (us := []) (cs := [ptr b 0]) (lent := [_]) (kept := []) rfl rfl rfl (List.Perm.refl _) (closure_spec g formList[i] c sl b) ?_
    rintro v g' own' ⟨rfl, rfl, rfl⟩ _
    refine r_nn ?_
    refine r_cond rfl (fun hk => ?_) (fun hk => ?_)
    · refine r_sr ?_; refine r_ev rfl rfl ?_; refine r_ev rfl rfl ?_; refine r_nn ?_; refine r_retc ?_; refine r_in_ret ?_; refine r_then_ret ?_; refine r_then_ret ?_; refine r_in_ret ?_; refine r_then_ret ?_
      exact r_ret1 [_] rfl rfl (List.Sublist.refl _) ⟨.inl ⟨i, hlt', rfl, kind_at hlt' hk⟩, rfl, rfl⟩
    · refine r_skip ?_; refine r_in_normal ?_; refine r_then_normal ?_; refine r_region ?_; refine r_add rfl rfl rfl (by omega) ?_; refine r_ev rfl rfl ?_; refine r_nn ?_
      exact r_again (i + 1) ⟨by omega, fun j hj hji => by
        by_cases he : j = i
        · subst he; exact hk
        · exact hno j hj (by omega)⟩ (by omega) ⟨rfl, rfl, rfl, rfl, trivial⟩ rfl rfl
  · refine r_exit ?_; refine r_then_exit ?_; refine r_then_exit ?_; refine r_in_exit ?_; refine r_then_normal ?_; refine r_sr ?_; refine r_ev rfl rfl ?_; refine r_nn ?_; refine r_retc ?_
    exact r_ret1 [_] rfl rfl (List.Sublist.refl _) ⟨.inr ⟨rfl, kind_none fun j hj => hno j hj (by simp only [formList, List.length_cons, List.length_nil] at hj; omega)⟩, rfl, rfl⟩
def writePost (r : Option Bytes) (v : Value) : Prop := ∃ s b, v = .tuple #[str s, .bool b] ∧ match r with
  | some t => s = t ∧ b = true
  | none => b = false
theorem wEnd {t u : Bytes} (h : u = t) : writePost (if t.length ≤ 4100 then some t else none) (.tuple #[str u, .bool (decide ((u.length : Int) ≤ 4100))]) := by
  subst h
  refine ⟨u, _, rfl, ?_⟩
  by_cases h : u.length ≤ 4100
  · rw [if_pos h]; exact ⟨rfl, decide_eq_true (by omega)⟩
  · rw [if_neg h]; exact decide_eq_false (by omega)
theorem fmt_none {f : Form} {c : Cmd} (h : (c.nums.length ≠ f.cnt ∨ decide (c.text ≠ []) ≠ f.txt) ∨ ¬ (∀ n ∈ c.nums, 0 ≤ n ∧ n ≤ 999999)) : formatForm f c = none := by
  unfold formatForm
  rcases h with h | h
  · rw [if_pos h]
  · split
    · rfl
    · first | rfl | rw [if_neg h]
theorem fmt_some {f : Form} {c : Cmd} (h1 : c.nums.length = f.cnt) (h2 : decide (c.text ≠ []) = f.txt) (h3 : ∀ n ∈ c.nums, 0 ≤ n ∧ n ≤ 999999) : formatForm f c = if (textOf f c).length ≤ 4100 then some (textOf f c) else none := by
  unfold formatForm
  rw [if_neg (by simp only [not_or, Decidable.not_not]; exact ⟨h1, h2⟩), if_pos h3]
theorem write_spec (g : Ghost) {o : Obj} (hp : PowTab o) (c : Cmd) (cv : Value) (hc : CmdAt g cv c) (ht : c.text.length ≤ 1000000) (hw : ∀ n ∈ c.nums, -9223372036854775808 ≤ n ∧ n ≤ 9223372036854775807) :
    SpecO Tryd.prog 41 [cv] g (tabRes o) fun v g' => writePost (formatCmd c) v ∧ g' = g := by
  obtain ⟨sl, rfl, h1, hs⟩ := hc
  refine spec_of_run Tryd.func41 rfl Tryd.ntmps41 rfl fun E hE => ?_
  refine r_sr ?_
  refine r_box rfl rfl rfl (fun b1 => ?_)
  refine r_ev rfl rfl ?_; refine r_ev rfl rfl ?_; refine r_nn ?_; refine r_sr ?_
  refine r_call rfl rfl (forms_spec g) ?_
  rintro v g0 own' ⟨rfl, bf, rfl, rfl⟩ _
  refine r_publishRow (fun g1 hg1 hsl => ?_)
  obtain ⟨_, _, _, he1, hx⟩ := hsl.held (j := 0) (by decide)
  simp only [Value.slice.injEq, Option.some.injEq, Addr.mk.injEq, and_true, true_and] at he1
  obtain ⟨⟨rfl, rfl⟩, rfl⟩ := he1
  have hs1 := hs.mono hg1
  refine r_makeFunc rfl rfl rfl ?_
  refine r_call' (lent := [_]) (kept := [_]) rfl rfl (List.Perm.refl _) (IndexFunc_spec g1 bf hx c sl b1) ?_
  rintro v g0 own' ⟨hv, rfl, rfl⟩ _
  unfold formatCmd
  rcases hv with ⟨i, hi, rfl, hk⟩ | ⟨rfl, hk⟩
  · rw [hk]
    have hff := form_facts _ (List.getElem_mem hi)
    have hi11 : i < 11 := by simpa [formList] using hi
    refine r_ev rfl rfl ?_; refine r_nn ?_; refine r_seq ?_; refine r_sr ?_; refine r_ev rfl rfl ?_; refine r_ev rfl rfl ?_; refine r_nn ?_; refine r_cond_false rfl ?_; refine r_skip ?_; refine r_then_normal ?_; refine r_sr ?_
    refine r_call rfl rfl (forms_spec g0) ?_
    rintro v g' own' ⟨rfl, bf2, rfl, rfl⟩ _
    refine r_publishRow (fun g2 hg2 hsl2 => ?_)
    obtain ⟨_, _, _, he2, hx2⟩ := hsl2.held (j := 0) (by decide)
    simp only [Value.slice.injEq, Option.some.injEq, Addr.mk.injEq, and_true, true_and] at he2
    obtain ⟨⟨rfl, rfl⟩, rfl⟩ := he2
    have hs2 := hs1.mono hg2
    have hle := Ghost.le_trans hg1 hg2
    refine r_ev rfl rfl ?_; refine r_indexAddr rfl rfl rfl rfl (by omega) ?_
    refine r_load rfl rfl (vs := formCells formList[i]) (rd_elem formCells_len hx2 hi) rfl ?_
    generalize formList[i] = f at hk hff ⊢
    obtain ⟨_, _, _, _, hcnt, hwl⟩ := hff
    clear hx2 hsl2 hx hsl
    refine r_alloc rfl (fun b5 => ?_)
    refine r_storeA 0 rfl rfl rfl rfl (by rfl) (by repeat' (first | exact rfl | assumption | refine all_cons ?_ ?_)) rfl ?_; refine r_nn ?_; refine r_seq ?_; refine r_sr ?_; refine r_fieldAddr rfl rfl ?_; refine r_loadB1 1 rfl rfl rfl rfl ?_; refine r_len_at rfl rfl (by assumption) ?_; refine r_fieldAddr rfl rfl ?_; refine r_loadB1 0 rfl rfl rfl rfl ?_; refine r_ev rfl rfl ?_; refine r_ev rfl rfl ?_
    refine r_gdec rfl rfl (fun hn => ?_) (fun hn => ?_)
    · refine r_pass rfl rfl rfl ?_; refine r_pass rfl rfl rfl ?_; refine r_pass rfl rfl rfl ?_; refine r_pass rfl rfl rfl ?_; refine r_pass rfl rfl rfl ?_; refine r_pass rfl rfl rfl ?_; refine r_ev rfl rfl ?_; refine r_nn ?_; refine r_cond_true rfl ?_; refine r_sr ?_; refine r_ev rfl rfl ?_; refine r_ev rfl rfl ?_; refine r_nn ?_; refine r_retc ?_; refine r_then_ret ?_
      refine r_shrink hE hle ?_
      refine r_ret2 [_] rfl (.tmp rfl) (.tmp rfl) (.cons _ (.cons _ (List.Sublist.refl _))) ⟨⟨⟨_, _, rfl, ?_⟩, rfl⟩, rfl⟩
      simp only
      rw [fmt_none (.inl (.inl (fun h => hn (by rw [h]))))]
      trivial
    have hn' : c.nums.length = f.cnt := by omega
    refine r_take rfl ?_; refine r_fieldAddr rfl rfl ?_; refine r_take rfl ?_; refine r_loadB1 1 rfl rfl rfl rfl ?_; refine r_tev rfl rfl rfl ?_; refine r_take rfl ?_; refine r_fieldAddr rfl rfl ?_; refine r_take rfl ?_; refine r_loadB1 0 rfl rfl rfl rfl ?_; refine r_take rfl ?_; refine r_v rfl (val_neq_bool rfl rfl (by kernel_rfl)) ?_; refine r_ev rfl rfl ?_; refine r_nn ?_
    refine r_condb rfl (fun htx => ?_) (fun htx => ?_)
    · refine r_sr ?_; refine r_ev rfl rfl ?_; refine r_ev rfl rfl ?_; refine r_nn ?_; refine r_retc ?_; refine r_then_ret ?_
      refine r_shrink hE hle ?_
      refine r_ret2 [_] rfl (.tmp rfl) (.tmp rfl) (.cons _ (.cons _ (List.Sublist.refl _))) ⟨⟨⟨_, _, rfl, ?_⟩, rfl⟩, rfl⟩
      simp only
      rw [fmt_none (.inl (.inr (by simpa using htx)))]
      trivial
    have htx' : decide (c.text ≠ []) = f.txt := by simpa using htx
    refine r_skip ?_; refine r_then_normal ?_; refine r_sr ?_; refine r_fieldAddr rfl rfl ?_; refine r_loadB1 0 rfl rfl rfl rfl ?_; refine r_ev rfl rfl ?_; refine r_nn ?_; refine r_seq ?_; refine r_sr ?_; refine r_fieldAddr rfl rfl ?_; refine r_loadB1 1 rfl rfl rfl rfl ?_; refine r_len_at rfl rfl (by assumption) ?_; refine r_ev rfl rfl ?_; refine r_nn ?_; refine r_block ?_
    refine r_loop (ι := Nat) (fun k => [(1, ptr b1 0), (5, ptr b5 0), (6, str (f.word ++ numsText (c.nums.take k))), (35, sl), (36, .int .i64 c.nums.length), (37, .int .i64 k)]) (fun _ => g2) (fun _ => [.blk b5 58 (formCells f), .blk b1 42 (cmdCells c sl), tabRes o])
      (fun k => k ≤ c.nums.length ∧ ∀ n ∈ c.nums.take k, 0 ≤ n ∧ n ≤ 999999) (fun k => c.nums.length - k) 0 ⟨by omega, by simp⟩ ⟨rfl, rfl, lkStr rfl (by simp [numsText]), rfl, rfl, rfl, trivial⟩ rfl rfl ?_
    rintro k ⟨hkl, hall⟩
    have hnl := numsText_len _ hall
    rw [List.length_take] at hnl
    refine r_sr ?_; refine r_ev rfl rfl ?_; refine r_nn ?_; refine r_seq ?_
    refine r_cond rfl (fun hlt => ?_) (fun hlt => ?_)
    · have hlt' : k < c.nums.length := by omega
      obtain ⟨bn, off, cap, rfl, hxn⟩ := hs2.held hlt'
      have hcell : g2 bn (off + k * 1) = some (.int .i64 c.nums[k]) := by rw [Nat.mul_one]; exact hxn k _ (by simp [ints, hlt'])
      have htk := List.take_succ_eq_append_getElem hlt'
      have hbad : ¬ (0 ≤ c.nums[k] ∧ c.nums[k] ≤ 999999) → formatForm f c = none := fun h => fmt_none (.inr fun h' => h (h' _ (List.getElem_mem hlt')))
      refine r_skip ?_; refine r_then_normal ?_; refine r_seq ?_; refine r_block ?_; refine r_sr ?_; refine r_indexAddr rfl rfl rfl rfl (by omega) ?_
      refine r_load1 rfl rfl (rd_g1 hcell) ?_
      refine r_ev rfl rfl ?_; refine r_nn ?_; refine r_seq ?_; refine r_sr ?_; refine r_ev rfl rfl ?_; refine r_ev rfl rfl ?_; refine r_ev rfl rfl ?_
      refine r_gdec rfl rfl (fun ha => ?_) (fun ha => ?_)
      · refine r_pass rfl rfl rfl ?_; refine r_pass rfl rfl rfl ?_; refine r_ev rfl rfl ?_; refine r_nn ?_; refine r_cond_true rfl ?_; refine r_sr ?_; refine r_ev rfl rfl ?_; refine r_ev rfl rfl ?_; refine r_nn ?_; refine r_retc ?_; refine r_then_ret ?_; refine r_in_ret ?_; refine r_then_ret ?_; refine r_then_ret ?_; refine r_in_ret ?_; refine r_then_ret ?_
        refine r_shrink hE hle ?_
        refine r_ret2 [_] rfl (.tmp rfl) (.tmp rfl) (.cons _ (.cons _ (List.Sublist.refl _))) ⟨⟨⟨_, _, rfl, ?_⟩, rfl⟩, rfl⟩
        simp only
        rw [hbad (by omega)]
        trivial
      refine r_tev rfl rfl rfl ?_; refine r_tev rfl rfl rfl ?_; refine r_ev rfl rfl ?_; refine r_nn ?_
      refine r_cond rfl (fun hb => ?_) (fun hb => ?_)
      · refine r_sr ?_; refine r_ev rfl rfl ?_; refine r_ev rfl rfl ?_; refine r_nn ?_; refine r_retc ?_; refine r_then_ret ?_; refine r_in_ret ?_; refine r_then_ret ?_; refine r_then_ret ?_; refine r_in_ret ?_; refine r_then_ret ?_
        refine r_shrink hE hle ?_
        refine r_ret2 [_] rfl (.tmp rfl) (.tmp rfl) (.cons _ (.cons _ (List.Sublist.refl _))) ⟨⟨⟨_, _, rfl, ?_⟩, rfl⟩, rfl⟩
        simp only
        rw [hbad (by omega)]
        trivial
      have h6 := itoa_six (show 0 ≤ c.nums[k] ∧ c.nums[k] ≤ 999999 by omega)
      refine r_skip ?_; refine r_then_normal ?_; refine r_region ?_; refine r_ev rfl rfl ?_; refine r_ev rfl rfl ?_
      refine r_callO 2 rfl rfl rfl (Number_spec g2 hp _ (by omega)) ?_
      refine r_add_str rfl rfl rfl (by rw [List.length_singleton]; omega) ?_
      refine r_add_str rfl rfl rfl (by rw [List.length_append, List.length_append, List.length_singleton]; omega) ?_
      refine r_ev rfl rfl ?_; refine r_nil ?_; refine r_in_normal ?_; refine r_then_normal ?_; refine r_region ?_; refine r_add rfl rfl rfl (by omega) ?_; refine r_ev rfl rfl ?_; refine r_nn ?_
      refine r_again (k + 1) ⟨by omega, ?_⟩ (by omega) ⟨rfl, rfl, lkStr rfl (by rw [htk, numsText_snoc]; simp), rfl, rfl, rfl, trivial⟩ rfl rfl
      intro n hn
      rw [htk] at hn
      rcases List.mem_append.1 hn with hn | hn
      · exact hall n hn
      · rw [List.mem_singleton] at hn
        subst hn; omega
    · have hk' : k = c.nums.length := by omega
      subst hk'
      rw [List.take_length] at hall hnl ⊢
      have hfs := fmt_some hn' htx' hall
      have hto : textOf f c = f.word ++ numsText c.nums ++ (if f.txt then 32 :: c.text else []) := rfl
      refine r_exit ?_; refine r_then_exit ?_; refine r_then_exit ?_; refine r_in_exit ?_; refine r_then_normal ?_; refine r_seq ?_; refine r_sr ?_; refine r_fieldAddr rfl rfl ?_; refine r_loadB1 0 rfl rfl rfl rfl ?_; refine r_nn ?_
      refine r_condb rfl (fun htt => ?_) (fun htt => ?_)
      · rw [if_pos htt] at hto
        refine r_region ?_; refine r_ev rfl rfl ?_; refine r_fieldAddr rfl rfl ?_; refine r_loadB1 1 rfl rfl rfl rfl ?_
        refine r_add_str rfl rfl rfl (by rw [List.length_singleton]; omega) ?_
        refine r_add_str rfl rfl rfl (by rw [List.length_append, List.length_append, List.length_singleton]; omega) ?_
        refine r_ev rfl rfl ?_; refine r_nn ?_; refine r_sr ?_; refine r_ev rfl rfl ?_; refine r_ev rfl rfl ?_; refine r_len_str rfl rfl ?_; refine r_ev rfl rfl ?_; refine r_ev rfl rfl ?_; refine r_ev rfl rfl ?_; refine r_nn ?_; refine r_retc ?_
        refine r_shrink hE hle ?_
        refine r_ret2 [_] rfl (.tmp rfl) (.tmp rfl) (.cons _ (.cons _ (List.Sublist.refl _))) ⟨⟨?_, rfl⟩, rfl⟩
        show writePost (formatForm f c) _
        rw [hfs, hto]
        exact wEnd (by simp)
      · rw [if_neg (by simp [htt]), List.append_nil] at hto
        refine r_skip ?_; refine r_then_normal ?_; refine r_sr ?_; refine r_ev rfl rfl ?_; refine r_ev rfl rfl ?_; refine r_len_str rfl rfl ?_; refine r_ev rfl rfl ?_; refine r_ev rfl rfl ?_; refine r_ev rfl rfl ?_; refine r_nn ?_; refine r_retc ?_
        refine r_shrink hE hle ?_
        refine r_ret2 [_] rfl (.tmp rfl) (.tmp rfl) (.cons _ (.cons _ (List.Sublist.refl _))) ⟨⟨?_, rfl⟩, rfl⟩
        show writePost (formatForm f c) _
        rw [hfs, hto]
        exact wEnd (by simp)
  · rw [hk]
    refine r_ev rfl rfl ?_; refine r_nn ?_; refine r_seq ?_; refine r_sr ?_; refine r_ev rfl rfl ?_; refine r_ev rfl rfl ?_; refine r_nn ?_; refine r_cond_true rfl ?_; refine r_sr ?_; refine r_ev rfl rfl ?_; refine r_ev rfl rfl ?_; refine r_nn ?_; refine r_retc ?_; refine r_then_ret ?_
    refine r_shrink hE (Ghost.le_trans hg1 (Ghost.le_refl _)) ?_
    exact r_ret2 [_] rfl (.tmp rfl) (.tmp rfl) (.cons _ (List.Sublist.refl _)) ⟨⟨⟨_, _, rfl, rfl⟩, rfl⟩, rfl⟩
def fmtS (c : Cmd) : Bytes := (formatCmd c).getD []
theorem Format_spec (g : Ghost) {o : Obj} (hp : PowTab o) (c : Cmd) (cv : Value) (hc : CmdAt g cv c) (ht : c.text.length ≤ 1000000) (hw : ∀ n ∈ c.nums, -9223372036854775808 ≤ n ∧ n ≤ 9223372036854775807) :
    PureO Tryd.prog 29 [cv] g (tabRes o) (str (fmtS c)) := by
  have hc' := hc
  obtain ⟨sl, rfl, h1, hs⟩ := hc'
  refine spec_of_run Tryd.func29 rfl Tryd.ntmps29 rfl fun E hE => ?_
  refine r_sr ?_
  refine r_box rfl rfl rfl (fun b1 => ?_)
  refine r_ev rfl rfl ?_; refine r_nn ?_; refine r_sr ?_; refine r_loadB 0 rfl rfl rfl (by rfl) ?_
  refine r_callSO 1 rfl rfl rfl (write_spec g hp c _ hc ht hw) ?_
  rintro v g' ⟨⟨s, b, rfl, hm⟩, rfl⟩ _
  unfold fmtS
  cases hf : formatCmd c with
  | none =>
    rw [hf] at hm
    subst hm
    refine r_ev rfl rfl ?_; refine r_ev rfl rfl ?_; refine r_ev rfl rfl ?_; refine r_ev rfl rfl ?_; refine r_ev rfl rfl ?_; refine r_nn ?_; refine r_seq ?_; refine r_sr ?_; refine r_ev rfl rfl ?_; refine r_ev rfl rfl ?_; refine r_nn ?_; refine r_cond_true rfl ?_; refine r_sr ?_; refine r_ev rfl rfl ?_; refine r_nn ?_; refine r_retc ?_; refine r_then_ret ?_
    exact r_ret1 [_] rfl rfl (.cons _ (List.Sublist.refl _)) ⟨rfl, rfl, rfl⟩
  | some t =>
    rw [hf] at hm
    obtain ⟨rfl, rfl⟩ := hm
    refine r_ev rfl rfl ?_; refine r_ev rfl rfl ?_; refine r_ev rfl rfl ?_; refine r_ev rfl rfl ?_; refine r_ev rfl rfl ?_; refine r_nn ?_; refine r_seq ?_; refine r_sr ?_; refine r_ev rfl rfl ?_; refine r_ev rfl rfl ?_; refine r_nn ?_; refine r_cond_false rfl ?_; refine r_skip ?_; refine r_then_normal ?_; refine r_sr ?_; refine r_ev rfl rfl ?_; refine r_ev rfl rfl ?_; refine r_nn ?_; refine r_retc ?_
    exact r_ret1 [_] rfl rfl (.cons _ (List.Sublist.refl _)) ⟨rfl, rfl, rfl⟩
theorem Valid_spec (g : Ghost) {o : Obj} (hp : PowTab o) (c : Cmd) (cv : Value) (hc : CmdAt g cv c) (ht : c.text.length ≤ 1000000) (hw : ∀ n ∈ c.nums, -9223372036854775808 ≤ n ∧ n ≤ 9223372036854775807) :
    PureO Tryd.prog 30 [cv] g (tabRes o) (.bool (formatCmd c).isSome) := by
  have hc' := hc
  obtain ⟨sl, rfl, h1, hs⟩ := hc'
  refine spec_of_run Tryd.func30 rfl Tryd.ntmps30 rfl fun E hE => ?_
  refine r_sr ?_
  refine r_box rfl rfl rfl (fun b1 => ?_)
  refine r_ev rfl rfl ?_; refine r_nn ?_; refine r_sr ?_; refine r_loadB 0 rfl rfl rfl (by rfl) ?_
  refine r_callSO 1 rfl rfl rfl (write_spec g hp c _ hc ht hw) ?_
  rintro v g' ⟨⟨s, b, rfl, hm⟩, rfl⟩ _
  cases hf : formatCmd c with
  | none =>
    rw [hf] at hm
    subst hm
    refine r_ev rfl rfl ?_; refine r_ev rfl rfl ?_; refine r_ev rfl rfl ?_; refine r_ev rfl rfl ?_; refine r_ev rfl rfl ?_; refine r_nn ?_; refine r_sr ?_; refine r_ev rfl rfl ?_; refine r_ev rfl rfl ?_; refine r_nn ?_; refine r_retc ?_
    exact r_ret1 [_] rfl rfl (.cons _ (List.Sublist.refl _)) ⟨rfl, rfl, rfl⟩
  | some t =>
    rw [hf] at hm
    obtain ⟨rfl, rfl⟩ := hm
    refine r_ev rfl rfl ?_; refine r_ev rfl rfl ?_; refine r_ev rfl rfl ?_; refine r_ev rfl rfl ?_; refine r_ev rfl rfl ?_; refine r_nn ?_; refine r_sr ?_; refine r_ev rfl rfl ?_; refine r_ev rfl rfl ?_; refine r_nn ?_; refine r_retc ?_
    exact r_ret1 [_] rfl rfl (.cons _ (List.Sublist.refl _)) ⟨rfl, rfl, rfl⟩
theorem fmt_ne {c : Cmd} {t : Bytes} (h : formatCmd c = some t) : t ≠ [] := by
  have hp := parse_format h
  intro h0
  subst h0
  unfold parseCmd at hp
  rw [if_neg (by decide)] at hp
  have : formOf (cutSp []).1 = none := by decide
  rw [this] at hp
  cases hp
end Go.Proofs.YtogmbpepdemdkaaDoor

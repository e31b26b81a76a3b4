/- The walks of the reference's reader (typedholesref5): Fail, Skip, Need, Word, New. -/
import Derived.Test.YtblbbjhbigpgnaaDoorTypF
namespace Go.Proofs.YtblbbjhbigpgnaaDoor
open Go Go.Eng Go.Th Go.Proofs
set_option maxRecDepth 10000
set_option maxHeartbeats 4000000
attribute [local irreducible] wpList Code.wp Run bodyPost Go.Eng.Ends Exit.then Exit.inBlock Again Wq Kq
theorem slForm2 {g : Ghost} {size : Nat} {v : Value} {n : Nat} {xs : List Value} (h : SlAt g size v n xs) : ∃ a c, v = .slice a n c := by
  rcases h.2 with ⟨⟨a, c, rfl⟩, h0⟩ | ⟨b, off, cap, rfl, _⟩
  · exact ⟨_, _, by rw [h0]⟩
  · exact ⟨_, _, rfl⟩
theorem New5_spec (g : Ghost) (l : List Tok) (lv : Value) (hs : ToksAt g lv l) (i : Int) : Eng.Spec Tryd.prog 40 [lv, .int .i64 i] g [] fun v g' own' => g' = g ∧ ∃ b, v = ptr b 0 ∧ own' = [rdB b lv (.good (idxOf l.length i))] := by
  obtain ⟨a, c, rfl⟩ := slForm2 hs
  refine spec_of_run Tryd.func40 rfl Tryd.ntmps40 rfl fun E hE => ?_
  refine r_sr ?_; refine r_ev rfl rfl ?_; refine r_nn ?_; refine r_seq ?_; refine r_sr ?_; refine r_ev rfl rfl ?_; refine r_ev rfl rfl ?_; refine r_ev rfl rfl ?_
  refine r_gdec rfl rfl (fun h1 => ?_) (fun h1 => ?_)
  · have hx : idxOf l.length i = l.length := by simp [idxOf, h1]
    refine r_pass rfl rfl rfl ?_; refine r_pass rfl rfl rfl ?_; refine r_pass rfl rfl rfl ?_; refine r_pass rfl rfl rfl ?_; refine r_ev rfl rfl ?_; refine r_nn ?_; refine r_cond_true rfl ?_; refine r_region ?_; refine r_ev rfl rfl ?_; refine r_len_sl rfl rfl ?_; refine r_ev rfl rfl ?_; refine r_nn ?_; refine r_sr ?_; refine r_ev rfl rfl ?_; refine r_ev rfl rfl ?_; refine r_build rfl rfl (by rfl) ?_
    refine r_box rfl rfl rfl (fun b => ?_)
    refine r_ev rfl rfl ?_; refine r_nn ?_; refine r_retc ?_
    exact r_ret1 [_] rfl rfl (List.Sublist.refl _) ⟨rfl, b, rfl, by rw [hx]; rfl⟩
  refine r_tev rfl rfl rfl ?_; refine r_tev rfl rfl rfl ?_; refine r_take rfl ?_; refine r_len_sl rfl rfl ?_; refine r_tev rfl rfl rfl ?_; refine r_ev rfl rfl ?_; refine r_nn ?_
  refine r_cond rfl (fun h2 => ?_) (fun h2 => ?_)
  · have hx : idxOf l.length i = l.length := by simp only [idxOf, h1, if_false]; omega
    refine r_region ?_; refine r_ev rfl rfl ?_; refine r_len_sl rfl rfl ?_; refine r_ev rfl rfl ?_; refine r_nn ?_; refine r_sr ?_; refine r_ev rfl rfl ?_; refine r_ev rfl rfl ?_; refine r_build rfl rfl (by rfl) ?_
    refine r_box rfl rfl rfl (fun b => ?_)
    refine r_ev rfl rfl ?_; refine r_nn ?_; refine r_retc ?_
    exact r_ret1 [_] rfl rfl (List.Sublist.refl _) ⟨rfl, b, rfl, by rw [hx]; rfl⟩
  · obtain ⟨k, rfl⟩ : ∃ k : Nat, i = k := ⟨i.toNat, by omega⟩
    have hx : idxOf l.length k = k := by simp only [idxOf, h1, if_false]; omega
    refine r_skip ?_; refine r_then_normal ?_; refine r_sr ?_; refine r_ev rfl rfl ?_; refine r_ev rfl rfl ?_; refine r_build rfl rfl (by rfl) ?_
    refine r_box rfl rfl rfl (fun b => ?_)
    refine r_ev rfl rfl ?_; refine r_nn ?_; refine r_retc ?_
    exact r_ret1 [_] rfl rfl (List.Sublist.refl _) ⟨rfl, b, rfl, by rw [hx]; rfl⟩
theorem Fail5_spec (g : Ghost) (l : List Tok) (hb : TB l) (lv : Value) (hs : ToksAt g lv l) (b : Nat) (s : RS) (_hk : s.ok l) : SpecL Tryd.prog 76 [ptr b 0] g (rdB b lv s) fun _ g' r' => g' = g ∧ r' = rdB b lv (s.fail l) := by
  cases s with
  | bad i p =>
    refine spec_of_run Tryd.func76 rfl Tryd.ntmps76 rfl fun E hE => ?_
    refine r_seq ?_; refine r_sr ?_; refine r_ev rfl rfl ?_; refine r_ev rfl rfl ?_; refine r_fieldAddr rfl rfl ?_; refine r_loadB1 0 rfl rfl rfl rfl ?_; refine r_nn ?_; refine r_cond_true rfl ?_; refine r_retc ?_; refine r_then_ret ?_
    exact r_ret0 [_] rfl (List.Sublist.refl _) ⟨_, rfl, rfl, rfl⟩
  | good i =>
    refine spec_of_run Tryd.func76 rfl Tryd.ntmps76 rfl fun E hE => ?_
    refine r_seq ?_; refine r_sr ?_; refine r_ev rfl rfl ?_; refine r_ev rfl rfl ?_; refine r_fieldAddr rfl rfl ?_; refine r_loadB1 0 rfl rfl rfl rfl ?_; refine r_nn ?_; refine r_cond_false rfl ?_; refine r_skip ?_; refine r_then_normal ?_; refine r_sr ?_; refine r_ev rfl rfl ?_; refine r_ev rfl rfl ?_; refine r_fieldAddr rfl rfl ?_; refine r_store1 0 rfl rfl rfl rfl rfl rfl ?_; refine r_nn ?_; refine r_block ?_; refine r_seq ?_
    refine r_qregion mixed (by kernel_rfl) ?_
    refine q_ev rfl rfl ?_; refine q_ev rfl rfl ?_; refine q_v rfl (val_fieldAddr rfl) ?_; refine q_v rfl (val_loadB1 0 rfl rfl rfl) ?_; refine q_ev rfl rfl ?_; refine q_ev rfl rfl ?_; refine q_v rfl (val_fieldAddr rfl) ?_; refine q_v rfl (val_loadB1 0 rfl rfl rfl) ?_; refine q_v rfl (val_len_at rfl (by assumption)) ?_; refine q_ev rfl rfl ?_; refine q_ev rfl rfl ?_; refine q_end ?_; refine r_then_normal ?_
    refine r_cond rfl (fun hlt => ?_) (fun hlt => ?_)
    · have hlt' : i < l.length := by omega
      have hf : failPos l i = l[i].pos := by unfold failPos; rw [toks_some hlt']
      obtain ⟨b0, off, cap, rfl, hx⟩ := hs.held hlt'
      skip
      refine s_region 14 mixed (by kernel_rfl) ?_
      refine s_v rfl ⟨_, (val_ev rfl), ?_⟩; refine s_v rfl ⟨_, (val_ev rfl), ?_⟩; refine s_v rfl ⟨_, (val_ev rfl), ?_⟩; refine s_v rfl ⟨_, (val_fieldAddr rfl), ?_⟩; refine s_v rfl ⟨_, (val_loadB1 0 rfl rfl rfl), ?_⟩; refine s_v rfl ⟨_, (val_ev rfl), ?_⟩; refine s_v rfl ⟨_, (val_ev rfl), ?_⟩; refine s_v rfl ⟨_, (val_fieldAddr rfl), ?_⟩; refine s_v rfl ⟨_, (val_loadB1 0 rfl rfl rfl), ?_⟩; refine s_v rfl ⟨_, (val_indexAddr rfl rfl rfl (by omega)), ?_⟩; refine s_v rfl ⟨_, (val_fieldAddr rfl), ?_⟩
      refine s_v rfl ⟨_, val_load1 rfl (SlAt.cell tokCells_len hx hlt' 2 rfl), ?_⟩
      refine s_v rfl ⟨_, (val_ev rfl), ?_⟩; refine s_v rfl ⟨_, (val_fieldAddr rfl), ?_⟩; refine s_end ?_
      refine r_store1 0 rfl rfl rfl rfl rfl rfl ?_; refine r_nil ?_; refine r_in_normal ?_; refine r_fin_n ?_
      exact r_ret0 [_] rfl (List.Sublist.refl _) ⟨_, rfl, rfl, by show _ = rdB b _ (.bad i (failPos l i)); rw [hf]; rfl⟩
    · have hn : l[i]? = none := List.getElem?_eq_none (by omega)
      refine r_sr ?_; refine r_ev rfl rfl ?_; refine r_ev rfl rfl ?_; refine r_fieldAddr rfl rfl ?_; refine r_loadB1 0 rfl rfl rfl rfl ?_; refine r_len_at rfl rfl (by assumption) ?_; refine r_ev rfl rfl ?_; refine r_ev rfl rfl ?_; refine r_nn ?_
      refine r_cond rfl (fun h0 => ?_) (fun h0 => ?_)
      · have h0' : l.length - 1 < l.length := by omega
        have hb1 := hb.1
        have hb2 := hb.2 _ (List.getElem_mem h0')
        obtain ⟨b0, off, cap, rfl, hx⟩ := hs.held h0'
        have hf : failPos l i = l[l.length - 1].pos + l[l.length - 1].text.length := by
          unfold failPos; rw [hn, List.getLast?_eq_getElem?, toks_some h0']
        refine r_seq ?_
        refine h_beginE [] mixed (fun hG => ?_)
        refine h_takeX 0 rfl (by kernel_rfl) rfl hG (by first | exact Ghost.le_refl _ | assumption) (by repeat' (first | exact List.nil_sublist _ | refine List.Sublist.cons_cons _ ?_ | refine List.Sublist.cons _ ?_)) ?_; refine ⟨_, (val_ev rfl), ?_⟩; refine h_takeX 1 rfl (by kernel_rfl) rfl hG (by first | exact Ghost.le_refl _ | assumption) (by repeat' (first | exact List.nil_sublist _ | refine List.Sublist.cons_cons _ ?_ | refine List.Sublist.cons _ ?_)) ?_; refine ⟨_, (val_ev rfl), ?_⟩; refine h_takeX 2 rfl (by kernel_rfl) rfl hG (by first | exact Ghost.le_refl _ | assumption) (by repeat' (first | exact List.nil_sublist _ | refine List.Sublist.cons_cons _ ?_ | refine List.Sublist.cons _ ?_)) ?_; refine ⟨_, (val_fieldAddr rfl), ?_⟩; refine h_takeX 3 rfl (by kernel_rfl) rfl hG (by first | exact Ghost.le_refl _ | assumption) (by repeat' (first | exact List.nil_sublist _ | refine List.Sublist.cons_cons _ ?_ | refine List.Sublist.cons _ ?_)) ?_; refine ⟨_, (val_loadB1 0 rfl rfl rfl), ?_⟩; refine h_takeX 4 rfl (by kernel_rfl) rfl hG (by first | exact Ghost.le_refl _ | assumption) (by repeat' (first | exact List.nil_sublist _ | refine List.Sublist.cons_cons _ ?_ | refine List.Sublist.cons _ ?_)) ?_; refine ⟨_, (val_ev rfl), ?_⟩; refine h_takeX 5 rfl (by kernel_rfl) rfl hG (by first | exact Ghost.le_refl _ | assumption) (by repeat' (first | exact List.nil_sublist _ | refine List.Sublist.cons_cons _ ?_ | refine List.Sublist.cons _ ?_)) ?_; refine ⟨_, (val_ev rfl), ?_⟩; refine h_takeX 6 rfl (by kernel_rfl) rfl hG (by first | exact Ghost.le_refl _ | assumption) (by repeat' (first | exact List.nil_sublist _ | refine List.Sublist.cons_cons _ ?_ | refine List.Sublist.cons _ ?_)) ?_; refine ⟨_, (val_fieldAddr rfl), ?_⟩; refine h_takeX 7 rfl (by kernel_rfl) rfl hG (by first | exact Ghost.le_refl _ | assumption) (by repeat' (first | exact List.nil_sublist _ | refine List.Sublist.cons_cons _ ?_ | refine List.Sublist.cons _ ?_)) ?_; refine ⟨_, (val_loadB1 0 rfl rfl rfl), ?_⟩; refine h_takeX 8 rfl (by kernel_rfl) rfl hG (by first | exact Ghost.le_refl _ | assumption) (by repeat' (first | exact List.nil_sublist _ | refine List.Sublist.cons_cons _ ?_ | refine List.Sublist.cons _ ?_)) ?_; refine ⟨_, (val_len_sl rfl), ?_⟩; refine h_takeX 9 rfl (by kernel_rfl) rfl hG (by first | exact Ghost.le_refl _ | assumption) (by repeat' (first | exact List.nil_sublist _ | refine List.Sublist.cons_cons _ ?_ | refine List.Sublist.cons _ ?_)) ?_; refine ⟨_, (val_sub_ rfl rfl (by omega)), ?_⟩
        refine h_takeX 10 rfl (by kernel_rfl) rfl hG (by first | exact Ghost.le_refl _ | assumption) (by repeat' (first | exact List.nil_sublist _ | refine List.Sublist.cons_cons _ ?_ | refine List.Sublist.cons _ ?_)) ⟨_, (val_indexAddr (j := l.length - 1) rfl rfl (by omega) h0'), ?_⟩
        refine h_takeX 11 rfl (by kernel_rfl) rfl hG (by first | exact Ghost.le_refl _ | assumption) (by repeat' (first | exact List.nil_sublist _ | refine List.Sublist.cons_cons _ ?_ | refine List.Sublist.cons _ ?_)) ⟨_, (val_load rfl (toks_rd hx h0') rfl), ?_⟩
        refine h_one 12 (by kernel_rfl) rfl ?_
        refine r_alloc rfl (fun b2 => ?_)
        refine r_nn ?_
        refine h_kept hG (by first | exact Ghost.le_refl _ | assumption) (by repeat' (first | exact List.nil_sublist _ | refine List.Sublist.cons_cons _ ?_ | refine List.Sublist.cons _ ?_)) ?_
        refine h_one 13 (by kernel_rfl) rfl ?_
        refine r_storeA 0 rfl rfl rfl rfl (by rfl) (by repeat' (first | exact rfl | assumption | refine all_cons ?_ ?_)) rfl ?_; refine r_nn ?_
        refine h_kept hG (by first | exact Ghost.le_refl _ | assumption) (by repeat' (first | exact List.nil_sublist _ | refine List.Sublist.cons_cons _ ?_ | refine List.Sublist.cons _ ?_)) ?_
        refine h_done (by kernel_rfl) ?_
        refine r_then_normal ?_; refine r_region ?_; refine r_ev rfl rfl ?_; refine r_fieldAddr rfl rfl ?_; refine r_loadB1 0 rfl rfl rfl rfl ?_; refine r_fieldAddr rfl rfl ?_; refine r_loadB1 0 rfl rfl rfl rfl ?_; refine r_len_str rfl rfl ?_; refine r_add rfl rfl rfl (by omega) ?_; refine r_ev rfl rfl ?_; refine r_fieldAddr rfl rfl ?_; refine r_store1 1 rfl rfl rfl rfl rfl rfl ?_; refine r_nil ?_; refine r_in_normal ?_; refine r_fin_n ?_
        exact r_ret0 [_] rfl (.cons _ (List.Sublist.refl _)) ⟨_, rfl, rfl, by show _ = rdB b _ (.bad i (failPos l i)); rw [hf]; rfl⟩
      · have hf : failPos l i = 0 := by
          unfold failPos; rw [hn, List.getLast?_eq_getElem?, List.getElem?_eq_none (by omega)]
        refine r_skip ?_; refine r_in_normal ?_; refine r_fin_n ?_
        exact r_ret0 [_] rfl (List.Sublist.refl _) ⟨_, rfl, rfl, by show _ = rdB b _ (.bad i (failPos l i)); rw [hf]; rfl⟩
theorem Skip5_spec (g : Ghost) (l : List Tok) (hb : TB l) (lv : Value) (hs : ToksAt g lv l) (b : Nat) (s : RS) (hk : s.ok l) (w : Bytes) : SpecL Tryd.prog 60 [ptr b 0, str w] g (rdB b lv s) fun v g' r' => v = .bool (s.isIs l w) ∧ g' = g ∧ r' = rdB b lv (s.skip l w) := by
  have hb1 := hb.1
  obtain ⟨a, m, c, rfl⟩ := SlAt.form hs
  refine spec_of_run Tryd.func60 rfl Tryd.ntmps60 rfl fun E hE => ?_
  refine r_sr ?_; refine r_ev rfl rfl ?_; refine r_nn ?_; refine r_seq ?_; refine r_sr ?_; refine r_ev rfl rfl ?_; refine r_ev rfl rfl ?_
  refine r_callO 0 rfl rfl rfl (Is5_spec g l _ hs b s w) ?_
  cases s with
  | bad i p =>
    refine r_nn ?_; refine r_cond_false rfl ?_; refine r_skip ?_; refine r_then_normal ?_; refine r_sr ?_; refine r_ev rfl rfl ?_; refine r_nn ?_; refine r_retc ?_
    exact r_ret1 [_] rfl rfl (List.Sublist.refl _) ⟨_, rfl, rfl, rfl, rfl⟩
  | good i =>
    have hi : i ≤ l.length := hk
    cases hq : isAt l i w with
    | false =>
      have e1 : RS.isIs l w (.good i) = false := hq
      have e2 : RS.skip l w (.good i) = .good i := by simp [RS.skip, hq]
      rw [e1, e2]
      refine r_nn ?_; refine r_cond_false rfl ?_; refine r_skip ?_; refine r_then_normal ?_; refine r_sr ?_; refine r_ev rfl rfl ?_; refine r_nn ?_; refine r_retc ?_
      exact r_ret1 [_] rfl rfl (List.Sublist.refl _) ⟨_, rfl, rfl, rfl, rfl⟩
    | true =>
      have e1 : RS.isIs l w (.good i) = true := hq
      have e2 : RS.skip l w (.good i) = .good (i + 1) := by simp [RS.skip, hq]
      rw [e1, e2]
      refine r_nn ?_; refine r_cond_true rfl ?_; refine r_sr ?_; refine r_ev rfl rfl ?_; refine r_ev rfl rfl ?_; refine r_fieldAddr rfl rfl ?_; refine r_loadB1 0 rfl rfl rfl rfl ?_; refine r_add rfl rfl rfl (by omega) ?_; refine r_ev rfl rfl ?_; refine r_fieldAddr rfl rfl ?_; refine r_store1 0 rfl rfl rfl rfl rfl rfl ?_; refine r_nn ?_; refine r_sr ?_; refine r_ev rfl rfl ?_; refine r_nn ?_; refine r_retc ?_; refine r_then_ret ?_
      exact r_ret1 [_] rfl rfl (List.Sublist.refl _) ⟨_, rfl, rfl, rfl, rfl⟩
theorem Need5_spec (g : Ghost) (l : List Tok) (hb : TB l) (lv : Value) (hs : ToksAt g lv l) (b : Nat) (s : RS) (hk : s.ok l) (w : Bytes) : SpecL Tryd.prog 63 [ptr b 0, str w] g (rdB b lv s) fun _ g' r' => g' = g ∧ r' = rdB b lv (s.need l w) := by
  refine spec_of_run Tryd.func63 rfl Tryd.ntmps63 rfl fun E hE => ?_
  refine r_sr ?_; refine r_ev rfl rfl ?_; refine r_ev rfl rfl ?_
  refine r_callL 0 rfl rfl rfl (Skip5_spec g l hb lv hs b s hk w) ?_
  rintro v g' r' ⟨rfl, rfl, rfl⟩ _
  cases s with
  | bad i p =>
    refine r_ev rfl rfl ?_; refine r_nn ?_; refine r_cond_true rfl ?_; refine r_region ?_; refine r_ev rfl rfl ?_
    refine r_callL 0 rfl rfl rfl (Fail5_spec g' l hb lv hs b (.bad i p) hk) ?_
    rintro v g' r' ⟨rfl, rfl⟩ _
    refine r_nil ?_; refine r_fin_n ?_
    exact r_ret0 [_] rfl (List.Sublist.refl _) ⟨_, rfl, rfl, rfl⟩
  | good i =>
    cases hq : isAt l i w with
    | false =>
      have e1 : RS.isIs l w (.good i) = false := hq
      have e2 : RS.skip l w (.good i) = .good i := by simp [RS.skip, hq]
      have e3 : RS.need l w (.good i) = .bad i (failPos l i) := by simp [RS.need, hq]
      rw [e1, e2, e3]
      refine r_ev rfl rfl ?_; refine r_nn ?_; refine r_cond_true rfl ?_; refine r_region ?_; refine r_ev rfl rfl ?_
      refine r_callL 0 rfl rfl rfl (Fail5_spec g' l hb lv hs b (.good i) hk) ?_
      rintro v g' r' ⟨rfl, rfl⟩ _
      refine r_nil ?_; refine r_fin_n ?_
      exact r_ret0 [_] rfl (List.Sublist.refl _) ⟨_, rfl, rfl, rfl⟩
    | true =>
      have e1 : RS.isIs l w (.good i) = true := hq
      have e2 : RS.skip l w (.good i) = .good (i + 1) := by simp [RS.skip, hq]
      have e3 : RS.need l w (.good i) = .good (i + 1) := by simp [RS.need, hq]
      rw [e1, e2, e3]
      refine r_ev rfl rfl ?_; refine r_nn ?_; refine r_cond_false rfl ?_; refine r_skip ?_; refine r_fin_n ?_
      exact r_ret0 [_] rfl (List.Sublist.refl _) ⟨_, rfl, rfl, rfl⟩
theorem Word5_spec (g : Ghost) (l : List Tok) (hb : TB l) (lv : Value) (hs : ToksAt g lv l) (b : Nat) (s : RS) (hk : s.ok l) (k : Int) : SpecL Tryd.prog 58 [ptr b 0, .int .i64 k] g (rdB b lv s) fun v g' r' => v = str (s.text l k) ∧ g' = g ∧ r' = rdB b lv (s.word l k) := by
  have hb1 := hb.1
  refine spec_of_run Tryd.func58 rfl Tryd.ntmps58 rfl fun E hE => ?_
  refine r_sr ?_; refine r_ev rfl rfl ?_; refine r_nn ?_; refine r_seq ?_; refine r_sr ?_; refine r_ev rfl rfl ?_; refine r_ev rfl rfl ?_
  refine r_callO 0 rfl rfl rfl (Kind5_spec g l lv hs b s k) ?_
  cases s with
  | bad i p =>
    refine r_ev rfl rfl ?_; refine r_nn ?_; refine r_cond_true rfl ?_; refine r_sr ?_; refine r_ev rfl rfl ?_
    refine r_callL 0 rfl rfl rfl (Fail5_spec g l hb lv hs b (.bad i p) hk) ?_
    rintro v g' r' ⟨rfl, rfl⟩ _
    refine r_nn ?_; refine r_sr ?_; refine r_ev rfl rfl ?_; refine r_nn ?_; refine r_retc ?_; refine r_then_ret ?_
    exact r_ret1 [_] rfl rfl (List.Sublist.refl _) ⟨_, rfl, rfl, rfl, rfl⟩
  | good i =>
    have hi : i ≤ l.length := hk
    cases hq : kindAt l i k with
    | false =>
      have e1 : RS.kindIs l k (.good i) = false := hq
      have e2 : RS.word l k (.good i) = .bad i (failPos l i) := by simp [RS.word, hq]
      have e3 : RS.text l k (.good i) = [] := by
        unfold kindAt at hq
        unfold RS.text
        simp only
        cases hl : l[i]? with
        | none => rfl
        | some t => rw [hl] at hq; simp only [decide_eq_false_iff_not] at hq; simp only; rw [if_neg hq]
      rw [e1, e2, e3]
      refine r_ev rfl rfl ?_; refine r_nn ?_; refine r_cond_true rfl ?_; refine r_sr ?_; refine r_ev rfl rfl ?_
      refine r_callL 0 rfl rfl rfl (Fail5_spec g l hb lv hs b (.good i) hk) ?_
      rintro v g' r' ⟨rfl, rfl⟩ _
      refine r_nn ?_; refine r_sr ?_; refine r_ev rfl rfl ?_; refine r_nn ?_; refine r_retc ?_; refine r_then_ret ?_
      exact r_ret1 [_] rfl rfl (List.Sublist.refl _) ⟨_, rfl, rfl, rfl, rfl⟩
    | true =>
      have hlt : i < l.length := by
        unfold kindAt at hq
        cases hl : l[i]? with
        | none => rw [hl] at hq; cases hq
        | some t => exact (List.getElem?_eq_some_iff.1 hl).1
      have e1 : RS.kindIs l k (.good i) = true := hq
      have e2 : RS.word l k (.good i) = .good (i + 1) := by simp [RS.word, hq]
      have e3 : RS.text l k (.good i) = l[i].text := by
        unfold kindAt at hq
        show (match l[i]? with | some t => if t.kind = k then t.text else [] | none => []) = _
        rw [toks_some hlt] at hq ⊢
        simp only [decide_eq_true_eq] at hq
        simp only
        rw [if_pos hq]
      obtain ⟨b0, off, cap, rfl, hx⟩ := hs.held hlt
      rw [e1, e2, e3]
      refine r_ev rfl rfl ?_; refine r_nn ?_; refine r_cond_false rfl ?_; refine r_skip ?_; refine r_then_normal ?_; refine r_sr ?_; refine r_ev rfl rfl ?_; refine r_ev rfl rfl ?_; refine r_fieldAddr rfl rfl ?_; refine r_loadB1 0 rfl rfl rfl rfl ?_; refine r_add rfl rfl rfl (by omega) ?_; refine r_ev rfl rfl ?_; refine r_fieldAddr rfl rfl ?_; refine r_store1 0 rfl rfl rfl rfl rfl rfl ?_; refine r_nn ?_; refine r_seq ?_
      refine r_qregion mixed (by kernel_rfl) ?_
      refine q_ev rfl rfl ?_; refine q_ev rfl rfl ?_; refine q_v rfl (val_fieldAddr rfl) ?_; refine q_v rfl (val_loadB1 0 rfl rfl rfl) ?_; refine q_ev rfl rfl ?_; refine q_ev rfl rfl ?_; refine q_v rfl (val_fieldAddr rfl) ?_; refine q_v rfl (val_loadB1 0 rfl rfl rfl) ?_; refine q_v rfl (val_sub_ rfl rfl (by omega)) ?_
      refine q_v rfl (val_indexAddr (j := i) rfl rfl (by omega) hlt) ?_
      refine q_v rfl (val_fieldAddr rfl) ?_
      refine q_v rfl (val_load1 rfl (SlAt.cell tokCells_len hx hlt 1 rfl)) ?_
      refine q_ev rfl rfl ?_; refine q_end ?_; refine r_then_normal ?_; refine r_retc ?_
      exact r_ret1 [_] rfl rfl (List.Sublist.refl _) ⟨_, rfl, rfl, rfl, rfl⟩
end Go.Proofs.YtblbbjhbigpgnaaDoor
-- sum 6646c16645bc4d0d

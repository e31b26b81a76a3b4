/- The walks of package readexpr: the small methods of its reader. -/
import Derived.Test.YtcapgcohhgjngaaGreatDoorExG
import Derived.Test.YtcapgcohhgjngaaGreatDoorK2
import Derived.Test.YtcapgcohhgjngaaGreatDoorK3
namespace Go.Proofs.YtcapgcohhgjngaaGreatDoor
open Go Go.Eng Go.Th Go.Proofs
set_option maxRecDepth 10000
set_option maxHeartbeats 4000000
attribute [local irreducible] wpList Code.wp Run bodyPost Go.Eng.Ends Exit.then Exit.inBlock Again Wq Kq
/-- The program's reader of expressions: it stands at an index; after an error it holds an offset. -/
abbrev rdE (b : Nat) (lv : Value) (i : Nat) (p : Int) : Res := .blk b 140 [lv, .int .i64 i, .int .i64 p]
abbrev missV (w : Bytes) : Value := .iface 171 (.agg #[str w])
abbrev unexpV : Value := .iface 143 (.agg #[])
theorem tokAt_get {l : List Tok} {i : Nat} (h : i < l.length) (k : Int) (w : Bytes) : tokAt l i k w = (decide (l[i].kind = k) && decide (l[i].text = w)) := by unfold tokAt; rw [toks_some h]
theorem tokAt_end {l : List Tok} {i : Nat} (h : ¬ i < l.length) (k : Int) (w : Bytes) : tokAt l i k w = false := by unfold tokAt; rw [List.getElem?_eq_none (by omega)]
theorem enext_spec (g : Ghost) (l : List Tok) (lv : Value) (hs : ToksAt g lv l) (b i : Nat) (p k : Int) (w : Bytes) : PureO Tryz.prog 141 [ptr b 0, .int .i64 k, str w] g (rdE b lv i p) (.bool (tokAt l i k w)) := by
  refine spec_of_run Tryz.func141 rfl Tryz.ntmps141 rfl fun E hE => ?_
  refine r_sr ?_; refine r_ev rfl rfl ?_; refine r_nn ?_; refine r_seq ?_
  refine r_qregion mixed (by kernel_rfl) ?_
  refine q_ev rfl rfl ?_; refine q_ev rfl rfl ?_; refine q_v rfl (val_fieldAddr rfl) ?_; refine q_v rfl (val_loadB1 0 rfl rfl rfl) ?_; refine q_ev rfl rfl ?_; refine q_ev rfl rfl ?_; refine q_v rfl (val_fieldAddr rfl) ?_; refine q_v rfl (val_loadB1 0 rfl rfl rfl) ?_; refine q_v rfl (val_len_at rfl (by assumption)) ?_; refine q_ev rfl rfl ?_; refine q_ev rfl rfl ?_
  refine q_gdec rfl rfl (fun hlt => ?_) (fun hlt => ?_)
  · have hlt' : i < l.length := by omega
    have hk := tokAt_get hlt' k w
    obtain ⟨b0, off, cap, rfl, hx⟩ := hs.held hlt'
    refine q_tev rfl rfl rfl ?_; refine q_tev rfl rfl rfl ?_; refine q_take rfl ?_; refine q_v rfl (val_fieldAddr rfl) ?_; refine q_take rfl ?_; refine q_v rfl (val_loadB1 0 rfl rfl rfl) ?_; refine q_tev rfl rfl rfl ?_; refine q_tev rfl rfl rfl ?_; refine q_take rfl ?_; refine q_v rfl (val_fieldAddr rfl) ?_; refine q_take rfl ?_; refine q_v rfl (val_loadB1 0 rfl rfl rfl) ?_; refine q_take rfl ?_; refine q_v rfl (val_indexAddr rfl rfl rfl (by omega)) ?_; refine q_take rfl ?_; refine q_v rfl (val_fieldAddr rfl) ?_; refine q_take rfl ?_
    refine q_v rfl (val_load1 rfl (SlAt.cell tokCells_len hx hlt' 0 rfl)) ?_
    refine q_tev rfl rfl rfl ?_; refine q_tev rfl rfl rfl ?_; refine q_ev rfl rfl ?_; refine q_ev rfl rfl ?_
    refine q_gdec rfl rfl (fun h5 => ?_) (fun h5 => ?_)
    · refine q_tev rfl rfl rfl ?_; refine q_tev rfl rfl rfl ?_; refine q_take rfl ?_; refine q_v rfl (val_fieldAddr rfl) ?_; refine q_take rfl ?_; refine q_v rfl (val_loadB1 0 rfl rfl rfl) ?_; refine q_tev rfl rfl rfl ?_; refine q_tev rfl rfl rfl ?_; refine q_take rfl ?_; refine q_v rfl (val_fieldAddr rfl) ?_; refine q_take rfl ?_; refine q_v rfl (val_loadB1 0 rfl rfl rfl) ?_; refine q_take rfl ?_; refine q_v rfl (val_indexAddr rfl rfl rfl (by omega)) ?_; refine q_take rfl ?_; refine q_v rfl (val_fieldAddr rfl) ?_; refine q_take rfl ?_
      refine q_v rfl (val_load1 rfl (SlAt.cell tokCells_len hx hlt' 1 rfl)) ?_
      refine q_tev rfl rfl rfl ?_; refine q_tev rfl rfl rfl ?_; refine q_ev rfl rfl ?_; refine q_ev rfl rfl ?_; refine q_end ?_; refine r_then_normal ?_; refine r_retc ?_
      exact r_ret1 [_] rfl rfl (List.Sublist.refl _) ⟨by rw [hk]; simp [h5], rfl, rfl⟩
    · refine q_pass rfl rfl rfl ?_; refine q_pass rfl rfl rfl ?_; refine q_pass rfl rfl rfl ?_; refine q_pass rfl rfl rfl ?_; refine q_pass rfl rfl rfl ?_; refine q_pass rfl rfl rfl ?_; refine q_pass rfl rfl rfl ?_; refine q_pass rfl rfl rfl ?_; refine q_pass rfl rfl rfl ?_; refine q_pass rfl rfl rfl ?_; refine q_pass rfl rfl rfl ?_; refine q_pass rfl rfl rfl ?_; refine q_pass rfl rfl rfl ?_; refine q_ev rfl rfl ?_; refine q_ev rfl rfl ?_; refine q_end ?_; refine r_then_normal ?_; refine r_retc ?_
      exact r_ret1 [_] rfl rfl (List.Sublist.refl _) ⟨by rw [hk]; simp [h5], rfl, rfl⟩
  · have hk := tokAt_end (l := l) (i := i) (by omega) k w
    refine q_pass rfl rfl rfl ?_; refine q_pass rfl rfl rfl ?_; refine q_pass rfl rfl rfl ?_; refine q_pass rfl rfl rfl ?_; refine q_pass rfl rfl rfl ?_; refine q_pass rfl rfl rfl ?_; refine q_pass rfl rfl rfl ?_; refine q_pass rfl rfl rfl ?_; refine q_pass rfl rfl rfl ?_; refine q_pass rfl rfl rfl ?_; refine q_pass rfl rfl rfl ?_; refine q_pass rfl rfl rfl ?_; refine q_pass rfl rfl rfl ?_; refine q_ev rfl rfl ?_; refine q_ev rfl rfl ?_; refine q_pass rfl rfl rfl ?_; refine q_pass rfl rfl rfl ?_; refine q_pass rfl rfl rfl ?_; refine q_pass rfl rfl rfl ?_; refine q_pass rfl rfl rfl ?_; refine q_pass rfl rfl rfl ?_; refine q_pass rfl rfl rfl ?_; refine q_pass rfl rfl rfl ?_; refine q_pass rfl rfl rfl ?_; refine q_pass rfl rfl rfl ?_; refine q_pass rfl rfl rfl ?_; refine q_pass rfl rfl rfl ?_; refine q_pass rfl rfl rfl ?_; refine q_ev rfl rfl ?_; refine q_ev rfl rfl ?_; refine q_end ?_; refine r_then_normal ?_; refine r_retc ?_
    exact r_ret1 [_] rfl rfl (List.Sublist.refl _) ⟨by rw [hk], rfl, rfl⟩
theorem eread_spec (g : Ghost) (l : List Tok) (hb : TB l) (lv : Value) (hs : ToksAt g lv l) (b i : Nat) (p k : Int) (w : Bytes) : SpecL Tryz.prog 94 [ptr b 0, .int .i64 k, str w] g (rdE b lv i p) fun v g' r' => v = .bool (tokAt l i k w) ∧ g' = g ∧ r' = rdE b lv (if tokAt l i k w then i + 1 else i) p := by
  have hb1 := hb.1
  refine spec_of_run Tryz.func94 rfl Tryz.ntmps94 rfl fun E hE => ?_
  refine r_sr ?_; refine r_ev rfl rfl ?_; refine r_nn ?_; refine r_seq ?_; refine r_sr ?_; refine r_ev rfl rfl ?_; refine r_ev rfl rfl ?_; refine r_ev rfl rfl ?_
  refine r_callO 0 rfl rfl rfl (enext_spec g l lv hs b i p k w) ?_
  cases hk : tokAt l i k w with
  | false =>
    refine r_ev rfl rfl ?_; refine r_nn ?_; refine r_cond_true rfl ?_; refine r_sr ?_; refine r_ev rfl rfl ?_; refine r_nn ?_; refine r_retc ?_; refine r_then_ret ?_
    exact r_ret1 [_] rfl rfl (List.Sublist.refl _) ⟨_, rfl, rfl, rfl, rfl⟩
  | true =>
    have := tokAt_lt hk
    obtain ⟨a, m, c, rfl⟩ := SlAt.form hs
    refine r_ev rfl rfl ?_; refine r_nn ?_; refine r_cond_false rfl ?_; refine r_skip ?_; refine r_then_normal ?_; refine r_sr ?_; refine r_ev rfl rfl ?_; refine r_ev rfl rfl ?_; refine r_fieldAddr rfl rfl ?_; refine r_loadB1 0 rfl rfl rfl rfl ?_; refine r_add rfl rfl rfl (by omega) ?_; refine r_ev rfl rfl ?_; refine r_fieldAddr rfl rfl ?_; refine r_store1 0 rfl rfl rfl rfl rfl rfl ?_; refine r_nn ?_; refine r_sr ?_; refine r_ev rfl rfl ?_; refine r_nn ?_; refine r_retc ?_
    exact r_ret1 [_] rfl rfl (List.Sublist.refl _) ⟨_, rfl, rfl, rfl, rfl⟩
theorem efail_spec (g : Ghost) (l : List Tok) (hb : TB l) (lv : Value) (hs : ToksAt g lv l) (b i : Nat) (w : Bytes) : SpecL Tryz.prog 107 [ptr b 0, str w] g (rdE b lv i 0) fun v g' r' => v = missV w ∧ g' = g ∧ r' = rdE b lv i (failPos l i) := by
  refine spec_of_run Tryz.func107 rfl Tryz.ntmps107 rfl fun E hE => ?_
  refine r_sr ?_; refine r_ev rfl rfl ?_; refine r_nn ?_; refine r_sr ?_; refine r_ev rfl rfl ?_; refine r_ev rfl rfl ?_; refine r_fieldAddr rfl rfl ?_; refine r_loadB1 0 rfl rfl rfl rfl ?_; refine r_len_at rfl rfl (by assumption) ?_; refine r_ev rfl rfl ?_; refine r_nn ?_; refine r_seq ?_; refine r_block ?_; refine r_sr ?_; refine r_ev rfl rfl ?_; refine r_ev rfl rfl ?_; refine r_fieldAddr rfl rfl ?_; refine r_loadB1 0 rfl rfl rfl rfl ?_; refine r_ev rfl rfl ?_; refine r_ev rfl rfl ?_; refine r_ev rfl rfl ?_; refine r_nn ?_
  refine r_cond rfl (fun hlt => ?_) (fun hlt => ?_)
  · have hlt' : i < l.length := by omega
    have hf : failPos l i = l[i].pos := by unfold failPos; rw [toks_some hlt']
    obtain ⟨b0, off, cap, rfl, hx⟩ := hs.held hlt'
    skip
    refine s_region 14 mixed (by kernel_rfl) ?_
    refine s_v rfl ⟨_, (val_ev rfl), ?_⟩; refine s_v rfl ⟨_, (val_ev rfl), ?_⟩; refine s_v rfl ⟨_, (val_ev rfl), ?_⟩; refine s_v rfl ⟨_, (val_fieldAddr rfl), ?_⟩; refine s_v rfl ⟨_, (val_loadB1 0 rfl rfl rfl), ?_⟩; refine s_v rfl ⟨_, (val_ev rfl), ?_⟩; refine s_v rfl ⟨_, (val_ev rfl), ?_⟩; refine s_v rfl ⟨_, (val_fieldAddr rfl), ?_⟩; refine s_v rfl ⟨_, (val_loadB1 0 rfl rfl rfl), ?_⟩; refine s_v rfl ⟨_, (val_indexAddr rfl rfl rfl (by omega)), ?_⟩; refine s_v rfl ⟨_, (val_fieldAddr rfl), ?_⟩
    refine s_v rfl ⟨_, val_load1 rfl (SlAt.cell tokCells_len hx hlt' 2 rfl), ?_⟩
    refine s_v rfl ⟨_, (val_ev rfl), ?_⟩; refine s_v rfl ⟨_, (val_fieldAddr rfl), ?_⟩; refine s_end ?_
    refine r_store1 0 rfl rfl rfl rfl rfl rfl ?_; refine r_nil ?_; refine r_in_normal ?_; refine r_then_normal ?_; refine r_sr ?_; refine r_ev rfl rfl ?_; refine r_build rfl rfl (by rfl) ?_; refine r_mkIface rfl rfl ?_; refine r_ev rfl rfl ?_; refine r_nn ?_; refine r_retc ?_
    exact r_ret1 [_] rfl rfl (List.Sublist.refl _) ⟨_, rfl, rfl, rfl, by rw [hf]⟩
  · have hn : l[i]? = none := List.getElem?_eq_none (by omega)
    refine r_sr ?_; refine r_ev rfl rfl ?_; refine r_ev rfl rfl ?_; refine r_ev rfl rfl ?_; refine r_nn ?_
    refine r_cond rfl (fun h0 => ?_) (fun h0 => ?_)
    · have h0' : l.length - 1 < l.length := by omega
      have hb1 := hb.1
      have hb2 := hb.2 _ (List.getElem_mem h0')
      obtain ⟨b0, off, cap, rfl, hx⟩ := hs.held h0'
      have hf : failPos l i = l[l.length - 1].pos + l[l.length - 1].text.length := by
        unfold failPos; rw [hn, List.getLast?_eq_getElem?, toks_some h0']
      skip
      refine s_region 23 mixed (by kernel_rfl) ?_
      refine s_v rfl ⟨_, (val_ev rfl), ?_⟩; refine s_v rfl ⟨_, (val_ev rfl), ?_⟩; refine s_v rfl ⟨_, (val_ev rfl), ?_⟩; refine s_v rfl ⟨_, (val_fieldAddr rfl), ?_⟩; refine s_v rfl ⟨_, (val_loadB1 0 rfl rfl rfl), ?_⟩; refine s_v rfl ⟨_, (val_ev rfl), ?_⟩; refine s_v rfl ⟨_, (val_sub_ rfl rfl (by omega)), ?_⟩
      refine s_v rfl ⟨_, val_indexAddr (j := l.length - 1) rfl rfl (by omega) h0', ?_⟩
      refine s_v rfl ⟨_, (val_fieldAddr rfl), ?_⟩
      refine s_v rfl ⟨_, val_load1 rfl (SlAt.cell tokCells_len hx h0' 2 rfl), ?_⟩
      refine s_v rfl ⟨_, (val_ev rfl), ?_⟩; refine s_v rfl ⟨_, (val_ev rfl), ?_⟩; refine s_v rfl ⟨_, (val_fieldAddr rfl), ?_⟩; refine s_v rfl ⟨_, (val_loadB1 0 rfl rfl rfl), ?_⟩; refine s_v rfl ⟨_, (val_ev rfl), ?_⟩; refine s_v rfl ⟨_, (val_sub_ rfl rfl (by omega)), ?_⟩
      refine s_v rfl ⟨_, val_indexAddr (j := l.length - 1) rfl rfl (by omega) h0', ?_⟩
      refine s_v rfl ⟨_, (val_fieldAddr rfl), ?_⟩
      refine s_v rfl ⟨_, val_load1 rfl (SlAt.cell tokCells_len hx h0' 1 rfl), ?_⟩
      refine s_v rfl ⟨_, (val_len_str rfl), ?_⟩; refine s_v rfl ⟨_, (val_add rfl rfl (by omega)), ?_⟩; refine s_v rfl ⟨_, (val_ev rfl), ?_⟩; refine s_v rfl ⟨_, (val_fieldAddr rfl), ?_⟩; refine s_end ?_
      refine r_store1 0 rfl rfl rfl rfl rfl rfl ?_; refine r_nil ?_; refine r_in_normal ?_; refine r_then_normal ?_; refine r_sr ?_; refine r_ev rfl rfl ?_; refine r_build rfl rfl (by rfl) ?_; refine r_mkIface rfl rfl ?_; refine r_ev rfl rfl ?_; refine r_nn ?_; refine r_retc ?_
      exact r_ret1 [_] rfl rfl (List.Sublist.refl _) ⟨_, rfl, rfl, rfl, by rw [hf]⟩
    · have hf : failPos l i = 0 := by
        unfold failPos; rw [hn, List.getLast?_eq_getElem?, List.getElem?_eq_none (by omega)]
      refine r_skip ?_; refine r_in_normal ?_; refine r_then_normal ?_; refine r_sr ?_; refine r_ev rfl rfl ?_; refine r_build rfl rfl (by rfl) ?_; refine r_mkIface rfl rfl ?_; refine r_ev rfl rfl ?_; refine r_nn ?_; refine r_retc ?_
      exact r_ret1 [_] rfl rfl (List.Sublist.refl _) ⟨_, rfl, rfl, rfl, by rw [hf]⟩
theorem ewant_spec (g : Ghost) (l : List Tok) (hb : TB l) (lv : Value) (hs : ToksAt g lv l) (b i : Nat) (k : Int) (w : Bytes) : SpecL Tryz.prog 109 [ptr b 0, .int .i64 k, str w] g (rdE b lv i 0) fun v g' r' => g' = g ∧ (tokAt l i k w = true ∧ v = .nilIface ∧ r' = rdE b lv (i + 1) 0 ∨ tokAt l i k w = false ∧ v = missV w ∧ r' = rdE b lv i (failPos l i)) := by
  refine spec_of_run Tryz.func109 rfl Tryz.ntmps109 rfl fun E hE => ?_
  refine r_sr ?_; refine r_ev rfl rfl ?_; refine r_nn ?_; refine r_seq ?_; refine r_sr ?_; refine r_ev rfl rfl ?_; refine r_ev rfl rfl ?_; refine r_ev rfl rfl ?_
  refine r_callL 0 rfl rfl rfl (eread_spec g l hb lv hs b i 0 k w) ?_
  rintro v g' r' ⟨rfl, rfl, rfl⟩ _
  cases hk : tokAt l i k w with
  | false =>
    simp only [Bool.false_eq_true, if_false]
    refine r_ev rfl rfl ?_; refine r_nn ?_; refine r_cond_true rfl ?_; refine r_sr ?_; refine r_ev rfl rfl ?_; refine r_ev rfl rfl ?_
    refine r_callL 0 rfl rfl rfl (efail_spec g' l hb lv hs b i w) ?_
    rintro v g1 r' ⟨rfl, rfl, rfl⟩ _
    refine r_ev rfl rfl ?_; refine r_nn ?_; refine r_retc ?_; refine r_then_ret ?_
    exact r_ret1 [_] rfl rfl (List.Sublist.refl _) ⟨_, rfl, rfl, .inr ⟨by trivial, rfl, rfl⟩⟩
  | true =>
    simp only [if_true]
    refine r_ev rfl rfl ?_; refine r_nn ?_; refine r_cond_false rfl ?_; refine r_skip ?_; refine r_then_normal ?_; refine r_sr ?_; refine r_ev rfl rfl ?_; refine r_nn ?_; refine r_retc ?_
    exact r_ret1 [_] rfl rfl (List.Sublist.refl _) ⟨_, rfl, rfl, .inl ⟨by trivial, rfl, rfl⟩⟩
theorem eplace_spec (g : Ghost) (l : List Tok) (lv : Value) (hs : ToksAt g lv l) (b i : Nat) (p : Int) : PureO Tryz.prog 93 [ptr b 0] g (rdE b lv i p) (.int .i64 (posOf l i)) := by
  refine spec_of_run Tryz.func93 rfl Tryz.ntmps93 rfl fun E hE => ?_
  refine r_sr ?_; refine r_ev rfl rfl ?_; refine r_nn ?_; refine r_seq ?_; refine r_seq ?_
  refine r_qregion mixed (by kernel_rfl) ?_
  refine q_ev rfl rfl ?_; refine q_ev rfl rfl ?_; refine q_v rfl (val_fieldAddr rfl) ?_; refine q_v rfl (val_loadB1 0 rfl rfl rfl) ?_; refine q_ev rfl rfl ?_; refine q_ev rfl rfl ?_; refine q_v rfl (val_fieldAddr rfl) ?_; refine q_v rfl (val_loadB1 0 rfl rfl rfl) ?_; refine q_v rfl (val_len_at rfl (by assumption)) ?_; refine q_ev rfl rfl ?_; refine q_end ?_; refine r_then_normal ?_
  refine r_cond rfl (fun hlt => ?_) (fun hlt => ?_)
  · have hlt' : i < l.length := by omega
    have hk : posOf l i = l[i].pos := by unfold posOf; rw [toks_some hlt']
    obtain ⟨b0, off, cap, rfl, hx⟩ := hs.held hlt'
    refine r_seq ?_
    refine r_qregion mixed (by kernel_rfl) ?_
    refine q_ev rfl rfl ?_; refine q_ev rfl rfl ?_; refine q_v rfl (val_fieldAddr rfl) ?_; refine q_v rfl (val_loadB1 0 rfl rfl rfl) ?_; refine q_ev rfl rfl ?_; refine q_ev rfl rfl ?_; refine q_v rfl (val_fieldAddr rfl) ?_; refine q_v rfl (val_loadB1 0 rfl rfl rfl) ?_; refine q_v rfl (val_indexAddr rfl rfl rfl (by omega)) ?_; refine q_v rfl (val_fieldAddr rfl) ?_
    refine q_v rfl (val_load1 rfl (SlAt.cell tokCells_len hx hlt' 2 rfl)) ?_
    refine q_ev rfl rfl ?_; refine q_end ?_; refine r_then_normal ?_; refine r_retc ?_; refine r_then_ret ?_
    exact r_ret1 [_] rfl rfl (List.Sublist.refl _) ⟨by rw [hk], rfl, rfl⟩
  · have hk : posOf l i = 0 := by unfold posOf; rw [List.getElem?_eq_none (by omega)]
    refine r_skip ?_; refine r_then_normal ?_; refine r_sr ?_; refine r_ev rfl rfl ?_; refine r_nn ?_; refine r_retc ?_
    exact r_ret1 [_] rfl rfl (List.Sublist.refl _) ⟨by rw [hk], rfl, rfl⟩
def nameB : Bytes := [110, 97, 109, 101]
theorem nameAt_get {l : List Tok} {i : Nat} (h : i < l.length) (k : Int) : nameAt l i k = if l[i].kind = k then some l[i].text else none := by unfold nameAt; rw [toks_some h]
theorem nameAt_end {l : List Tok} {i : Nat} (h : ¬ i < l.length) (k : Int) : nameAt l i k = none := by unfold nameAt; rw [List.getElem?_eq_none (by omega)]
theorem ename_spec (g : Ghost) (l : List Tok) (hb : TB l) (lv : Value) (hs : ToksAt g lv l) (b i : Nat) (k : Int) : SpecL Tryz.prog 142 [ptr b 0, .int .i64 k] g (rdE b lv i 0) fun v g' r' => g' = g ∧ match nameAt l i k with
    | some t => v = .tuple #[str t, .nilIface] ∧ r' = rdE b lv (i + 1) 0
    | none => v = .tuple #[str [], missV nameB] ∧ r' = rdE b lv i (failPos l i) := by
  have hb1 := hb.1
  refine spec_of_run Tryz.func142 rfl Tryz.ntmps142 rfl fun E hE => ?_
  refine r_sr ?_; refine r_ev rfl rfl ?_; refine r_ev rfl rfl ?_; refine r_nn ?_; refine r_seq ?_; refine r_seq ?_
  refine r_qregion mixed (by kernel_rfl) ?_
  refine q_ev rfl rfl ?_; refine q_ev rfl rfl ?_; refine q_v rfl (val_fieldAddr rfl) ?_; refine q_v rfl (val_loadB1 0 rfl rfl rfl) ?_; refine q_ev rfl rfl ?_; refine q_ev rfl rfl ?_; refine q_v rfl (val_fieldAddr rfl) ?_; refine q_v rfl (val_loadB1 0 rfl rfl rfl) ?_; refine q_v rfl (val_len_at rfl (by assumption)) ?_; refine q_ev rfl rfl ?_; refine q_ev rfl rfl ?_
  refine q_gdec rfl rfl (fun hlt => ?_) (fun hlt => ?_)
  · have hk := nameAt_end (l := l) (i := i) (by omega) k
    refine q_pass rfl rfl rfl ?_; refine q_pass rfl rfl rfl ?_; refine q_pass rfl rfl rfl ?_; refine q_pass rfl rfl rfl ?_; refine q_pass rfl rfl rfl ?_; refine q_pass rfl rfl rfl ?_; refine q_pass rfl rfl rfl ?_; refine q_pass rfl rfl rfl ?_; refine q_pass rfl rfl rfl ?_; refine q_pass rfl rfl rfl ?_; refine q_pass rfl rfl rfl ?_; refine q_pass rfl rfl rfl ?_; refine q_pass rfl rfl rfl ?_; refine q_ev rfl rfl ?_; refine q_end ?_; refine r_then_normal ?_; refine r_cond_true rfl ?_; refine r_sr ?_; refine r_ev rfl rfl ?_
    refine r_callL 0 rfl rfl rfl (efail_spec g l hb lv hs b i nameB) ?_
    rintro v g1 r' ⟨rfl, rfl, rfl⟩ _
    refine r_ev rfl rfl ?_; refine r_ev rfl rfl ?_; refine r_nn ?_; refine r_retc ?_; refine r_then_ret ?_
    exact r_ret2 [_] rfl (.tmp rfl) (.tmp rfl) (List.Sublist.refl _) ⟨_, rfl, rfl, by rw [hk]; exact ⟨rfl, rfl⟩⟩
  · have hlt' : i < l.length := by omega
    have hk := nameAt_get hlt' k
    obtain ⟨b0, off, cap, rfl, hx⟩ := hs.held hlt'
    refine q_tev rfl rfl rfl ?_; refine q_tev rfl rfl rfl ?_; refine q_take rfl ?_; refine q_v rfl (val_fieldAddr rfl) ?_; refine q_take rfl ?_; refine q_v rfl (val_loadB1 0 rfl rfl rfl) ?_; refine q_tev rfl rfl rfl ?_; refine q_tev rfl rfl rfl ?_; refine q_take rfl ?_; refine q_v rfl (val_fieldAddr rfl) ?_; refine q_take rfl ?_; refine q_v rfl (val_loadB1 0 rfl rfl rfl) ?_; refine q_take rfl ?_; refine q_v rfl (val_indexAddr rfl rfl rfl (by omega)) ?_; refine q_take rfl ?_; refine q_v rfl (val_fieldAddr rfl) ?_; refine q_take rfl ?_
    refine q_v rfl (val_load1 rfl (SlAt.cell tokCells_len hx hlt' 0 rfl)) ?_
    refine q_tev rfl rfl rfl ?_; refine q_tev rfl rfl rfl ?_; refine q_ev rfl rfl ?_; refine q_end ?_; refine r_then_normal ?_
    refine r_cond rfl (fun h5 => ?_) (fun h5 => ?_)
    · rw [if_neg h5] at hk
      refine r_sr ?_; refine r_ev rfl rfl ?_
      refine r_callL 0 rfl rfl rfl (efail_spec g l hb _ hs b i nameB) ?_
      rintro v g1 r' ⟨rfl, rfl, rfl⟩ _
      refine r_ev rfl rfl ?_; refine r_ev rfl rfl ?_; refine r_nn ?_; refine r_retc ?_; refine r_then_ret ?_
      exact r_ret2 [_] rfl (.tmp rfl) (.tmp rfl) (List.Sublist.refl _) ⟨_, rfl, rfl, by rw [hk]; exact ⟨rfl, rfl⟩⟩
    · rw [if_pos (Decidable.not_not.1 h5)] at hk
      refine r_skip ?_; refine r_then_normal ?_; refine r_sr ?_; refine r_ev rfl rfl ?_; refine r_ev rfl rfl ?_; refine r_fieldAddr rfl rfl ?_; refine r_loadB1 0 rfl rfl rfl rfl ?_; refine r_add rfl rfl rfl (by omega) ?_; refine r_ev rfl rfl ?_; refine r_fieldAddr rfl rfl ?_; refine r_store1 0 rfl rfl rfl rfl rfl rfl ?_; refine r_nn ?_; refine r_seq ?_
      refine r_qregion mixed (by kernel_rfl) ?_
      refine q_ev rfl rfl ?_; refine q_ev rfl rfl ?_; refine q_v rfl (val_fieldAddr rfl) ?_; refine q_v rfl (val_loadB1 0 rfl rfl rfl) ?_; refine q_ev rfl rfl ?_; refine q_ev rfl rfl ?_; refine q_v rfl (val_fieldAddr rfl) ?_; refine q_v rfl (val_loadB1 0 rfl rfl rfl) ?_; refine q_v rfl (val_sub_ rfl rfl (by omega)) ?_
      refine q_v rfl (val_indexAddr (j := i) rfl rfl (by omega) hlt') ?_
      refine q_v rfl (val_fieldAddr rfl) ?_
      refine q_v rfl (val_load1 rfl (SlAt.cell tokCells_len hx hlt' 1 rfl)) ?_
      refine q_ev rfl rfl ?_; refine q_ev rfl rfl ?_; refine q_end ?_; refine r_then_normal ?_; refine r_retc ?_
      exact r_ret2 [_] rfl (.tmp rfl) (.tmp rfl) (List.Sublist.refl _) ⟨_, rfl, rfl, by rw [hk]; exact ⟨rfl, rfl⟩⟩
theorem estarts_spec (g : Ghost) (t : Tok) : Pure Tryz.prog 106 [tokV t] g (.bool (startsE t)) := by
  refine spec_of_run Tryz.func106 rfl Tryz.ntmps106 rfl fun E hE => ?_
  refine r_sr ?_
  refine r_box rfl rfl rfl (fun b1 => ?_)
  refine r_ev rfl rfl ?_; refine r_nn ?_; refine r_seq ?_; refine r_sr ?_; refine r_fieldAddr rfl rfl ?_; refine r_loadB1 0 rfl rfl rfl rfl ?_; refine r_nn ?_; refine r_block ?_; refine r_seq ?_; refine r_sr ?_; refine r_ev rfl rfl ?_; refine r_ev rfl rfl ?_; refine r_nn ?_
  refine r_cond rfl (fun h1 => ?_) (fun h1 => ?_)
  · refine r_skip ?_; refine r_then_normal ?_
    refine r_cond rfl (fun k1 => ?_) (fun k1 => ?_)
    · refine r_sr ?_; refine r_ev rfl rfl ?_; refine r_nn ?_; refine r_retc ?_; refine r_in_ret ?_; refine r_then_ret ?_
      exact r_ret1 [] rfl rfl (by simp) ⟨by simp [startsE, h1], rfl, rfl⟩
    · exact absurd h1 k1
  refine r_sr ?_; refine r_ev rfl rfl ?_; refine r_ev rfl rfl ?_; refine r_nn ?_
  refine r_cond rfl (fun h2 => ?_) (fun h2 => ?_)
  · refine r_skip ?_; refine r_then_normal ?_
    refine r_cond rfl (fun k2 => ?_) (fun k2 => ?_)
    · refine r_sr ?_; refine r_ev rfl rfl ?_; refine r_nn ?_; refine r_retc ?_; refine r_in_ret ?_; refine r_then_ret ?_
      exact r_ret1 [] rfl rfl (by simp) ⟨by simp [startsE, h2], rfl, rfl⟩
    · exact absurd h2 k2
  refine r_region ?_; refine r_ev rfl rfl ?_; refine r_ev rfl rfl ?_; refine r_nn ?_
  refine r_cond rfl (fun h3 => ?_) (fun h3 => ?_)
  · refine r_sr ?_; refine r_ev rfl rfl ?_; refine r_nn ?_; refine r_retc ?_; refine r_in_ret ?_; refine r_then_ret ?_
    exact r_ret1 [] rfl rfl (by simp) ⟨by simp [startsE, h3], rfl, rfl⟩
  refine r_sr ?_; refine r_ev rfl rfl ?_; refine r_ev rfl rfl ?_; refine r_nn ?_
  refine r_cond rfl (fun h5 => ?_) (fun h5 => ?_)
  · refine r_sr ?_; refine r_fieldAddr rfl rfl ?_; refine r_loadB1 0 rfl rfl rfl rfl ?_; refine r_ev rfl rfl ?_; refine r_ev rfl rfl ?_
    refine r_gdec rfl rfl (fun h6 => ?_) (fun h6 => ?_)
    · refine r_pass rfl rfl rfl ?_; refine r_pass rfl rfl rfl ?_; refine r_pass rfl rfl rfl ?_; refine r_ev rfl rfl ?_; refine r_ev rfl rfl ?_; refine r_pass rfl rfl rfl ?_; refine r_pass rfl rfl rfl ?_; refine r_pass rfl rfl rfl ?_; refine r_ev rfl rfl ?_; refine r_ev rfl rfl ?_; refine r_nn ?_; refine r_retc ?_; refine r_in_ret ?_; refine r_then_ret ?_
      exact r_ret1 [] rfl rfl (by simp) ⟨by simp [startsE, h5, h6], rfl, rfl⟩
    refine r_take rfl ?_; refine r_fieldAddr rfl rfl ?_; refine r_take rfl ?_; refine r_loadB1 0 rfl rfl rfl rfl ?_; refine r_tev rfl rfl rfl ?_; refine r_ev rfl rfl ?_; refine r_ev rfl rfl ?_
    refine r_gdec rfl rfl (fun h7 => ?_) (fun h7 => ?_)
    · refine r_pass rfl rfl rfl ?_; refine r_pass rfl rfl rfl ?_; refine r_pass rfl rfl rfl ?_; refine r_ev rfl rfl ?_; refine r_ev rfl rfl ?_; refine r_nn ?_; refine r_retc ?_; refine r_in_ret ?_; refine r_then_ret ?_
      exact r_ret1 [] rfl rfl (by simp) ⟨by simp [startsE, h5, h7], rfl, rfl⟩
    refine r_take rfl ?_; refine r_fieldAddr rfl rfl ?_; refine r_take rfl ?_; refine r_loadB1 0 rfl rfl rfl rfl ?_; refine r_tev rfl rfl rfl ?_; refine r_ev rfl rfl ?_; refine r_ev rfl rfl ?_; refine r_nn ?_; refine r_retc ?_; refine r_in_ret ?_; refine r_then_ret ?_
    exact r_ret1 [] rfl rfl (by simp) ⟨by simp [startsE, h5, h6, h7], rfl, rfl⟩
  · refine r_skip ?_; refine r_in_normal ?_; refine r_then_normal ?_; refine r_sr ?_; refine r_ev rfl rfl ?_; refine r_nn ?_; refine r_retc ?_
    exact r_ret1 [] rfl rfl (by simp) ⟨by simp [startsE, h1, h2, h3, h5], rfl, rfl⟩
theorem estart_spec (g : Ghost) (l : List Tok) (lv : Value) (hs : ToksAt g lv l) (i : Int) : Eng.Spec Tryz.prog 49 [lv, .int .i64 i] g [] fun v g' own' => g' = g ∧ ∃ b, v = ptr b 0 ∧ own' = [rdE b lv (idxOf l.length i) 0] := by
  obtain ⟨a, c, rfl⟩ := slForm2 hs
  refine spec_of_run Tryz.func49 rfl Tryz.ntmps49 rfl fun E hE => ?_
  refine r_sr ?_; refine r_ev rfl rfl ?_; refine r_nn ?_; refine r_seq ?_; refine r_sr ?_; refine r_ev rfl rfl ?_; refine r_ev rfl rfl ?_; refine r_nn ?_
  refine r_cond rfl (fun h1 => ?_) (fun h1 => ?_)
  · have hx : idxOf l.length i = l.length := by simp [idxOf, h1]
    refine r_region ?_; refine r_ev rfl rfl ?_; refine r_len_sl rfl rfl ?_; refine r_ev rfl rfl ?_; refine r_nn ?_; refine r_sr ?_; refine r_ev rfl rfl ?_; refine r_ev rfl rfl ?_; refine r_ev rfl rfl ?_; refine r_len_sl rfl rfl ?_; refine r_min rfl rfl rfl ?_; refine r_build rfl rfl (by rfl) ?_
    refine r_box rfl rfl rfl (fun b => ?_)
    refine r_ev rfl rfl ?_; refine r_nn ?_; refine r_retc ?_
    exact r_ret1 [_] rfl rfl (List.Sublist.refl _) ⟨rfl, b, rfl, by rw [hx]; simp⟩
  · have hx : ((idxOf l.length i : Nat) : Int) = min i l.length := by simp only [idxOf, h1, if_false]; omega
    refine r_skip ?_; refine r_then_normal ?_; refine r_sr ?_; refine r_ev rfl rfl ?_; refine r_ev rfl rfl ?_; refine r_ev rfl rfl ?_; refine r_len_sl rfl rfl ?_; refine r_min rfl rfl rfl ?_; refine r_build rfl rfl (by rfl) ?_
    refine r_box rfl rfl rfl (fun b => ?_)
    refine r_ev rfl rfl ?_; refine r_nn ?_; refine r_retc ?_
    exact r_ret1 [_] rfl rfl (List.Sublist.refl _) ⟨rfl, b, rfl, by rw [← hx]⟩
end Go.Proofs.YtcapgcohhgjngaaGreatDoor
-- sum 83ccbc123e3a3130
/- The walking engine: three operations of a drawn region that can come up in any order; parts of what is read; over any program. -/
namespace Go.Eng
open Go
section
variable {P : Program} {E : Env} {n : Nat} {L : Slots} {g : Ghost} {own : List Res} {Q : Exit → Act → World → Prop} {ops : Array Oper} {S : World → Prop} {fuel : Nat} {listed : Array Bool}
theorem h_three {o o' o'' : Oper} (i i' i'' : Nat) (hr : Region.ready .any ops listed = [i, i', i'']) (hi : ops[i]? = some o) (hi' : ops[i']? = some o') (hi'' : ops[i'']? = some o'')
    (h : Run E n L g own (wpList P ops (Exit.then (fun a w => S w ∧ Hq P ops Q S fuel (listed.setIfInBounds i true) a w) Q) [o]))
    (h' : Run E n L g own (wpList P ops (Exit.then (fun a w => S w ∧ Hq P ops Q S fuel (listed.setIfInBounds i' true) a w) Q) [o']))
    (h'' : Run E n L g own (wpList P ops (Exit.then (fun a w => S w ∧ Hq P ops Q S fuel (listed.setIfInBounds i'' true) a w) Q) [o''])) : Run E n L g own (Hq P ops Q S (fuel + 1) listed) := fun a w hF hI => by
  have aux : ∀ (j : Nat) (q : Oper), ops[j]? = some q → wpList P ops (Exit.then (fun a w => S w ∧ Hq P ops Q S fuel (listed.setIfInBounds j true) a w) Q) [q] a w →
      wpOp P ops Q j (fun a' w' => S w' ∧ wpAnyH P .any ops Q S fuel (listed.setIfInBounds j true) a' w') a w := by
    intro j q hq h1
    unfold wpOp
    simp only [hq]
    unfold wpList at h1
    split
    · rename_i hw
      rw [if_pos hw] at h1
      rcases h1 with h1 | ⟨h1, h2⟩
      · exact .inl (upon_then h1)
      · exact .inr ⟨h1, h2⟩
    · rename_i hw
      rw [if_neg hw] at h1
      exact h1
  refine wpAnyH_all hr (by simp) ?_
  intro j hj
  simp only [List.mem_cons, List.not_mem_nil, or_false] at hj
  rcases hj with rfl | rfl | rfl
  · exact aux _ _ hi (h a w hF hI)
  · exact aux _ _ hi' (h' a w hF hI)
  · exact aux _ _ hi'' (h'' a w hF hI)
end
theorem Rd.at1 {g : Ghost} {own : List Res} {b off : Nat} {xs : List Value} (h : Rd g own b off xs) (d : Nat) {v : Value} (hv : xs[d]? = some v) : Rd g own b (off + d) [v] :=
  h.part d fun j x hj => by
    cases j with
    | zero => simp at hj; subst hj; simpa using hv
    | succ j => simp at hj
theorem Rd.tail3 {g : Ghost} {own : List Res} {b off : Nat} {x y z : Value} {bc : List Value} (h : Rd g own b off (x :: y :: z :: bc)) : Rd g own b (off + 3) bc :=
  h.part 3 fun j v hj => by rw [Nat.add_comm]; simpa using hj
end Go.Eng
-- sum 2dd0cdf93865e33d
/- Types in plain words: the canonical text of a type, its tokens, and that they are read back. No program in sight. -/
namespace Go.Th
inductive GoodT : Ty → Prop where
  | name (n : Bytes) (h : kindOf n = 1) : GoodT (nameT n)
  | con (n : Bytes) (az : List Ty) (h : kindOf n = 2) (ha : ∀ a ∈ az, GoodT a) : GoodT (conT n az)
  | arrow (a b : Ty) (ha : GoodT a) (hb : GoodT b) : GoodT (arrowT a b)
def isArrowT (t : Ty) : Bool := decide (t.kind = 4) && decide (t.name = arrowB) && decide (t.args.length = 2)
def parenT (t : Ty) : Bool := decide (t.kind = 4) && decide (0 < t.args.length)
mutual
def showT : Ty → Bytes
  | .mk k n _ _ az => if k = 5 then n else if n = arrowB then showArrow az else n ++ showArgs az
def showArgs : List Ty → Bytes
  | [] => []
  | a :: r => 32 :: ((if parenT a then 40 :: (showT a ++ [41]) else showT a) ++ showArgs r)
def showArrow : List Ty → Bytes
  | [] => []
  | a :: r => (if isArrowT a then 40 :: (showT a ++ [41]) else showT a) ++ showTo r
def showTo : List Ty → Bytes
  | [] => []
  | b :: _ => [32, 45, 62, 32] ++ showT b
end
mutual
def toksT : Ty → List Bytes
  | .mk k n _ _ az => if k = 5 then [n] else if n = arrowB then toksArrow az else n :: toksArgs az
def toksArgs : List Ty → List Bytes
  | [] => []
  | a :: r => (if parenT a then [40] :: (toksT a ++ [[41]]) else toksT a) ++ toksArgs r
def toksArrow : List Ty → List Bytes
  | [] => []
  | a :: r => (if isArrowT a then [40] :: (toksT a ++ [[41]]) else toksT a) ++ toksTo r
def toksTo : List Ty → List Bytes
  | [] => []
  | b :: _ => arrowB :: toksT b
end
def showArg (t : Ty) : Bytes := if parenT t then 40 :: (showT t ++ [41]) else showT t
def toksArg (t : Ty) : List Bytes := if parenT t then [40] :: (toksT t ++ [[41]]) else toksT t
def showFrom (t : Ty) : Bytes := if isArrowT t then 40 :: (showT t ++ [41]) else showT t
def toksFrom (t : Ty) : List Bytes := if isArrowT t then [40] :: (toksT t ++ [[41]]) else toksT t
theorem showT_name (n : Bytes) : showT (nameT n) = n := by simp [nameT, showT]
theorem toksT_name (n : Bytes) : toksT (nameT n) = [n] := by simp [nameT, toksT]
theorem ne_arrow {n : Bytes} (h : kindOf n = 2) : n ≠ arrowB := by
  intro e; subst e
  have : kindOf arrowB = 5 := by decide
  omega
theorem showT_con {n : Bytes} (az : List Ty) (h : n ≠ arrowB) : showT (conT n az) = n ++ showArgs az := by simp [conT, showT, h]
theorem toksT_con {n : Bytes} (az : List Ty) (h : n ≠ arrowB) : toksT (conT n az) = n :: toksArgs az := by simp [conT, toksT, h]
theorem showT_arrow (a b : Ty) : showT (arrowT a b) = showFrom a ++ ([32, 45, 62, 32] ++ showT b) := by simp [arrowT, conT, showT, showArrow, showTo, showFrom]
theorem toksT_arrow (a b : Ty) : toksT (arrowT a b) = toksFrom a ++ (arrowB :: toksT b) := by simp [arrowT, conT, toksT, toksArrow, toksTo, toksFrom]
theorem showArgs_cons (a : Ty) (r : List Ty) : showArgs (a :: r) = 32 :: (showArg a ++ showArgs r) := by simp [showArgs, showArg]
theorem toksArgs_cons (a : Ty) (r : List Ty) : toksArgs (a :: r) = toksArg a ++ toksArgs r := by simp [toksArgs, toksArg]
theorem kts_append (a b : List Bytes) : kts (a ++ b) = kts a ++ kts b := by simp [kts]
theorem kts_cons (a : Bytes) (b : List Bytes) : kts (a :: b) = (kindOf a, a) :: kts b := rfl
/-- A text whose tokens are these, whatever follows apart. -/
def Scans (s : Bytes) (ws : List Bytes) : Prop := ∀ i r us, apart r → (∀ j, okKt (scanFrom j r) us) → okKt (scanFrom i (s ++ r)) (kts ws ++ us)
theorem Scans.word {w : Bytes} (h : kindOf w ≠ 0) : Scans w [w] := fun _ _ _ hr hu => okKt_word h hr (hu _)
theorem Scans.space {s : Bytes} {ws : List Bytes} (h : Scans s ws) : Scans (32 :: s) ws := fun i r us hr hu => by
  rw [List.cons_append]
  exact okKt_pass (u := [32]) (passes_white (by decide) passes_nil) (fun j => h j r us hr hu)
theorem Scans.nil : Scans [] [] := fun i _ _ _ hu => hu i
/-- A text followed by one that begins apart. -/
theorem Scans.append {s s' : Bytes} {ws ws' : List Bytes} (h : Scans s ws) (h' : Scans s' ws') (hs : ∀ r, apart r → apart (s' ++ r)) : Scans (s ++ s') (ws ++ ws') := fun i r us hr hu => by
  rw [List.append_assoc, kts_append, List.append_assoc]
  exact h i (s' ++ r) (kts ws' ++ us) (hs r hr) (fun j => h' j r us hr hu)
/-- A mark needs no room. -/
theorem Scans.mark {m s : Bytes} {ws : List Bytes} (hm : isMark m = true) (hk : kindOf m ≠ 0) (h : Scans s ws) : Scans (m ++ s) (m :: ws) := fun i r us hr hu => by
  rw [List.append_assoc, kts_cons, List.cons_append]
  have h0 := h (i + m.length) r us hr hu
  -- a mark is read whatever follows
  obtain ⟨l, h1, h2⟩ := h0
  have key : scanFrom i (m ++ (s ++ r)) = match scanFrom (i + m.length) (s ++ r) with
      | .error e => .error e
      | .ok l => .ok (⟨kindOf m, m, i⟩ :: l) := by
    rcases mark_cases hm with rfl | ⟨c, hc, rfl⟩
    · have := scanFrom_tok (c := 45) (r := 62 :: (s ++ r)) i (by decide) (by decide)
      have e1 : tokLen (45 :: 62 :: (s ++ r)) = 2 := by simp [tokLen_cons, show inner 45 = false by decide]
      rw [e1] at this
      simp only [List.take_succ_cons, List.take_zero, List.drop_succ_cons, List.drop_zero] at this
      exact this hk
    · have hh : ∀ c ∈ markBytes, white c = false ∧ c.toNat ≠ 35 ∧ inner c = false ∧ c.toNat ≠ 45 := by decide
      obtain ⟨h1, h2, h3, h4⟩ := hh c hc
      have := scanFrom_tok (c := c) (r := s ++ r) i h1 h2
      have e1 : tokLen (c :: (s ++ r)) = 1 := by rw [tokLen_cons, if_neg (by simp [h3]), if_neg h4]
      rw [e1] at this
      simp only [List.take_succ_cons, List.take_zero, List.drop_succ_cons, List.drop_zero] at this
      exact this hk
  rw [key, h1]
  exact ⟨_, rfl, by rw [← h2]; rfl⟩
theorem apart_app {c : UInt8} {s : Bytes} (h : inner c = false) : ∀ r, apart r → apart ((c :: s) ++ r) := fun _ _ => apart_cons h
theorem apart_id : ∀ r, apart r → apart ([] ++ r) := fun _ h => h
theorem Scans.paren {s : Bytes} {ws : List Bytes} (h : Scans s ws) : Scans (40 :: (s ++ [41])) ([40] :: (ws ++ [[41]])) :=
  Scans.mark (m := [40]) (by decide) (by decide) (h.append (Scans.word (w := [41]) (by decide)) (apart_app (by decide)))
theorem scans_T {t : Ty} (h : GoodT t) : Scans (showT t) (toksT t) := by
  induction h with
  | name n h => rw [showT_name, toksT_name]; exact Scans.word (by omega)
  | con n az h ha ih =>
    rw [showT_con az (ne_arrow h), toksT_con az (ne_arrow h)]
    have key : ∀ az : List Ty, (∀ a ∈ az, Scans (showT a) (toksT a)) → Scans (showArgs az) (toksArgs az) ∧ ∀ r, apart r → apart (showArgs az ++ r) := by
      intro az
      induction az with
      | nil => intro _; exact ⟨by simp only [showArgs, toksArgs]; exact Scans.nil, by simp only [showArgs]; exact apart_id⟩
      | cons a r ihr =>
        intro hh
        have i1 := ihr (fun x hx => hh x (List.mem_cons_of_mem _ hx))
        have i2 := hh a (List.mem_cons_self ..)
        rw [showArgs_cons, toksArgs_cons]
        refine ⟨Scans.space (Scans.append ?_ i1.1 i1.2), apart_app (by decide)⟩
        unfold showArg toksArg
        split
        · exact i2.paren
        · exact i2
    have := key az ih
    exact Scans.append (ws := [n]) (Scans.word (by omega)) this.1 this.2
  | arrow a b ha hb iha ihb =>
    rw [showT_arrow, toksT_arrow]
    show Scans (showFrom a ++ (32 :: (arrowB ++ (32 :: showT b)))) _
    refine Scans.append ?_ (Scans.space ?_) (apart_app (by decide))
    · unfold showFrom toksFrom
      split
      · exact iha.paren
      · exact iha
    · exact Scans.append (ws := [arrowB]) (Scans.word (w := arrowB) (by decide)) (Scans.space ihb) (apart_app (by decide))
/-- The tokens from an index on. -/
def KtAt (l : List Tok) (i : Nat) (ws : List (Int × Bytes)) : Prop := (kt l).drop i = ws
theorem ktAt_cons {l : List Tok} {i : Nat} {k : Int} {w : Bytes} {ws : List (Int × Bytes)} (h : KtAt l i ((k, w) :: ws)) : ∃ t, l[i]? = some t ∧ t.kind = k ∧ t.text = w ∧ KtAt l (i + 1) ws := by
  have h0 : (kt l)[i]? = some (k, w) := by
    have : ((kt l).drop i)[0]? = some (k, w) := by rw [h]; rfl
    rwa [List.getElem?_drop, Nat.add_zero] at this
  have h1 : KtAt l (i + 1) ws := by
    have : ((kt l).drop i).drop 1 = ws := by rw [h]; rfl
    rwa [List.drop_drop] at this
  unfold kt at h0
  rw [List.getElem?_map, Option.map_eq_some_iff] at h0
  obtain ⟨t, h2, h3⟩ := h0
  simp only [Prod.mk.injEq] at h3
  exact ⟨t, h2, h3.1, h3.2, h1⟩
theorem ktAt_app {l : List Tok} {i : Nat} {us ws : List (Int × Bytes)} (h : KtAt l i (us ++ ws)) : KtAt l (i + us.length) ws := by
  unfold KtAt at *
  rw [← List.drop_drop, h, List.drop_left]
theorem kts_len (ws : List Bytes) : (kts ws).length = ws.length := by simp [kts]
/-- No atom begins here. -/
def StopS (ws : List (Int × Bytes)) : Prop := ∀ k w r, ws = (k, w) :: r → k ≠ 1 ∧ k ≠ 2 ∧ ¬ (k = 5 ∧ w = [40])
/-- Nor does an arrow. -/
def StopT (ws : List (Int × Bytes)) : Prop := StopS ws ∧ ∀ k w r, ws = (k, w) :: r → ¬ (k = 5 ∧ w = arrowB)
theorem stopS_at {l : List Tok} {i : Nat} {ws : List (Int × Bytes)} (h : KtAt l i ws) (hs : StopS ws) : startsAt l i = false := by
  unfold startsAt
  cases hl : l[i]? with
  | none => rfl
  | some t =>
    cases ws with
    | nil =>
      have hi := (List.getElem?_eq_some_iff.1 hl).1
      have : (kt l).length ≤ i := List.drop_eq_nil_iff.1 h
      simp [kt] at this
      omega
    | cons x r =>
      obtain ⟨k, w⟩ := x
      obtain ⟨t', h1, h2, h3, _⟩ := ktAt_cons h
      rw [hl] at h1; cases h1
      obtain ⟨a, b, c⟩ := hs k w r rfl
      simp only [startsT, h2, h3]
      simp only [Bool.or_eq_false_iff, Bool.and_eq_false_iff, decide_eq_false_iff_not]
      refine ⟨⟨a, b⟩, ?_⟩
      by_cases h5 : k = 5
      · exact .inr fun e => c ⟨h5, e⟩
      · exact .inl h5
theorem not_markAt {l : List Tok} {i : Nat} {ws : List (Int × Bytes)} {m : Bytes} (h : KtAt l i ws) (hs : ∀ k w r, ws = (k, w) :: r → ¬ (k = 5 ∧ w = m)) : markAt l i m = false := by
  unfold markAt tokAt
  cases hl : l[i]? with
  | none => rfl
  | some t =>
    cases ws with
    | nil =>
      have hi := (List.getElem?_eq_some_iff.1 hl).1
      have : (kt l).length ≤ i := List.drop_eq_nil_iff.1 h
      simp [kt] at this
      omega
    | cons x r =>
      obtain ⟨k, w⟩ := x
      obtain ⟨t', h1, h2, h3, _⟩ := ktAt_cons h
      rw [hl] at h1; cases h1
      have := hs k w r rfl
      simp only [h2, h3, Bool.and_eq_false_iff, decide_eq_false_iff_not]
      by_cases h5 : k = 5
      · exact .inr fun e => this ⟨h5, e⟩
      · exact .inl h5
theorem is_markAt {l : List Tok} {i : Nat} {ws : List (Int × Bytes)} {m : Bytes} (h : KtAt l i ((5, m) :: ws)) : markAt l i m = true := by
  obtain ⟨t, h1, h2, h3, _⟩ := ktAt_cons h
  unfold markAt tokAt
  rw [h1]
  simp [h2, h3]
theorem stopT_close (ws : List (Int × Bytes)) : StopT ((5, [41]) :: ws) :=
  ⟨fun k w r e => by cases e; decide, fun k w r e => by cases e; decide⟩
theorem stopS_arrow (ws : List (Int × Bytes)) : StopS ((5, arrowB) :: ws) := fun k w r e => by cases e; decide
/-- What stands in brackets is an atom. -/
theorem atom_paren {l : List Tok} {i : Nat} {t : Ty} {n : Nat} {us ws : List (Int × Bytes)} (hn : us.length = n) (h : KtAt l i ((5, [40]) :: (us ++ (5, [41]) :: ws))) (hw : KtAt l (i + 1) (us ++ (5, [41]) :: ws) → tread l .whole (i + 1) = .ok (t, i + 1 + n)) :
    tread l .atom i = .ok (t, i + (n + 2)) := by
  obtain ⟨x, h1, h2, h3, h4⟩ := ktAt_cons h
  rw [tread_atom, h1]
  simp only [h2, h3]
  rw [if_neg (by decide), if_neg (by decide), if_pos (by simp), hw h4]
  simp only
  have h5 := ktAt_app h4
  rw [hn] at h5
  rw [if_pos (is_markAt h5)]
  congr 2; omega
theorem ktsP (ws : List Bytes) (us : List (Int × Bytes)) : kts ([40] :: (ws ++ [[41]])) ++ us = (5, [40]) :: (kts ws ++ (5, [41]) :: us) := by
  rw [kts_cons, kts_append]
  have e1 : kindOf [40] = 5 := by decide
  have e2 : kts [[41]] = [(5, [41])] := by decide
  rw [e1, e2]
  simp
def ReadsT (t : Ty) : Prop := ∀ l i ws,
  (StopT ws → KtAt l i (kts (toksT t) ++ ws) → tread l .whole i = .ok (t, i + (toksT t).length)) ∧
  (isArrowT t = false → StopS ws → KtAt l i (kts (toksT t) ++ ws) → tread l .applied i = .ok (t, i + (toksT t).length)) ∧
  (KtAt l i (kts (toksArg t) ++ ws) → tread l .atom i = .ok (t, i + (toksArg t).length))
theorem whole_applied {l : List Tok} {i j : Nat} {t : Ty} {ws : List (Int × Bytes)} (h : tread l .applied i = .ok (t, j)) (hj : KtAt l j ws) (hs : StopT ws) : tread l .whole i = .ok (t, j) := by
  rw [tread_whole, h]
  simp only
  rw [if_neg (by rw [not_markAt hj hs.2]; decide)]
theorem toksT_first {t : Ty} (h : GoodT t) : ∃ w r, toksArg t = w :: r ∧ (kindOf w = 1 ∨ kindOf w = 2 ∨ w = [40]) := by
  unfold toksArg
  by_cases hp : parenT t = true
  · rw [if_pos hp]; exact ⟨_, _, rfl, .inr (.inr rfl)⟩
  · rw [if_neg hp]
    cases h with
    | name n h => rw [toksT_name]; exact ⟨_, _, rfl, .inl h⟩
    | con n az h ha => rw [toksT_con az (ne_arrow h)]; exact ⟨_, _, rfl, .inr (.inl h)⟩
    | arrow a b ha hb => exact absurd (by simp [parenT, arrowT, conT, Ty.kind, Ty.args]) hp
theorem startsAt_first {l : List Tok} {i : Nat} {w : Bytes} {ws : List (Int × Bytes)} (h : KtAt l i ((kindOf w, w) :: ws)) (hw : kindOf w = 1 ∨ kindOf w = 2 ∨ w = [40]) : startsAt l i = true := by
  obtain ⟨x, h1, h2, h3, _⟩ := ktAt_cons h
  unfold startsAt
  rw [h1]
  simp only [startsT, h2, h3]
  rcases hw with h | h | rfl
  · simp [h]
  · simp [h]
  · decide
theorem reads_args (l : List Tok) (n : Bytes) (ws : List (Int × Bytes)) (hs : StopS ws) : ∀ (az : List Ty), (∀ a ∈ az, GoodT a) → (∀ a ∈ az, ReadsT a) → ∀ acc i, KtAt l i (kts (toksArgs az) ++ ws) → tread l (.args n acc) i = .ok (conT n (acc ++ az), i + (toksArgs az).length)
  | [], _, _, acc, i, h => by
    simp only [toksArgs] at h ⊢
    rw [tread_args, if_neg (by rw [stopS_at h hs]; decide)]
    simp
  | a :: r, hg, hr, acc, i, h => by
    rw [toksArgs_cons] at h ⊢
    have h0 : KtAt l i (kts (toksArg a) ++ (kts (toksArgs r) ++ ws)) := by rw [← List.append_assoc, ← kts_append]; exact h
    obtain ⟨w, rr, e1, e2⟩ := toksT_first (hg a (List.mem_cons_self ..))
    have hst : startsAt l i = true := by
      refine startsAt_first (w := w) (ws := kts rr ++ (kts (toksArgs r) ++ ws)) ?_ e2
      rw [e1] at h0; exact h0
    have ha := (hr a (List.mem_cons_self ..) l i (kts (toksArgs r) ++ ws)).2.2 h0
    have h1 := ktAt_app h0
    rw [kts_len] at h1
    rw [tread_args, if_pos hst, ha]
    simp only
    rw [if_pos (by rw [e1]; simp), reads_args l n ws hs r (fun x hx => hg x (List.mem_cons_of_mem _ hx)) (fun x hx => hr x (List.mem_cons_of_mem _ hx)) (acc ++ [a]) _ h1]
    simp only [List.append_assoc, List.singleton_append, List.length_append, Nat.add_assoc]
theorem reads_T {t : Ty} (h : GoodT t) : ReadsT t := by
  induction h with
  | name n h =>
    intro l i ws
    have hap : KtAt l i (kts (toksT (nameT n)) ++ ws) → tread l .atom i = .ok (nameT n, i + 1) ∧ tread l .applied i = .ok (nameT n, i + 1) ∧ KtAt l (i + 1) ws := by
      intro hk
      rw [toksT_name] at hk
      obtain ⟨x, h1, h2, h3, h4⟩ := ktAt_cons (k := kindOf n) (w := n) (ws := ws) hk
      have ha : tread l .atom i = .ok (nameT n, i + 1) := by rw [tread_atom, h1]; simp only [h2, h, h3, if_true]
      refine ⟨ha, ?_, h4⟩
      rw [tread_applied, h1]
      simp only [h2, h]
      rw [if_neg (by decide)]
      exact ha
    rw [toksT_name] at hap ⊢
    refine ⟨fun hs hk => whole_applied (hap hk).2.1 (hap hk).2.2 hs, fun _ _ hk => (hap hk).2.1, fun hk => ?_⟩
    have e : toksArg (nameT n) = [n] := by unfold toksArg; rw [if_neg (by simp [parenT, nameT, Ty.kind]), toksT_name]
    rw [e] at hk ⊢
    exact (hap hk).1
  | con n az h ha ih =>
    intro l i ws
    have e := toksT_con az (ne_arrow h)
    have hap : ∀ us, StopS us → KtAt l i (kts (toksT (conT n az)) ++ us) → tread l .applied i = .ok (conT n az, i + (toksT (conT n az)).length) := by
      intro us hs hk
      rw [e] at hk ⊢
      obtain ⟨x, h1, h2, h3, h4⟩ := ktAt_cons (k := kindOf n) (w := n) (ws := kts (toksArgs az) ++ us) hk
      rw [tread_applied, h1]
      simp only [h2, h, if_true, h3]
      rw [reads_args l n us hs az ha ih [] _ h4]
      simp only [List.nil_append, List.length_cons]
      congr 2; omega
    have hwh : ∀ j us, StopT us → KtAt l j (kts (toksT (conT n az)) ++ us) → (tread l .applied j = .ok (conT n az, j + (toksT (conT n az)).length)) → tread l .whole j = .ok (conT n az, j + (toksT (conT n az)).length) := by
      intro j us hs hk hh
      have := ktAt_app hk
      rw [kts_len] at this
      exact whole_applied hh this hs
    have hapj : ∀ j us, StopS us → KtAt l j (kts (toksT (conT n az)) ++ us) → tread l .applied j = .ok (conT n az, j + (toksT (conT n az)).length) := by
      intro j us hs hk
      rw [e] at hk ⊢
      obtain ⟨x, h1, h2, h3, h4⟩ := ktAt_cons (k := kindOf n) (w := n) (ws := kts (toksArgs az) ++ us) hk
      rw [tread_applied, h1]
      simp only [h2, h, if_true, h3]
      rw [reads_args l n us hs az ha ih [] _ h4]
      simp only [List.nil_append, List.length_cons]
      congr 2; omega
    refine ⟨fun hs hk => hwh i ws hs hk (hap ws hs.1 hk), fun _ hs hk => hap ws hs hk, fun hk => ?_⟩
    cases az with
    | nil =>
      have e2 : toksArg (conT n []) = [n] := by unfold toksArg; rw [if_neg (by simp [parenT, conT, Ty.args]), e]; simp [toksArgs]
      rw [e2] at hk ⊢
      obtain ⟨x, h1, h2, h3, h4⟩ := ktAt_cons (k := kindOf n) (w := n) (ws := ws) hk
      rw [tread_atom, h1]
      simp only [h2, h, h3]
      rw [if_neg (by decide)]
      rfl
    | cons b bs =>
      have e2 : toksArg (conT n (b :: bs)) = [40] :: (toksT (conT n (b :: bs)) ++ [[41]]) := by unfold toksArg; rw [if_pos (by simp [parenT, conT, Ty.args, Ty.kind])]
      rw [e2] at hk ⊢
      rw [ktsP] at hk
      have := atom_paren (n := (toksT (conT n (b :: bs))).length) (kts_len _) hk (fun hk' => hwh (i + 1) _ (stopT_close _) hk' (hapj (i + 1) _ (stopT_close _).1 hk'))
      rw [this]
      simp
  | arrow a b ha hb iha ihb =>
    intro l i ws
    have e := toksT_arrow a b
    have hwh : ∀ j us, StopT us → KtAt l j (kts (toksT (arrowT a b)) ++ us) → tread l .whole j = .ok (arrowT a b, j + (toksT (arrowT a b)).length) := by
      intro j us hs hk
      rw [e, kts_append, List.append_assoc] at hk
      have h1 : tread l .applied j = .ok (a, j + (toksFrom a).length) := by
        unfold toksFrom at hk ⊢
        by_cases hi : isArrowT a = true
        · rw [if_pos hi] at hk ⊢
          rw [ktsP] at hk
          have h2 := atom_paren (n := (toksT a).length) (kts_len _) hk (fun hk' => (iha l (j + 1) _).1 (stopT_close _) hk')
          obtain ⟨x, g1, g2, g3, g4⟩ := ktAt_cons hk
          rw [tread_applied, g1]
          simp only [g2]
          rw [if_neg (by decide), h2]
          simp
        · rw [if_neg hi] at hk ⊢
          exact (iha l j _).2.1 (by simpa using hi) (stopS_arrow _) hk
      have h3 := ktAt_app hk
      rw [kts_len] at h3
      obtain ⟨x, g1, g2, g3, g4⟩ := ktAt_cons (k := 5) (w := arrowB) (ws := kts (toksT b) ++ us) h3
      have h5 := (ihb l (j + (toksFrom a).length + 1) us).1 hs g4
      rw [tread_whole, h1]
      simp only
      rw [if_pos (is_markAt (ws := kts (toksT b) ++ us) h3), if_pos (by omega), h5]
      simp only [e, List.length_append, List.length_cons]
      congr 2; omega
    refine ⟨hwh i ws, fun hn => absurd hn (by simp [isArrowT, arrowT, conT, Ty.kind, Ty.name, Ty.args]), fun hk => ?_⟩
    have e2 : toksArg (arrowT a b) = [40] :: (toksT (arrowT a b) ++ [[41]]) := by unfold toksArg; rw [if_pos (by simp [parenT, arrowT, conT, Ty.args, Ty.kind])]
    rw [e2] at hk ⊢
    rw [ktsP] at hk
    have := atom_paren (n := (toksT (arrowT a b)).length) (kts_len _) hk (fun hk' => hwh (i + 1) _ (stopT_close _) hk')
    rw [this]
    simp
end Go.Th
-- sum 71503007d4f82c89

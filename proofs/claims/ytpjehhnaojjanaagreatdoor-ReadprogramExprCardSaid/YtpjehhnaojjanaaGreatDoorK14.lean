/- The walks of package readexpr: the small methods of its reader. -/
import Derived.Test.YtpjehhnaojjanaaGreatDoorK10
import Derived.Test.YtpjehhnaojjanaaGreatDoorK11
import Derived.Test.YtpjehhnaojjanaaGreatDoorK13
namespace Go.Proofs.YtpjehhnaojjanaaGreatDoor
open Go Go.Eng Go.Th Go.Proofs
set_option maxRecDepth 10000
set_option maxHeartbeats 4000000
attribute [local irreducible] wpList Code.wp Run bodyPost Go.Eng.Ends Exit.then Exit.inBlock Again Wq Kq
abbrev rdE (b : Nat) (lv : Value) (i : Nat) (p : Int) : Res := .blk b 180 [lv, .int .i64 i, .int .i64 p]
abbrev missV (w : Bytes) : Value := .iface 282 (.agg #[str w])
abbrev unexpV : Value := .iface 183 (.agg #[])
theorem tokAt_get {l : List Tok} {i : Nat} (h : i < l.length) (k : Int) (w : Bytes) : tokAt l i k w = (decide (l[i].kind = k) && decide (l[i].text = w)) := by unfold tokAt; rw [toks_some h]
theorem tokAt_end {l : List Tok} {i : Nat} (h : ¬ i < l.length) (k : Int) (w : Bytes) : tokAt l i k w = false := by unfold tokAt; rw [List.getElem?_eq_none (by omega)]
theorem enext_spec (g : Ghost) (l : List Tok) (lv : Value) (hs : ToksAt g lv l) (b i : Nat) (p k : Int) (w : Bytes) : PureO Tryz.prog 187 [ptr b 0, .int .i64 k, str w] g (rdE b lv i p) (.bool (tokAt l i k w)) := by
 refine spec_of_run Tryz.func187 rfl Tryz.ntmps187 rfl fun E hE => ?_
 refine r_sr <| r_ev rfl rfl <| r_nn <| r_seq ?_
 refine r_qregion mixed (by kernel_rfl) ?_
 refine q_ev rfl rfl <| q_ev rfl rfl <| q_v rfl (val_fieldAddr rfl) ?_; refine q_v rfl (val_loadB1 0 rfl rfl rfl) ?_; refine q_ev rfl rfl <| q_ev rfl rfl <| q_v rfl (val_fieldAddr rfl) ?_; refine q_v rfl (val_loadB1 0 rfl rfl rfl) ?_; refine q_v rfl (val_len_at rfl (by assumption)) ?_; refine q_ev rfl rfl <| q_ev rfl rfl ?_
 refine q_gdec rfl rfl (fun hlt => ?_) (fun hlt => ?_)
 ·have hlt' : i < l.length := by omega
  have hk := tokAt_get hlt' k w
  obtain ⟨b0, off, cap, rfl, hx⟩ := hs.held hlt'
  refine q_tev rfl rfl rfl <| q_tev rfl rfl rfl <| q_take rfl <| q_v rfl (val_fieldAddr rfl) ?_; refine q_take rfl <| q_v rfl (val_loadB1 0 rfl rfl rfl) ?_; refine q_tev rfl rfl rfl <| q_tev rfl rfl rfl <| q_take rfl <| q_v rfl (val_fieldAddr rfl) ?_; refine q_take rfl <| q_v rfl (val_loadB1 0 rfl rfl rfl) ?_; refine q_take rfl <| q_v rfl (val_indexAddr rfl rfl rfl (by omega)) ?_; refine q_take rfl <| q_v rfl (val_fieldAddr rfl) ?_; refine q_take rfl ?_
  refine q_v rfl (val_load1 rfl (SlAt.cell tokCells_len hx hlt' 0 rfl)) ?_
  refine q_tev rfl rfl rfl <| q_tev rfl rfl rfl <| q_ev rfl rfl <| q_ev rfl rfl ?_
  refine q_gdec rfl rfl (fun h5 => ?_) (fun h5 => ?_)
  ·refine q_tev rfl rfl rfl <| q_tev rfl rfl rfl <| q_take rfl <| q_v rfl (val_fieldAddr rfl) ?_; refine q_take rfl <| q_v rfl (val_loadB1 0 rfl rfl rfl) ?_; refine q_tev rfl rfl rfl <| q_tev rfl rfl rfl <| q_take rfl <| q_v rfl (val_fieldAddr rfl) ?_; refine q_take rfl <| q_v rfl (val_loadB1 0 rfl rfl rfl) ?_; refine q_take rfl <| q_v rfl (val_indexAddr rfl rfl rfl (by omega)) ?_; refine q_take rfl <| q_v rfl (val_fieldAddr rfl) ?_; refine q_take rfl ?_
   refine q_v rfl (val_load1 rfl (SlAt.cell tokCells_len hx hlt' 1 rfl)) ?_
   refine q_tev rfl rfl rfl <| q_tev rfl rfl rfl <| q_ev rfl rfl <| q_ev rfl rfl <| q_end <| r_then_normal <| r_retc ?_
   exact r_ret1 [_] rfl rfl (List.Sublist.refl _) ⟨by rw [hk]; simp [h5], rfl, rfl⟩
  ·refine q_pass rfl rfl rfl <| q_pass rfl rfl rfl <| q_pass rfl rfl rfl <| q_pass rfl rfl rfl <| q_pass rfl rfl rfl <| q_pass rfl rfl rfl <| q_pass rfl rfl rfl <| q_pass rfl rfl rfl <| q_pass rfl rfl rfl <| q_pass rfl rfl rfl <| q_pass rfl rfl rfl <| q_pass rfl rfl rfl <| q_pass rfl rfl rfl <| q_ev rfl rfl ?_; refine q_ev rfl rfl <| q_end <| r_then_normal <| r_retc ?_
   exact r_ret1 [_] rfl rfl (List.Sublist.refl _) ⟨by rw [hk]; simp [h5], rfl, rfl⟩
 ·have hk := tokAt_end (l := l) (i := i) (by omega) k w
  refine q_pass rfl rfl rfl <| q_pass rfl rfl rfl <| q_pass rfl rfl rfl <| q_pass rfl rfl rfl <| q_pass rfl rfl rfl <| q_pass rfl rfl rfl <| q_pass rfl rfl rfl <| q_pass rfl rfl rfl <| q_pass rfl rfl rfl <| q_pass rfl rfl rfl <| q_pass rfl rfl rfl <| q_pass rfl rfl rfl <| q_pass rfl rfl rfl <| q_ev rfl rfl ?_; refine q_ev rfl rfl <| q_pass rfl rfl rfl <| q_pass rfl rfl rfl <| q_pass rfl rfl rfl <| q_pass rfl rfl rfl <| q_pass rfl rfl rfl <| q_pass rfl rfl rfl <| q_pass rfl rfl rfl <| q_pass rfl rfl rfl <| q_pass rfl rfl rfl <| q_pass rfl rfl rfl <| q_pass rfl rfl rfl <| q_pass rfl rfl rfl <| q_pass rfl rfl rfl ?_; refine q_ev rfl rfl <| q_ev rfl rfl <| q_end <| r_then_normal <| r_retc ?_
  exact r_ret1 [_] rfl rfl (List.Sublist.refl _) ⟨by rw [hk], rfl, rfl⟩
theorem eread_spec (g : Ghost) (l : List Tok) (hb : TB l) (lv : Value) (hs : ToksAt g lv l) (b i : Nat) (p k : Int) (w : Bytes) : SpecL Tryz.prog 154 [ptr b 0, .int .i64 k, str w] g (rdE b lv i p) fun v g' r' => v = .bool (tokAt l i k w) ∧ g' = g ∧ r' = rdE b lv (if tokAt l i k w then i + 1 else i) p := by
 have hb1 := hb.1
 refine spec_of_run Tryz.func154 rfl Tryz.ntmps154 rfl fun E hE => ?_
 refine r_sr <| r_ev rfl rfl <| r_nn <| r_seq <| r_sr <| r_ev rfl rfl <| r_ev rfl rfl <| r_ev rfl rfl ?_
 refine r_callO 0 rfl rfl rfl (enext_spec g l lv hs b i p k w) ?_
 cases hk : tokAt l i k w with
 | false =>
  refine r_ev rfl rfl <| r_nn <| r_cond_true rfl <| r_sr <| r_ev rfl rfl <| r_nn <| r_retc <| r_then_ret ?_
  exact r_ret1 [_] rfl rfl (List.Sublist.refl _) ⟨_, rfl, rfl, rfl, rfl⟩
 | true =>
  have := tokAt_lt hk
  obtain ⟨a, m, c, rfl⟩ := SlAt.form hs
  refine r_ev rfl rfl <| r_nn <| r_cond_false rfl <| r_skip <| r_then_normal <| r_sr <| r_ev rfl rfl <| r_ev rfl rfl <| r_fieldAddr rfl rfl <| r_loadB1 0 rfl rfl rfl rfl <| r_add rfl rfl rfl (by omega) ?_; refine r_ev rfl rfl <| r_fieldAddr rfl rfl <| r_store1 0 rfl rfl rfl rfl rfl rfl <| r_nn <| r_sr <| r_ev rfl rfl <| r_nn <| r_retc ?_
  exact r_ret1 [_] rfl rfl (List.Sublist.refl _) ⟨_, rfl, rfl, rfl, rfl⟩
theorem efail_spec (g : Ghost) (l : List Tok) (hb : TB l) (lv : Value) (hs : ToksAt g lv l) (b i : Nat) (w : Bytes) : SpecL Tryz.prog 212 [ptr b 0, str w] g (rdE b lv i 0) fun v g' r' => v = missV w ∧ g' = g ∧ r' = rdE b lv i (failPos l i) := by
 refine spec_of_run Tryz.func212 rfl Tryz.ntmps212 rfl fun E hE => ?_
 refine r_sr <| r_ev rfl rfl <| r_nn <| r_sr <| r_ev rfl rfl <| r_ev rfl rfl <| r_fieldAddr rfl rfl <| r_loadB1 0 rfl rfl rfl rfl <| r_len_at rfl rfl (by assumption) ?_; refine r_ev rfl rfl <| r_nn <| r_seq <| r_block <| r_sr <| r_ev rfl rfl <| r_ev rfl rfl <| r_fieldAddr rfl rfl <| r_loadB1 0 rfl rfl rfl rfl <| r_ev rfl rfl <| r_ev rfl rfl <| r_ev rfl rfl <| r_nn ?_
 refine r_cond rfl (fun hlt => ?_) (fun hlt => ?_)
 ·have hlt' : i < l.length := by omega
  have hf : failPos l i = l[i].pos := by unfold failPos; rw [toks_some hlt']
  obtain ⟨b0, off, cap, rfl, hx⟩ := hs.held hlt'
  skip
  refine s_region 14 mixed (by kernel_rfl) ?_
  refine s_v rfl ⟨_, (val_ev rfl), ?_⟩; refine s_v rfl ⟨_, (val_ev rfl), ?_⟩; refine s_v rfl ⟨_, (val_ev rfl), ?_⟩; refine s_v rfl ⟨_, (val_fieldAddr rfl), ?_⟩; refine s_v rfl ⟨_, (val_loadB1 0 rfl rfl rfl), ?_⟩; refine s_v rfl ⟨_, (val_ev rfl), ?_⟩; refine s_v rfl ⟨_, (val_ev rfl), ?_⟩; refine s_v rfl ⟨_, (val_fieldAddr rfl), ?_⟩; refine s_v rfl ⟨_, (val_loadB1 0 rfl rfl rfl), ?_⟩; refine s_v rfl ⟨_, (val_indexAddr rfl rfl rfl (by omega)), ?_⟩; refine s_v rfl ⟨_, (val_fieldAddr rfl), ?_⟩
  refine s_v rfl ⟨_, val_load1 rfl (SlAt.cell tokCells_len hx hlt' 2 rfl), ?_⟩
  refine s_v rfl ⟨_, (val_ev rfl), ?_⟩; refine s_v rfl ⟨_, (val_fieldAddr rfl), ?_⟩; refine s_end ?_
  refine r_store1 0 rfl rfl rfl rfl rfl rfl <| r_nil <| r_in_normal <| r_then_normal <| r_sr <| r_ev rfl rfl <| r_build rfl rfl (by rfl) ?_; refine r_mkIface rfl rfl <| r_ev rfl rfl <| r_nn <| r_retc ?_
  exact r_ret1 [_] rfl rfl (List.Sublist.refl _) ⟨_, rfl, rfl, rfl, by rw [hf]⟩
 ·have hn : l[i]? = none := List.getElem?_eq_none (by omega)
  refine r_sr <| r_ev rfl rfl <| r_ev rfl rfl <| r_ev rfl rfl <| r_nn ?_
  refine r_cond rfl (fun h0 => ?_) (fun h0 => ?_)
  ·have h0' : l.length - 1 < l.length := by omega
   have hb1 := hb.1
   have hb2 := hb.2 _ (List.getElem_mem h0')
   obtain ⟨b0, off, cap, rfl, hx⟩ := hs.held h0'
   have hf : failPos l i = l[l.length - 1].pos + l[l.length - 1].text.length := by
    unfold failPos; rw [hn, List.getLast?_eq_getElem?, toks_some h0']
   skip
   refine s_region 23 mixed (by kernel_rfl) ?_
   refine s_v rfl ⟨_, (val_ev rfl), ?_⟩; refine s_v rfl ⟨_, (val_ev rfl), ?_⟩; refine s_v rfl ⟨_, (val_ev rfl), ?_⟩; refine s_v rfl ⟨_, (val_fieldAddr rfl), ?_⟩; refine s_v rfl ⟨_, (val_loadB1 0 rfl rfl rfl), ?_⟩; refine s_v rfl ⟨_, (val_ev rfl), ?_⟩; refine s_v rfl ⟨_, (val_sub_ rfl rfl (by omega)), ?_⟩
   refine s_v rfl ⟨_, val_indexAddr (j := l.length - 1) rfl rfl (by omega) h0', ?_⟩
   refine s_v rfl ⟨_, (val_fieldAddr rfl), ?_⟩
   refine s_v rfl ⟨_, val_load1 rfl (SlAt.cell tokCells_len hx h0' 2 rfl), ?_⟩
   refine s_v rfl ⟨_, (val_ev rfl), ?_⟩; refine s_v rfl ⟨_, (val_ev rfl), ?_⟩; refine s_v rfl ⟨_, (val_fieldAddr rfl), ?_⟩; refine s_v rfl ⟨_, (val_loadB1 0 rfl rfl rfl), ?_⟩; refine s_v rfl ⟨_, (val_ev rfl), ?_⟩; refine s_v rfl ⟨_, (val_sub_ rfl rfl (by omega)), ?_⟩
   refine s_v rfl ⟨_, val_indexAddr (j := l.length - 1) rfl rfl (by omega) h0', ?_⟩
   refine s_v rfl ⟨_, (val_fieldAddr rfl), ?_⟩
   refine s_v rfl ⟨_, val_load1 rfl (SlAt.cell tokCells_len hx h0' 1 rfl), ?_⟩
   refine s_v rfl ⟨_, (val_len_str rfl), ?_⟩; refine s_v rfl ⟨_, (val_add rfl rfl (by omega)), ?_⟩; refine s_v rfl ⟨_, (val_ev rfl), ?_⟩; refine s_v rfl ⟨_, (val_fieldAddr rfl), ?_⟩; refine s_end ?_
   refine r_store1 0 rfl rfl rfl rfl rfl rfl <| r_nil <| r_in_normal <| r_then_normal <| r_sr <| r_ev rfl rfl <| r_build rfl rfl (by rfl) ?_; refine r_mkIface rfl rfl <| r_ev rfl rfl <| r_nn <| r_retc ?_
   exact r_ret1 [_] rfl rfl (List.Sublist.refl _) ⟨_, rfl, rfl, rfl, by rw [hf]⟩
  ·have hf : failPos l i = 0 := by
    unfold failPos; rw [hn, List.getLast?_eq_getElem?, List.getElem?_eq_none (by omega)]
   refine r_skip <| r_in_normal <| r_then_normal <| r_sr <| r_ev rfl rfl <| r_build rfl rfl (by rfl) ?_; refine r_mkIface rfl rfl <| r_ev rfl rfl <| r_nn <| r_retc ?_
   exact r_ret1 [_] rfl rfl (List.Sublist.refl _) ⟨_, rfl, rfl, rfl, by rw [hf]⟩
theorem ewant_spec (g : Ghost) (l : List Tok) (hb : TB l) (lv : Value) (hs : ToksAt g lv l) (b i : Nat) (k : Int) (w : Bytes) : SpecL Tryz.prog 189 [ptr b 0, .int .i64 k, str w] g (rdE b lv i 0) fun v g' r' => g' = g ∧ (tokAt l i k w = true ∧ v = .nilIface ∧ r' = rdE b lv (i + 1) 0 ∨ tokAt l i k w = false ∧ v = missV w ∧ r' = rdE b lv i (failPos l i)) := by
 refine spec_of_run Tryz.func189 rfl Tryz.ntmps189 rfl fun E hE => ?_
 refine r_sr <| r_ev rfl rfl <| r_nn <| r_seq <| r_sr <| r_ev rfl rfl <| r_ev rfl rfl <| r_ev rfl rfl ?_
 refine r_callL 0 rfl rfl rfl (eread_spec g l hb lv hs b i 0 k w) ?_
 rintro v g' r' ⟨rfl, rfl, rfl⟩ _
 cases hk : tokAt l i k w with
 | false =>
  simp only [Bool.false_eq_true, if_false]
  refine r_ev rfl rfl <| r_nn <| r_cond_true rfl <| r_sr <| r_ev rfl rfl <| r_ev rfl rfl ?_
  refine r_callL 0 rfl rfl rfl (efail_spec g' l hb lv hs b i w) ?_
  rintro v g1 r' ⟨rfl, rfl, rfl⟩ _
  refine r_ev rfl rfl <| r_nn <| r_retc <| r_then_ret ?_
  exact r_ret1 [_] rfl rfl (List.Sublist.refl _) ⟨_, rfl, rfl, .inr ⟨by trivial, rfl, rfl⟩⟩
 | true =>
  simp only [if_true]
  refine r_ev rfl rfl <| r_nn <| r_cond_false rfl <| r_skip <| r_then_normal <| r_sr <| r_ev rfl rfl <| r_nn <| r_retc ?_
  exact r_ret1 [_] rfl rfl (List.Sublist.refl _) ⟨_, rfl, rfl, .inl ⟨by trivial, rfl, rfl⟩⟩
theorem eplace_spec (g : Ghost) (l : List Tok) (lv : Value) (hs : ToksAt g lv l) (b i : Nat) (p : Int) : PureO Tryz.prog 153 [ptr b 0] g (rdE b lv i p) (.int .i64 (posOf l i)) := by
 refine spec_of_run Tryz.func153 rfl Tryz.ntmps153 rfl fun E hE => ?_
 refine r_sr <| r_ev rfl rfl <| r_nn <| r_seq <| r_seq ?_
 refine r_qregion mixed (by kernel_rfl) ?_
 refine q_ev rfl rfl <| q_ev rfl rfl <| q_v rfl (val_fieldAddr rfl) ?_; refine q_v rfl (val_loadB1 0 rfl rfl rfl) ?_; refine q_ev rfl rfl <| q_ev rfl rfl <| q_v rfl (val_fieldAddr rfl) ?_; refine q_v rfl (val_loadB1 0 rfl rfl rfl) ?_; refine q_v rfl (val_len_at rfl (by assumption)) ?_; refine q_ev rfl rfl <| q_end <| r_then_normal ?_
 refine r_cond rfl (fun hlt => ?_) (fun hlt => ?_)
 ·have hlt' : i < l.length := by omega
  have hk : posOf l i = l[i].pos := by unfold posOf; rw [toks_some hlt']
  obtain ⟨b0, off, cap, rfl, hx⟩ := hs.held hlt'
  refine r_seq ?_
  refine r_qregion mixed (by kernel_rfl) ?_
  refine q_ev rfl rfl <| q_ev rfl rfl <| q_v rfl (val_fieldAddr rfl) ?_; refine q_v rfl (val_loadB1 0 rfl rfl rfl) ?_; refine q_ev rfl rfl <| q_ev rfl rfl <| q_v rfl (val_fieldAddr rfl) ?_; refine q_v rfl (val_loadB1 0 rfl rfl rfl) ?_; refine q_v rfl (val_indexAddr rfl rfl rfl (by omega)) ?_; refine q_v rfl (val_fieldAddr rfl) ?_
  refine q_v rfl (val_load1 rfl (SlAt.cell tokCells_len hx hlt' 2 rfl)) ?_
  refine q_ev rfl rfl <| q_end <| r_then_normal <| r_retc <| r_then_ret ?_
  exact r_ret1 [_] rfl rfl (List.Sublist.refl _) ⟨by rw [hk], rfl, rfl⟩
 ·have hk : posOf l i = 0 := by unfold posOf; rw [List.getElem?_eq_none (by omega)]
  refine r_skip <| r_then_normal <| r_sr <| r_ev rfl rfl <| r_nn <| r_retc ?_
  exact r_ret1 [_] rfl rfl (List.Sublist.refl _) ⟨by rw [hk], rfl, rfl⟩
def nameB : Bytes := [110, 97, 109, 101]
theorem nameAt_get {l : List Tok} {i : Nat} (h : i < l.length) (k : Int) : nameAt l i k = if l[i].kind = k then some l[i].text else none := by unfold nameAt; rw [toks_some h]
theorem nameAt_end {l : List Tok} {i : Nat} (h : ¬ i < l.length) (k : Int) : nameAt l i k = none := by unfold nameAt; rw [List.getElem?_eq_none (by omega)]
theorem ename_spec (g : Ghost) (l : List Tok) (hb : TB l) (lv : Value) (hs : ToksAt g lv l) (b i : Nat) (k : Int) : SpecL Tryz.prog 188 [ptr b 0, .int .i64 k] g (rdE b lv i 0) fun v g' r' => g' = g ∧ match nameAt l i k with
  | some t => v = .tuple #[str t, .nilIface] ∧ r' = rdE b lv (i + 1) 0
  | none => v = .tuple #[str [], missV nameB] ∧ r' = rdE b lv i (failPos l i) := by
 have hb1 := hb.1
 refine spec_of_run Tryz.func188 rfl Tryz.ntmps188 rfl fun E hE => ?_
 refine r_sr <| r_ev rfl rfl <| r_ev rfl rfl <| r_nn <| r_seq <| r_seq ?_
 refine r_qregion mixed (by kernel_rfl) ?_
 refine q_ev rfl rfl <| q_ev rfl rfl <| q_v rfl (val_fieldAddr rfl) ?_; refine q_v rfl (val_loadB1 0 rfl rfl rfl) ?_; refine q_ev rfl rfl <| q_ev rfl rfl <| q_v rfl (val_fieldAddr rfl) ?_; refine q_v rfl (val_loadB1 0 rfl rfl rfl) ?_; refine q_v rfl (val_len_at rfl (by assumption)) ?_; refine q_ev rfl rfl <| q_ev rfl rfl ?_
 refine q_gdec rfl rfl (fun hlt => ?_) (fun hlt => ?_)
 ·have hk := nameAt_end (l := l) (i := i) (by omega) k
  refine q_pass rfl rfl rfl <| q_pass rfl rfl rfl <| q_pass rfl rfl rfl <| q_pass rfl rfl rfl <| q_pass rfl rfl rfl <| q_pass rfl rfl rfl <| q_pass rfl rfl rfl <| q_pass rfl rfl rfl <| q_pass rfl rfl rfl <| q_pass rfl rfl rfl <| q_pass rfl rfl rfl <| q_pass rfl rfl rfl <| q_pass rfl rfl rfl <| q_ev rfl rfl ?_; refine q_end <| r_then_normal <| r_cond_true rfl <| r_sr <| r_ev rfl rfl ?_
  refine r_callL 0 rfl rfl rfl (efail_spec g l hb lv hs b i nameB) ?_
  rintro v g1 r' ⟨rfl, rfl, rfl⟩ _
  refine r_ev rfl rfl <| r_ev rfl rfl <| r_nn <| r_retc <| r_then_ret ?_
  exact r_ret2 [_] rfl (.tmp rfl) (.tmp rfl) (List.Sublist.refl _) ⟨_, rfl, rfl, by rw [hk]; exact ⟨rfl, rfl⟩⟩
 ·have hlt' : i < l.length := by omega
  have hk := nameAt_get hlt' k
  obtain ⟨b0, off, cap, rfl, hx⟩ := hs.held hlt'
  refine q_tev rfl rfl rfl <| q_tev rfl rfl rfl <| q_take rfl <| q_v rfl (val_fieldAddr rfl) ?_; refine q_take rfl <| q_v rfl (val_loadB1 0 rfl rfl rfl) ?_; refine q_tev rfl rfl rfl <| q_tev rfl rfl rfl <| q_take rfl <| q_v rfl (val_fieldAddr rfl) ?_; refine q_take rfl <| q_v rfl (val_loadB1 0 rfl rfl rfl) ?_; refine q_take rfl <| q_v rfl (val_indexAddr rfl rfl rfl (by omega)) ?_; refine q_take rfl <| q_v rfl (val_fieldAddr rfl) ?_; refine q_take rfl ?_
  refine q_v rfl (val_load1 rfl (SlAt.cell tokCells_len hx hlt' 0 rfl)) ?_
  refine q_tev rfl rfl rfl <| q_tev rfl rfl rfl <| q_ev rfl rfl <| q_end <| r_then_normal ?_
  refine r_cond rfl (fun h5 => ?_) (fun h5 => ?_)
  ·rw [if_neg h5] at hk
   refine r_sr <| r_ev rfl rfl ?_
   refine r_callL 0 rfl rfl rfl (efail_spec g l hb _ hs b i nameB) ?_
   rintro v g1 r' ⟨rfl, rfl, rfl⟩ _
   refine r_ev rfl rfl <| r_ev rfl rfl <| r_nn <| r_retc <| r_then_ret ?_
   exact r_ret2 [_] rfl (.tmp rfl) (.tmp rfl) (List.Sublist.refl _) ⟨_, rfl, rfl, by rw [hk]; exact ⟨rfl, rfl⟩⟩
  ·rw [if_pos (Decidable.not_not.1 h5)] at hk
   refine r_skip <| r_then_normal <| r_sr <| r_ev rfl rfl <| r_ev rfl rfl <| r_fieldAddr rfl rfl <| r_loadB1 0 rfl rfl rfl rfl <| r_add rfl rfl rfl (by omega) ?_; refine r_ev rfl rfl <| r_fieldAddr rfl rfl <| r_store1 0 rfl rfl rfl rfl rfl rfl <| r_nn <| r_seq ?_
   refine r_qregion mixed (by kernel_rfl) ?_
   refine q_ev rfl rfl <| q_ev rfl rfl <| q_v rfl (val_fieldAddr rfl) ?_; refine q_v rfl (val_loadB1 0 rfl rfl rfl) ?_; refine q_ev rfl rfl <| q_ev rfl rfl <| q_v rfl (val_fieldAddr rfl) ?_; refine q_v rfl (val_loadB1 0 rfl rfl rfl) ?_; refine q_v rfl (val_sub_ rfl rfl (by omega)) ?_
   refine q_v rfl (val_indexAddr (j := i) rfl rfl (by omega) hlt') ?_
   refine q_v rfl (val_fieldAddr rfl) ?_
   refine q_v rfl (val_load1 rfl (SlAt.cell tokCells_len hx hlt' 1 rfl)) ?_
   refine q_ev rfl rfl <| q_ev rfl rfl <| q_end <| r_then_normal <| r_retc ?_
   exact r_ret2 [_] rfl (.tmp rfl) (.tmp rfl) (List.Sublist.refl _) ⟨_, rfl, rfl, by rw [hk]; exact ⟨rfl, rfl⟩⟩
theorem estarts_spec (g : Ghost) (t : Tok) : Pure Tryz.prog 192 [tokV t] g (.bool (startsE t)) := by
 refine spec_of_run Tryz.func192 rfl Tryz.ntmps192 rfl fun E hE => ?_
 refine r_sr ?_
 refine r_box rfl rfl rfl (fun b1 => ?_)
 refine r_ev rfl rfl <| r_nn <| r_seq <| r_sr <| r_fieldAddr rfl rfl <| r_loadB1 0 rfl rfl rfl rfl <| r_nn <| r_block <| r_seq <| r_sr <| r_ev rfl rfl <| r_ev rfl rfl <| r_nn ?_
 refine r_cond rfl (fun h1 => ?_) (fun h1 => ?_)
 ·refine r_skip <| r_then_normal ?_
  refine r_cond rfl (fun k1 => ?_) (fun k1 => ?_)
  ·refine r_sr <| r_ev rfl rfl <| r_nn <| r_retc <| r_in_ret <| r_then_ret ?_
   exact r_ret1 [] rfl rfl (by simp) ⟨by simp [startsE, h1], rfl, rfl⟩
  ·exact absurd h1 k1
 refine r_sr <| r_ev rfl rfl <| r_ev rfl rfl <| r_nn ?_
 refine r_cond rfl (fun h2 => ?_) (fun h2 => ?_)
 ·refine r_skip <| r_then_normal ?_
  refine r_cond rfl (fun k2 => ?_) (fun k2 => ?_)
  ·refine r_sr <| r_ev rfl rfl <| r_nn <| r_retc <| r_in_ret <| r_then_ret ?_
   exact r_ret1 [] rfl rfl (by simp) ⟨by simp [startsE, h2], rfl, rfl⟩
  ·exact absurd h2 k2
 refine r_region <| r_ev rfl rfl <| r_ev rfl rfl <| r_nn ?_
 refine r_cond rfl (fun h3 => ?_) (fun h3 => ?_)
 ·refine r_sr <| r_ev rfl rfl <| r_nn <| r_retc <| r_in_ret <| r_then_ret ?_
  exact r_ret1 [] rfl rfl (by simp) ⟨by simp [startsE, h3], rfl, rfl⟩
 refine r_sr <| r_ev rfl rfl <| r_ev rfl rfl <| r_nn ?_
 refine r_cond rfl (fun h5 => ?_) (fun h5 => ?_)
 ·refine r_sr <| r_fieldAddr rfl rfl <| r_loadB1 0 rfl rfl rfl rfl <| r_ev rfl rfl <| r_ev rfl rfl ?_
  refine r_gdec rfl rfl (fun h6 => ?_) (fun h6 => ?_)
  ·refine r_pass rfl rfl rfl <| r_pass rfl rfl rfl <| r_pass rfl rfl rfl <| r_ev rfl rfl <| r_ev rfl rfl <| r_pass rfl rfl rfl <| r_pass rfl rfl rfl <| r_pass rfl rfl rfl <| r_ev rfl rfl <| r_ev rfl rfl <| r_nn <| r_retc <| r_in_ret <| r_then_ret ?_
   exact r_ret1 [] rfl rfl (by simp) ⟨by simp [startsE, h5, h6], rfl, rfl⟩
  refine r_take rfl <| r_fieldAddr rfl rfl <| r_take rfl <| r_loadB1 0 rfl rfl rfl rfl <| r_tev rfl rfl rfl <| r_ev rfl rfl <| r_ev rfl rfl ?_
  refine r_gdec rfl rfl (fun h7 => ?_) (fun h7 => ?_)
  ·refine r_pass rfl rfl rfl <| r_pass rfl rfl rfl <| r_pass rfl rfl rfl <| r_ev rfl rfl <| r_ev rfl rfl <| r_nn <| r_retc <| r_in_ret <| r_then_ret ?_
   exact r_ret1 [] rfl rfl (by simp) ⟨by simp [startsE, h5, h7], rfl, rfl⟩
  refine r_take rfl <| r_fieldAddr rfl rfl <| r_take rfl <| r_loadB1 0 rfl rfl rfl rfl <| r_tev rfl rfl rfl <| r_ev rfl rfl <| r_ev rfl rfl <| r_nn <| r_retc <| r_in_ret <| r_then_ret ?_
  exact r_ret1 [] rfl rfl (by simp) ⟨by simp [startsE, h5, h6, h7], rfl, rfl⟩
 ·refine r_skip <| r_in_normal <| r_then_normal <| r_sr <| r_ev rfl rfl <| r_nn <| r_retc ?_
  exact r_ret1 [] rfl rfl (by simp) ⟨by simp [startsE, h1, h2, h3, h5], rfl, rfl⟩
theorem estart_spec (g : Ghost) (l : List Tok) (lv : Value) (hs : ToksAt g lv l) (i : Int) : Eng.Spec Tryz.prog 116 [lv, .int .i64 i] g [] fun v g' own' => g' = g ∧ ∃ b, v = ptr b 0 ∧ own' = [rdE b lv (idxOf l.length i) 0] := by
 obtain ⟨a, c, rfl⟩ := slForm2 hs
 refine spec_of_run Tryz.func116 rfl Tryz.ntmps116 rfl fun E hE => ?_
 refine r_sr <| r_ev rfl rfl <| r_nn <| r_seq <| r_sr <| r_ev rfl rfl <| r_ev rfl rfl <| r_nn ?_
 refine r_cond rfl (fun h1 => ?_) (fun h1 => ?_)
 ·have hx : idxOf l.length i = l.length := by simp [idxOf, h1]
  refine r_region <| r_ev rfl rfl <| r_len_sl rfl rfl <| r_ev rfl rfl <| r_nn <| r_sr <| r_ev rfl rfl <| r_ev rfl rfl <| r_ev rfl rfl <| r_len_sl rfl rfl <| r_min rfl rfl rfl <| r_build rfl rfl (by rfl) ?_
  refine r_box rfl rfl rfl (fun b => ?_)
  refine r_ev rfl rfl <| r_nn <| r_retc ?_
  exact r_ret1 [_] rfl rfl (List.Sublist.refl _) ⟨rfl, b, rfl, by rw [hx]; simp⟩
 ·have hx : ((idxOf l.length i : Nat) : Int) = min i l.length := by simp only [idxOf, h1, if_false]; omega
  refine r_skip <| r_then_normal <| r_sr <| r_ev rfl rfl <| r_ev rfl rfl <| r_ev rfl rfl <| r_len_sl rfl rfl <| r_min rfl rfl rfl <| r_build rfl rfl (by rfl) ?_
  refine r_box rfl rfl rfl (fun b => ?_)
  refine r_ev rfl rfl <| r_nn <| r_retc ?_
  exact r_ret1 [_] rfl rfl (List.Sublist.refl _) ⟨rfl, b, rfl, by rw [← hx]⟩
end Go.Proofs.YtpjehhnaojjanaaGreatDoor
-- sum 83ccbc123e3a3130


/- The walks of chapter 4 and of chapter 6's laws: Equal, sameAll. -/
namespace Go.Proofs.YtpjehhnaojjanaaGreatDoor
open Go Go.Eng Go.Th Go.Proofs
set_option maxRecDepth 10000
set_option maxHeartbeats 4000000
attribute [local irreducible] wpList Code.wp Run bodyPost Go.Eng.Ends Exit.then Exit.inBlock Again Wq Kq
theorem Equal4_aux (g : Ghost) : ∀ (N : Nat) (g : Ghost) (a c : Ex) (u v : Value), sizeE a < N → sizeE a ≤ 1000000 → sizeE c ≤ 1000000 → eraseE a = eraseE c → ExV g u a → ExV g v c → Pure Tryz.prog 28 [u, v] g (.bool true)
 | 0, _, _, _, _, _, h, _, _, _, _, _ => by omega
 | N + 1, g, a, c, u, v, hN, ha, hc, he, hu, hv => by
  have ih := Equal4_aux g N
  obtain ⟨f1, f2, f3, f4, f5, f6, f7, f8⟩ := erase_parts he
  have hcl := childE_len a
  have hcl2 : (childE a).length = a.kids.length + a.arms.length := by simp [childE]
  have hu0 := hu
  have hv0 := hv
  obtain ⟨a1, c1, a2, c2, a3, m3, c3, xk, xa, rfl, h1, h2, h3, h4, h5⟩ := hu.open
  obtain ⟨b1, d1, b2, d2, b3, n3, d3, yk, ya, rfl, g1, g2, g3, g4, g5⟩ := hv.open
  rw [← f1, ← f2, ← f3, ← f4, ← f5, ← f6] at hv0 ⊢
  rw [← f4] at g5
  rw [← f5] at g1
  rw [← f6] at g3
  refine spec_of_run Tryz.func28 rfl Tryz.ntmps28 rfl fun E hE => ?_
  refine r_sr ?_
  refine r_box rfl rfl rfl (fun p2 => ?_)
  refine r_box rfl rfl rfl (fun p3 => ?_)
  refine r_ev rfl rfl <| r_nn <| r_seq <| r_sr <| r_fieldAddr rfl rfl <| r_loadB1 1 rfl rfl rfl rfl <| r_fieldAddr rfl rfl <| r_loadB1 0 rfl rfl rfl rfl <| r_ev rfl rfl <| r_ev rfl rfl ?_
  refine r_gdec rfl rfl (fun h => absurd rfl h) (fun _ => ?_)
  refine r_take rfl <| r_fieldAddr rfl rfl <| r_take rfl <| r_loadB1 1 rfl rfl rfl rfl <| r_take rfl <| r_fieldAddr rfl rfl <| r_take rfl <| r_loadB1 0 rfl rfl rfl rfl <| r_tev rfl rfl rfl <| r_ev rfl rfl <| r_ev rfl rfl ?_
  refine r_gdec rfl rfl (fun h => absurd rfl h) (fun _ => ?_)
  refine r_take rfl <| r_fieldAddr rfl rfl <| r_take rfl <| r_loadB1 1 rfl rfl rfl rfl <| r_take rfl <| r_fieldAddr rfl rfl <| r_take rfl <| r_loadB1 0 rfl rfl rfl rfl <| r_tev rfl rfl rfl <| r_ev rfl rfl <| r_ev rfl rfl ?_
  refine r_gdec rfl rfl (fun h => absurd rfl h) (fun _ => ?_)
  refine r_take rfl <| r_fieldAddr rfl rfl <| r_take rfl <| r_loadB 1 rfl rfl rfl (by rfl) ?_; refine r_take rfl <| r_fieldAddr rfl rfl <| r_take rfl <| r_loadB 0 rfl rfl rfl (by rfl) ?_; refine r_take rfl ?_
  refine r_callP rfl rfl (Equal_spec g a.ty _ _ ⟨_, rfl, h5⟩ ⟨_, rfl, g5⟩) ?_
  refine r_tev rfl rfl rfl <| r_ev rfl rfl <| r_ev rfl rfl <| r_take rfl <| r_fieldAddr rfl rfl <| r_take rfl <| r_loadB1 1 rfl rfl rfl rfl <| r_take rfl <| r_len_sl rfl rfl <| r_take rfl <| r_fieldAddr rfl rfl <| r_take rfl <| r_loadB1 0 rfl rfl rfl rfl <| r_take rfl ?_; refine r_len_sl rfl rfl <| r_tev rfl rfl rfl <| r_ev rfl rfl <| r_ev rfl rfl ?_
  refine r_gdec rfl rfl (fun h => absurd rfl h) (fun _ => ?_)
  refine r_take rfl <| r_fieldAddr rfl rfl <| r_take rfl <| r_loadB1 1 rfl rfl rfl rfl <| r_take rfl <| r_len_sl rfl rfl <| r_take rfl <| r_fieldAddr rfl rfl <| r_take rfl <| r_loadB1 0 rfl rfl rfl rfl <| r_take rfl <| r_len_sl rfl rfl <| r_tev rfl rfl rfl <| r_ev rfl rfl ?_; refine r_nn ?_
  refine r_cond rfl (fun h => absurd rfl h) (fun _ => ?_)
  refine r_skip <| r_then_normal <| r_seq <| r_sr <| r_ev rfl rfl <| r_nn <| r_block ?_
  refine r_loop (ι := Nat) (fun i => [(2, ptr p2 0), (3, ptr p3 0), (5, .int .i64 i)]) (fun _ => g) (fun _ => [.blk p3 51 [.int .i64 a.kind, .int .i64 c.pos, str a.name, .int .i64 a.num, .slice b1 a.kids.length d1, .slice b2 a.arms.length d2, .int .i64 a.ty.kind, str a.ty.name, .int .i64 a.ty.id, .int .i64 a.ty.home, .slice b3 n3 d3], .blk p2 51 [.int .i64 a.kind, .int .i64 a.pos, str a.name, .int .i64 a.num, .slice a1 a.kids.length c1, .slice a2 a.arms.length c2, .int .i64 a.ty.kind, str a.ty.name, .int .i64 a.ty.id, .int .i64 a.ty.home, .slice a3 m3 c3]]) (fun i => i ≤ a.arms.length) (fun i => a.arms.length - i) 0 (Nat.zero_le _) ⟨rfl, rfl, rfl, trivial⟩ rfl rfl ?_
  intro i hi
  refine r_seq <| r_sr <| r_ev rfl rfl <| r_fieldAddr rfl rfl <| r_loadB1 1 rfl rfl rfl rfl <| r_len_sl rfl rfl <| r_ev rfl rfl <| r_nn ?_
  refine r_cond rfl (fun hlt => ?_) (fun hlt => ?_)
  ·have hlt' : i < a.arms.length := by omega
   have hlt2 : i < c.arms.length := by omega
   obtain ⟨e1, e2⟩ := f7 i hlt' hlt2
   obtain ⟨bb, off, cap, hsl, hxx⟩ := h3.held hlt'
   cases hsl
   obtain ⟨bb', off', cap', hsl', hyy⟩ := g3.held hlt'
   cases hsl'
   obtain ⟨sv, bc, hb1, _, hr⟩ := ars_rd (own := [.blk p3 51 [.int .i64 a.kind, .int .i64 c.pos, str a.name, .int .i64 a.num, .slice b1 a.kids.length d1, .slice (some ⟨bb', off', none⟩) a.arms.length d2, .int .i64 a.ty.kind, str a.ty.name, .int .i64 a.ty.id, .int .i64 a.ty.home, .slice b3 n3 d3], .blk p2 51 [.int .i64 a.kind, .int .i64 a.pos, str a.name, .int .i64 a.num, .slice a1 a.kids.length c1, .slice (some ⟨bb, off, none⟩) a.arms.length c2, .int .i64 a.ty.kind, str a.ty.name, .int .i64 a.ty.id, .int .i64 a.ty.home, .slice a3 m3 c3]]) h4 hxx hlt'
   obtain ⟨sv', bc', hb1', _, hr'⟩ := ars_rd (own := [.blk p3 51 [.int .i64 a.kind, .int .i64 c.pos, str a.name, .int .i64 a.num, .slice b1 a.kids.length d1, .slice (some ⟨bb', off', none⟩) a.arms.length d2, .int .i64 a.ty.kind, str a.ty.name, .int .i64 a.ty.id, .int .i64 a.ty.home, .slice b3 n3 d3], .blk p2 51 [.int .i64 a.kind, .int .i64 a.pos, str a.name, .int .i64 a.num, .slice a1 a.kids.length c1, .slice (some ⟨bb, off, none⟩) a.arms.length c2, .int .i64 a.ty.kind, str a.ty.name, .int .i64 a.ty.id, .int .i64 a.ty.home, .slice a3 m3 c3]]) g4 hyy hlt2
   rw [← e1] at hr'
   rw [← e2] at hb1'
   refine r_skip <| r_then_normal <| r_seq <| r_block <| r_seq ?_
   refine r_qregion mixed (by kernel_rfl) ?_
   refine q_v rfl (val_fieldAddr rfl) ?_; refine q_v rfl (val_loadB1 1 rfl rfl rfl) ?_; refine q_ev rfl rfl <| q_v rfl (val_indexAddr rfl rfl rfl (by omega)) ?_; refine q_v rfl (val_fieldAddr rfl) ?_
   refine q_v rfl (val_load1 rfl (hr.at1 1 rfl)) ?_
   refine q_v rfl (val_fieldAddr rfl) ?_; refine q_v rfl (val_loadB1 0 rfl rfl rfl) ?_; refine q_ev rfl rfl <| q_v rfl (val_indexAddr rfl rfl rfl (by omega)) ?_; refine q_v rfl (val_fieldAddr rfl) ?_
   refine q_v rfl (val_load1 rfl (hr'.at1 1 rfl)) ?_
   refine q_ev rfl rfl <| q_ev rfl rfl ?_
   refine q_gdec rfl rfl (fun h => absurd rfl h) (fun _ => ?_)
   refine q_take rfl <| q_v rfl (val_fieldAddr rfl) ?_; refine q_take rfl <| q_v rfl (val_loadB1 1 rfl rfl rfl) ?_; refine q_tev rfl rfl rfl <| q_take rfl <| q_v rfl (val_indexAddr rfl rfl rfl (by omega)) ?_; refine q_take rfl <| q_v rfl (val_fieldAddr rfl) ?_; refine q_take rfl ?_
   refine q_v rfl (val_load1 rfl (hr.at1 2 rfl)) ?_
   refine q_take rfl <| q_v rfl (val_fieldAddr rfl) ?_; refine q_take rfl <| q_v rfl (val_loadB1 0 rfl rfl rfl) ?_; refine q_tev rfl rfl rfl <| q_take rfl <| q_v rfl (val_indexAddr rfl rfl rfl (by omega)) ?_; refine q_take rfl <| q_v rfl (val_fieldAddr rfl) ?_; refine q_take rfl ?_
   refine q_v rfl (val_load1 rfl (hr'.at1 2 rfl)) ?_
   refine q_take rfl ?_
   refine q_callP rfl rfl (words4_spec g _ _ _ hb1 hb1') ?_
   refine q_tev rfl rfl rfl <| q_ev rfl rfl <| q_end <| r_then_normal <| r_cond_false rfl <| r_skip <| r_in_normal <| r_then_normal <| r_region <| r_ev rfl rfl <| r_add rfl rfl rfl (by omega) ?_; refine r_ev rfl rfl <| r_nn ?_
   exact r_again (i + 1) (by omega) (by omega) ⟨rfl, rfl, rfl, trivial⟩ rfl rfl
  ·refine r_exit <| r_then_exit <| r_then_exit <| r_in_exit <| r_then_normal <| r_seq ?_
   -- STOPA
   refine h_beginE [] mixed (fun hG => ?_)
   refine h_takeXA 0 rfl (by kernel_rfl) rfl hG ?_; refine ⟨_, (val_loadB 1 rfl rfl (by rfl)), ?_⟩
   refine h_takeXA 2 rfl (by kernel_rfl) rfl hG ?_; refine ⟨_, (val_loadB 0 rfl rfl (by rfl)), ?_⟩
   refine h_one 1 (by kernel_rfl) rfl ?_
   refine r_callN rfl rfl (Children_spec g _ a hu0 ha) ?_
   rintro w g1' ⟨xs, hs1, hx1⟩ hle1
   refine r_nn ?_
   refine h_keptA hG ?_
   refine h_one 3 (by kernel_rfl) rfl ?_
   refine r_callN rfl rfl (Children_spec g1' _ c (hv0.mono hle1) hc) ?_
   rintro w2 g2' ⟨ys, hs2, hx2⟩ hle2
   have hle12 := Ghost.le_trans hle1 hle2
   refine r_nn ?_
   refine h_keptA hG ?_
   refine h_one 4 (by kernel_rfl) rfl ?_
   refine r_callP rfl rfl (EqualAll4_of g2' (childE a) (childE c) (by simpa using congrArg List.length f8) (fun i h h' u v h1 h2 => ih g2' _ _ u v (by
    have := childE_size (List.getElem_mem h)
    omega) (by have := childE_size (List.getElem_mem h); omega) (by have := childE_size (List.getElem_mem h'); omega) (by
    have : ((childE a).map eraseE)[i]? = ((childE c).map eraseE)[i]? := by rw [f8]
    simpa [h, h'] using this) h1 h2) _ _ _ _ (hs1.mono hle2) (ExsAt.mono hle2 _ _ hx1) hs2 hx2) ?_
   refine r_nn ?_
   refine h_keptA hG ?_
   refine h_one 5 (by kernel_rfl) rfl ?_
   refine r_ev rfl rfl <| r_nn ?_
   refine h_keptA hG ?_
   refine h_done (by kernel_rfl) ?_
   refine r_shrink hE hle12 ?_
   refine r_then_normal <| r_retc ?_
   exact r_ret1 [] rfl rfl (by simp) ⟨rfl, rfl, rfl⟩
theorem Equal4_spec (g : Ghost) (a c : Ex) (u v : Value) (ha : sizeE a ≤ 1000000) (hc : sizeE c ≤ 1000000) (he : eraseE a = eraseE c) (hu : ExV g u a) (hv : ExV g v c) : Pure Tryz.prog 28 [u, v] g (.bool true) := Equal4_aux g _ g a c u v (Nat.lt_succ_self _) ha hc he hu hv
end Go.Proofs.YtpjehhnaojjanaaGreatDoor
-- sum 3c6cb7710a29f47d

/- The canonical text of a type is read as this type, in parentheses too. -/
namespace Go.Proofs.YtpjehhnaojjanaaGreatDoor
open Go Go.Eng Go.Th Go.Proofs
end Go.Proofs.YtpjehhnaojjanaaGreatDoor
-- sum cc73277c9c5c4e7a

/- A row as a block: stores into a row. -/
namespace Go.Eng
open Go Go.RowKit
section
variable {E : Env} {n : Nat} {L : Slots} {g : Ghost} {own : List Res}
end
end Go.Eng
-- sum 197897c61d0796c5


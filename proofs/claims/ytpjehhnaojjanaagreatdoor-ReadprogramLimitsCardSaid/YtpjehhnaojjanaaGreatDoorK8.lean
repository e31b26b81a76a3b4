/- The walks of package readexpr: the small methods of its reader. -/
import Derived.Test.YtpjehhnaojjanaaGreatDoorK6
import Derived.Test.YtpjehhnaojjanaaGreatDoorK7
import Derived.Test.YtpjehhnaojjanaaGreatDoorK1
import Derived.Test.YtpjehhnaojjanaaGreatDoorK3
import Derived.ProofKit
namespace Go.Proofs.YtpjehhnaojjanaaGreatDoor
open Go Go.Eng Go.Th Go.Proofs
set_option maxRecDepth 10000
set_option maxHeartbeats 4000000
attribute [local irreducible] wpList Code.wp Run bodyPost Go.Eng.Ends Exit.then Exit.inBlock Again Wq Kq
abbrev rdE (b : Nat) (lv : Value) (i : Nat) (p : Int) : Res := .blk b 180 [lv, .int .i64 i, .int .i64 p]
abbrev missV (w : Bytes) : Value := .iface 282 (.agg #[str w])
abbrev unexpV : Value := .iface 183 (.agg #[])
theorem tokAt_get {l : List Tok} {i : Nat} (h : i < l.length) (k : Int) (w : Bytes) : tokAt l i k w = (decide (l[i].kind = k) && decide (l[i].text = w)) := by unfold tokAt; rw [toks_some h]
theorem tokAt_end {l : List Tok} {i : Nat} (h : ¬ i < l.length) (k : Int) (w : Bytes) : tokAt l i k w = false := by unfold tokAt; rw [List.getElem?_eq_none (by omega)]
theorem enext_spec (g : Ghost) (l : List Tok) (lv : Value) (hs : ToksAt g lv l) (b i : Nat) (p k : Int) (w : Bytes) : PureO Tryz.prog 187 [ptr b 0, .int .i64 k, str w] g (rdE b lv i p) (.bool (tokAt l i k w)) := by
 refine spec_of_run Tryz.func187 rfl Tryz.ntmps187 rfl fun E hE => ?_
 refine r_sr <| r_ev rfl rfl <| r_nn <| r_seq ?_
 refine r_qregion mixed (by kernel_rfl) ?_
 refine q_ev rfl rfl <| q_ev rfl rfl <| q_v rfl (val_fieldAddr rfl) ?_; refine q_v rfl (val_loadB1 0 rfl rfl rfl) ?_; refine q_ev rfl rfl <| q_ev rfl rfl <| q_v rfl (val_fieldAddr rfl) ?_; refine q_v rfl (val_loadB1 0 rfl rfl rfl) ?_; refine q_v rfl (val_len_at rfl (by assumption)) ?_; refine q_ev rfl rfl <| q_ev rfl rfl ?_
 refine q_gdec rfl rfl (fun hlt => ?_) (fun hlt => ?_)
 ·have hlt' : i < l.length := by omega
  have hk := tokAt_get hlt' k w
  obtain ⟨b0, off, cap, rfl, hx⟩ := hs.held hlt'
  refine q_tev rfl rfl rfl <| q_tev rfl rfl rfl <| q_take rfl <| q_v rfl (val_fieldAddr rfl) ?_; refine q_take rfl <| q_v rfl (val_loadB1 0 rfl rfl rfl) ?_; refine q_tev rfl rfl rfl <| q_tev rfl rfl rfl <| q_take rfl <| q_v rfl (val_fieldAddr rfl) ?_; refine q_take rfl <| q_v rfl (val_loadB1 0 rfl rfl rfl) ?_; refine q_take rfl <| q_v rfl (val_indexAddr rfl rfl rfl (by omega)) ?_; refine q_take rfl <| q_v rfl (val_fieldAddr rfl) ?_; refine q_take rfl ?_
  refine q_v rfl (val_load1 rfl (SlAt.cell tokCells_len hx hlt' 0 rfl)) ?_
  refine q_tev rfl rfl rfl <| q_tev rfl rfl rfl <| q_ev rfl rfl <| q_ev rfl rfl ?_
  refine q_gdec rfl rfl (fun h5 => ?_) (fun h5 => ?_)
  ·refine q_tev rfl rfl rfl <| q_tev rfl rfl rfl <| q_take rfl <| q_v rfl (val_fieldAddr rfl) ?_; refine q_take rfl <| q_v rfl (val_loadB1 0 rfl rfl rfl) ?_; refine q_tev rfl rfl rfl <| q_tev rfl rfl rfl <| q_take rfl <| q_v rfl (val_fieldAddr rfl) ?_; refine q_take rfl <| q_v rfl (val_loadB1 0 rfl rfl rfl) ?_; refine q_take rfl <| q_v rfl (val_indexAddr rfl rfl rfl (by omega)) ?_; refine q_take rfl <| q_v rfl (val_fieldAddr rfl) ?_; refine q_take rfl ?_
   refine q_v rfl (val_load1 rfl (SlAt.cell tokCells_len hx hlt' 1 rfl)) ?_
   refine q_tev rfl rfl rfl <| q_tev rfl rfl rfl <| q_ev rfl rfl <| q_ev rfl rfl <| q_end <| r_then_normal <| r_retc ?_
   exact r_ret1 [_] rfl rfl (List.Sublist.refl _) ⟨by rw [hk]; simp [h5], rfl, rfl⟩
  ·refine q_pass rfl rfl rfl <| q_pass rfl rfl rfl <| q_pass rfl rfl rfl <| q_pass rfl rfl rfl <| q_pass rfl rfl rfl <| q_pass rfl rfl rfl <| q_pass rfl rfl rfl <| q_pass rfl rfl rfl <| q_pass rfl rfl rfl <| q_pass rfl rfl rfl <| q_pass rfl rfl rfl <| q_pass rfl rfl rfl <| q_pass rfl rfl rfl <| q_ev rfl rfl ?_; refine q_ev rfl rfl <| q_end <| r_then_normal <| r_retc ?_
   exact r_ret1 [_] rfl rfl (List.Sublist.refl _) ⟨by rw [hk]; simp [h5], rfl, rfl⟩
 ·have hk := tokAt_end (l := l) (i := i) (by omega) k w
  refine q_pass rfl rfl rfl <| q_pass rfl rfl rfl <| q_pass rfl rfl rfl <| q_pass rfl rfl rfl <| q_pass rfl rfl rfl <| q_pass rfl rfl rfl <| q_pass rfl rfl rfl <| q_pass rfl rfl rfl <| q_pass rfl rfl rfl <| q_pass rfl rfl rfl <| q_pass rfl rfl rfl <| q_pass rfl rfl rfl <| q_pass rfl rfl rfl <| q_ev rfl rfl ?_; refine q_ev rfl rfl <| q_pass rfl rfl rfl <| q_pass rfl rfl rfl <| q_pass rfl rfl rfl <| q_pass rfl rfl rfl <| q_pass rfl rfl rfl <| q_pass rfl rfl rfl <| q_pass rfl rfl rfl <| q_pass rfl rfl rfl <| q_pass rfl rfl rfl <| q_pass rfl rfl rfl <| q_pass rfl rfl rfl <| q_pass rfl rfl rfl <| q_pass rfl rfl rfl ?_; refine q_ev rfl rfl <| q_ev rfl rfl <| q_end <| r_then_normal <| r_retc ?_
  exact r_ret1 [_] rfl rfl (List.Sublist.refl _) ⟨by rw [hk], rfl, rfl⟩
theorem eread_spec (g : Ghost) (l : List Tok) (hb : TB l) (lv : Value) (hs : ToksAt g lv l) (b i : Nat) (p k : Int) (w : Bytes) : SpecL Tryz.prog 154 [ptr b 0, .int .i64 k, str w] g (rdE b lv i p) fun v g' r' => v = .bool (tokAt l i k w) ∧ g' = g ∧ r' = rdE b lv (if tokAt l i k w then i + 1 else i) p := by
 have hb1 := hb.1
 refine spec_of_run Tryz.func154 rfl Tryz.ntmps154 rfl fun E hE => ?_
 refine r_sr <| r_ev rfl rfl <| r_nn <| r_seq <| r_sr <| r_ev rfl rfl <| r_ev rfl rfl <| r_ev rfl rfl ?_
 refine r_callO 0 rfl rfl rfl (enext_spec g l lv hs b i p k w) ?_
 cases hk : tokAt l i k w with
 | false =>
  refine r_ev rfl rfl <| r_nn <| r_cond_true rfl <| r_sr <| r_ev rfl rfl <| r_nn <| r_retc <| r_then_ret ?_
  exact r_ret1 [_] rfl rfl (List.Sublist.refl _) ⟨_, rfl, rfl, rfl, rfl⟩
 | true =>
  have := tokAt_lt hk
  obtain ⟨a, m, c, rfl⟩ := SlAt.form hs
  refine r_ev rfl rfl <| r_nn <| r_cond_false rfl <| r_skip <| r_then_normal <| r_sr <| r_ev rfl rfl <| r_ev rfl rfl <| r_fieldAddr rfl rfl <| r_loadB1 0 rfl rfl rfl rfl <| r_add rfl rfl rfl (by omega) ?_; refine r_ev rfl rfl <| r_fieldAddr rfl rfl <| r_store1 0 rfl rfl rfl rfl rfl rfl <| r_nn <| r_sr <| r_ev rfl rfl <| r_nn <| r_retc ?_
  exact r_ret1 [_] rfl rfl (List.Sublist.refl _) ⟨_, rfl, rfl, rfl, rfl⟩
theorem efail_spec (g : Ghost) (l : List Tok) (hb : TB l) (lv : Value) (hs : ToksAt g lv l) (b i : Nat) (w : Bytes) : SpecL Tryz.prog 212 [ptr b 0, str w] g (rdE b lv i 0) fun v g' r' => v = missV w ∧ g' = g ∧ r' = rdE b lv i (failPos l i) := by
 refine spec_of_run Tryz.func212 rfl Tryz.ntmps212 rfl fun E hE => ?_
 refine r_sr <| r_ev rfl rfl <| r_nn <| r_sr <| r_ev rfl rfl <| r_ev rfl rfl <| r_fieldAddr rfl rfl <| r_loadB1 0 rfl rfl rfl rfl <| r_len_at rfl rfl (by assumption) ?_; refine r_ev rfl rfl <| r_nn <| r_seq <| r_block <| r_sr <| r_ev rfl rfl <| r_ev rfl rfl <| r_fieldAddr rfl rfl <| r_loadB1 0 rfl rfl rfl rfl <| r_ev rfl rfl <| r_ev rfl rfl <| r_ev rfl rfl <| r_nn ?_
 refine r_cond rfl (fun hlt => ?_) (fun hlt => ?_)
 ·have hlt' : i < l.length := by omega
  have hf : failPos l i = l[i].pos := by unfold failPos; rw [toks_some hlt']
  obtain ⟨b0, off, cap, rfl, hx⟩ := hs.held hlt'
  skip
  refine s_region 14 mixed (by kernel_rfl) ?_
  refine s_v rfl ⟨_, (val_ev rfl), ?_⟩; refine s_v rfl ⟨_, (val_ev rfl), ?_⟩; refine s_v rfl ⟨_, (val_ev rfl), ?_⟩; refine s_v rfl ⟨_, (val_fieldAddr rfl), ?_⟩; refine s_v rfl ⟨_, (val_loadB1 0 rfl rfl rfl), ?_⟩; refine s_v rfl ⟨_, (val_ev rfl), ?_⟩; refine s_v rfl ⟨_, (val_ev rfl), ?_⟩; refine s_v rfl ⟨_, (val_fieldAddr rfl), ?_⟩; refine s_v rfl ⟨_, (val_loadB1 0 rfl rfl rfl), ?_⟩; refine s_v rfl ⟨_, (val_indexAddr rfl rfl rfl (by omega)), ?_⟩; refine s_v rfl ⟨_, (val_fieldAddr rfl), ?_⟩
  refine s_v rfl ⟨_, val_load1 rfl (SlAt.cell tokCells_len hx hlt' 2 rfl), ?_⟩
  refine s_v rfl ⟨_, (val_ev rfl), ?_⟩; refine s_v rfl ⟨_, (val_fieldAddr rfl), ?_⟩; refine s_end ?_
  refine r_store1 0 rfl rfl rfl rfl rfl rfl <| r_nil <| r_in_normal <| r_then_normal <| r_sr <| r_ev rfl rfl <| r_build rfl rfl (by rfl) ?_; refine r_mkIface rfl rfl <| r_ev rfl rfl <| r_nn <| r_retc ?_
  exact r_ret1 [_] rfl rfl (List.Sublist.refl _) ⟨_, rfl, rfl, rfl, by rw [hf]⟩
 ·have hn : l[i]? = none := List.getElem?_eq_none (by omega)
  refine r_sr <| r_ev rfl rfl <| r_ev rfl rfl <| r_ev rfl rfl <| r_nn ?_
  refine r_cond rfl (fun h0 => ?_) (fun h0 => ?_)
  ·have h0' : l.length - 1 < l.length := by omega
   have hb1 := hb.1
   have hb2 := hb.2 _ (List.getElem_mem h0')
   obtain ⟨b0, off, cap, rfl, hx⟩ := hs.held h0'
   have hf : failPos l i = l[l.length - 1].pos + l[l.length - 1].text.length := by
    unfold failPos; rw [hn, List.getLast?_eq_getElem?, toks_some h0']
   skip
   refine s_region 23 mixed (by kernel_rfl) ?_
   refine s_v rfl ⟨_, (val_ev rfl), ?_⟩; refine s_v rfl ⟨_, (val_ev rfl), ?_⟩; refine s_v rfl ⟨_, (val_ev rfl), ?_⟩; refine s_v rfl ⟨_, (val_fieldAddr rfl), ?_⟩; refine s_v rfl ⟨_, (val_loadB1 0 rfl rfl rfl), ?_⟩; refine s_v rfl ⟨_, (val_ev rfl), ?_⟩; refine s_v rfl ⟨_, (val_sub_ rfl rfl (by omega)), ?_⟩
   refine s_v rfl ⟨_, val_indexAddr (j := l.length - 1) rfl rfl (by omega) h0', ?_⟩
   refine s_v rfl ⟨_, (val_fieldAddr rfl), ?_⟩
   refine s_v rfl ⟨_, val_load1 rfl (SlAt.cell tokCells_len hx h0' 2 rfl), ?_⟩
   refine s_v rfl ⟨_, (val_ev rfl), ?_⟩; refine s_v rfl ⟨_, (val_ev rfl), ?_⟩; refine s_v rfl ⟨_, (val_fieldAddr rfl), ?_⟩; refine s_v rfl ⟨_, (val_loadB1 0 rfl rfl rfl), ?_⟩; refine s_v rfl ⟨_, (val_ev rfl), ?_⟩; refine s_v rfl ⟨_, (val_sub_ rfl rfl (by omega)), ?_⟩
   refine s_v rfl ⟨_, val_indexAddr (j := l.length - 1) rfl rfl (by omega) h0', ?_⟩
   refine s_v rfl ⟨_, (val_fieldAddr rfl), ?_⟩
   refine s_v rfl ⟨_, val_load1 rfl (SlAt.cell tokCells_len hx h0' 1 rfl), ?_⟩
   refine s_v rfl ⟨_, (val_len_str rfl), ?_⟩; refine s_v rfl ⟨_, (val_add rfl rfl (by omega)), ?_⟩; refine s_v rfl ⟨_, (val_ev rfl), ?_⟩; refine s_v rfl ⟨_, (val_fieldAddr rfl), ?_⟩; refine s_end ?_
   refine r_store1 0 rfl rfl rfl rfl rfl rfl <| r_nil <| r_in_normal <| r_then_normal <| r_sr <| r_ev rfl rfl <| r_build rfl rfl (by rfl) ?_; refine r_mkIface rfl rfl <| r_ev rfl rfl <| r_nn <| r_retc ?_
   exact r_ret1 [_] rfl rfl (List.Sublist.refl _) ⟨_, rfl, rfl, rfl, by rw [hf]⟩
  ·have hf : failPos l i = 0 := by
    unfold failPos; rw [hn, List.getLast?_eq_getElem?, List.getElem?_eq_none (by omega)]
   refine r_skip <| r_in_normal <| r_then_normal <| r_sr <| r_ev rfl rfl <| r_build rfl rfl (by rfl) ?_; refine r_mkIface rfl rfl <| r_ev rfl rfl <| r_nn <| r_retc ?_
   exact r_ret1 [_] rfl rfl (List.Sublist.refl _) ⟨_, rfl, rfl, rfl, by rw [hf]⟩
theorem ewant_spec (g : Ghost) (l : List Tok) (hb : TB l) (lv : Value) (hs : ToksAt g lv l) (b i : Nat) (k : Int) (w : Bytes) : SpecL Tryz.prog 189 [ptr b 0, .int .i64 k, str w] g (rdE b lv i 0) fun v g' r' => g' = g ∧ (tokAt l i k w = true ∧ v = .nilIface ∧ r' = rdE b lv (i + 1) 0 ∨ tokAt l i k w = false ∧ v = missV w ∧ r' = rdE b lv i (failPos l i)) := by
 refine spec_of_run Tryz.func189 rfl Tryz.ntmps189 rfl fun E hE => ?_
 refine r_sr <| r_ev rfl rfl <| r_nn <| r_seq <| r_sr <| r_ev rfl rfl <| r_ev rfl rfl <| r_ev rfl rfl ?_
 refine r_callL 0 rfl rfl rfl (eread_spec g l hb lv hs b i 0 k w) ?_
 rintro v g' r' ⟨rfl, rfl, rfl⟩ _
 cases hk : tokAt l i k w with
 | false =>
  simp only [Bool.false_eq_true, if_false]
  refine r_ev rfl rfl <| r_nn <| r_cond_true rfl <| r_sr <| r_ev rfl rfl <| r_ev rfl rfl ?_
  refine r_callL 0 rfl rfl rfl (efail_spec g' l hb lv hs b i w) ?_
  rintro v g1 r' ⟨rfl, rfl, rfl⟩ _
  refine r_ev rfl rfl <| r_nn <| r_retc <| r_then_ret ?_
  exact r_ret1 [_] rfl rfl (List.Sublist.refl _) ⟨_, rfl, rfl, .inr ⟨by trivial, rfl, rfl⟩⟩
 | true =>
  simp only [if_true]
  refine r_ev rfl rfl <| r_nn <| r_cond_false rfl <| r_skip <| r_then_normal <| r_sr <| r_ev rfl rfl <| r_nn <| r_retc ?_
  exact r_ret1 [_] rfl rfl (List.Sublist.refl _) ⟨_, rfl, rfl, .inl ⟨by trivial, rfl, rfl⟩⟩
theorem eplace_spec (g : Ghost) (l : List Tok) (lv : Value) (hs : ToksAt g lv l) (b i : Nat) (p : Int) : PureO Tryz.prog 153 [ptr b 0] g (rdE b lv i p) (.int .i64 (posOf l i)) := by
 refine spec_of_run Tryz.func153 rfl Tryz.ntmps153 rfl fun E hE => ?_
 refine r_sr <| r_ev rfl rfl <| r_nn <| r_seq <| r_seq ?_
 refine r_qregion mixed (by kernel_rfl) ?_
 refine q_ev rfl rfl <| q_ev rfl rfl <| q_v rfl (val_fieldAddr rfl) ?_; refine q_v rfl (val_loadB1 0 rfl rfl rfl) ?_; refine q_ev rfl rfl <| q_ev rfl rfl <| q_v rfl (val_fieldAddr rfl) ?_; refine q_v rfl (val_loadB1 0 rfl rfl rfl) ?_; refine q_v rfl (val_len_at rfl (by assumption)) ?_; refine q_ev rfl rfl <| q_end <| r_then_normal ?_
 refine r_cond rfl (fun hlt => ?_) (fun hlt => ?_)
 ·have hlt' : i < l.length := by omega
  have hk : posOf l i = l[i].pos := by unfold posOf; rw [toks_some hlt']
  obtain ⟨b0, off, cap, rfl, hx⟩ := hs.held hlt'
  refine r_seq ?_
  refine r_qregion mixed (by kernel_rfl) ?_
  refine q_ev rfl rfl <| q_ev rfl rfl <| q_v rfl (val_fieldAddr rfl) ?_; refine q_v rfl (val_loadB1 0 rfl rfl rfl) ?_; refine q_ev rfl rfl <| q_ev rfl rfl <| q_v rfl (val_fieldAddr rfl) ?_; refine q_v rfl (val_loadB1 0 rfl rfl rfl) ?_; refine q_v rfl (val_indexAddr rfl rfl rfl (by omega)) ?_; refine q_v rfl (val_fieldAddr rfl) ?_
  refine q_v rfl (val_load1 rfl (SlAt.cell tokCells_len hx hlt' 2 rfl)) ?_
  refine q_ev rfl rfl <| q_end <| r_then_normal <| r_retc <| r_then_ret ?_
  exact r_ret1 [_] rfl rfl (List.Sublist.refl _) ⟨by rw [hk], rfl, rfl⟩
 ·have hk : posOf l i = 0 := by unfold posOf; rw [List.getElem?_eq_none (by omega)]
  refine r_skip <| r_then_normal <| r_sr <| r_ev rfl rfl <| r_nn <| r_retc ?_
  exact r_ret1 [_] rfl rfl (List.Sublist.refl _) ⟨by rw [hk], rfl, rfl⟩
def nameB : Bytes := [110, 97, 109, 101]
theorem nameAt_get {l : List Tok} {i : Nat} (h : i < l.length) (k : Int) : nameAt l i k = if l[i].kind = k then some l[i].text else none := by unfold nameAt; rw [toks_some h]
theorem nameAt_end {l : List Tok} {i : Nat} (h : ¬ i < l.length) (k : Int) : nameAt l i k = none := by unfold nameAt; rw [List.getElem?_eq_none (by omega)]
theorem ename_spec (g : Ghost) (l : List Tok) (hb : TB l) (lv : Value) (hs : ToksAt g lv l) (b i : Nat) (k : Int) : SpecL Tryz.prog 188 [ptr b 0, .int .i64 k] g (rdE b lv i 0) fun v g' r' => g' = g ∧ match nameAt l i k with
  | some t => v = .tuple #[str t, .nilIface] ∧ r' = rdE b lv (i + 1) 0
  | none => v = .tuple #[str [], missV nameB] ∧ r' = rdE b lv i (failPos l i) := by
 have hb1 := hb.1
 refine spec_of_run Tryz.func188 rfl Tryz.ntmps188 rfl fun E hE => ?_
 refine r_sr <| r_ev rfl rfl <| r_ev rfl rfl <| r_nn <| r_seq <| r_seq ?_
 refine r_qregion mixed (by kernel_rfl) ?_
 refine q_ev rfl rfl <| q_ev rfl rfl <| q_v rfl (val_fieldAddr rfl) ?_; refine q_v rfl (val_loadB1 0 rfl rfl rfl) ?_; refine q_ev rfl rfl <| q_ev rfl rfl <| q_v rfl (val_fieldAddr rfl) ?_; refine q_v rfl (val_loadB1 0 rfl rfl rfl) ?_; refine q_v rfl (val_len_at rfl (by assumption)) ?_; refine q_ev rfl rfl <| q_ev rfl rfl ?_
 refine q_gdec rfl rfl (fun hlt => ?_) (fun hlt => ?_)
 ·have hk := nameAt_end (l := l) (i := i) (by omega) k
  refine q_pass rfl rfl rfl <| q_pass rfl rfl rfl <| q_pass rfl rfl rfl <| q_pass rfl rfl rfl <| q_pass rfl rfl rfl <| q_pass rfl rfl rfl <| q_pass rfl rfl rfl <| q_pass rfl rfl rfl <| q_pass rfl rfl rfl <| q_pass rfl rfl rfl <| q_pass rfl rfl rfl <| q_pass rfl rfl rfl <| q_pass rfl rfl rfl <| q_ev rfl rfl ?_; refine q_end <| r_then_normal <| r_cond_true rfl <| r_sr <| r_ev rfl rfl ?_
  refine r_callL 0 rfl rfl rfl (efail_spec g l hb lv hs b i nameB) ?_
  rintro v g1 r' ⟨rfl, rfl, rfl⟩ _
  refine r_ev rfl rfl <| r_ev rfl rfl <| r_nn <| r_retc <| r_then_ret ?_
  exact r_ret2 [_] rfl (.tmp rfl) (.tmp rfl) (List.Sublist.refl _) ⟨_, rfl, rfl, by rw [hk]; exact ⟨rfl, rfl⟩⟩
 ·have hlt' : i < l.length := by omega
  have hk := nameAt_get hlt' k
  obtain ⟨b0, off, cap, rfl, hx⟩ := hs.held hlt'
  refine q_tev rfl rfl rfl <| q_tev rfl rfl rfl <| q_take rfl <| q_v rfl (val_fieldAddr rfl) ?_; refine q_take rfl <| q_v rfl (val_loadB1 0 rfl rfl rfl) ?_; refine q_tev rfl rfl rfl <| q_tev rfl rfl rfl <| q_take rfl <| q_v rfl (val_fieldAddr rfl) ?_; refine q_take rfl <| q_v rfl (val_loadB1 0 rfl rfl rfl) ?_; refine q_take rfl <| q_v rfl (val_indexAddr rfl rfl rfl (by omega)) ?_; refine q_take rfl <| q_v rfl (val_fieldAddr rfl) ?_; refine q_take rfl ?_
  refine q_v rfl (val_load1 rfl (SlAt.cell tokCells_len hx hlt' 0 rfl)) ?_
  refine q_tev rfl rfl rfl <| q_tev rfl rfl rfl <| q_ev rfl rfl <| q_end <| r_then_normal ?_
  refine r_cond rfl (fun h5 => ?_) (fun h5 => ?_)
  ·rw [if_neg h5] at hk
   refine r_sr <| r_ev rfl rfl ?_
   refine r_callL 0 rfl rfl rfl (efail_spec g l hb _ hs b i nameB) ?_
   rintro v g1 r' ⟨rfl, rfl, rfl⟩ _
   refine r_ev rfl rfl <| r_ev rfl rfl <| r_nn <| r_retc <| r_then_ret ?_
   exact r_ret2 [_] rfl (.tmp rfl) (.tmp rfl) (List.Sublist.refl _) ⟨_, rfl, rfl, by rw [hk]; exact ⟨rfl, rfl⟩⟩
  ·rw [if_pos (Decidable.not_not.1 h5)] at hk
   refine r_skip <| r_then_normal <| r_sr <| r_ev rfl rfl <| r_ev rfl rfl <| r_fieldAddr rfl rfl <| r_loadB1 0 rfl rfl rfl rfl <| r_add rfl rfl rfl (by omega) ?_; refine r_ev rfl rfl <| r_fieldAddr rfl rfl <| r_store1 0 rfl rfl rfl rfl rfl rfl <| r_nn <| r_seq ?_
   refine r_qregion mixed (by kernel_rfl) ?_
   refine q_ev rfl rfl <| q_ev rfl rfl <| q_v rfl (val_fieldAddr rfl) ?_; refine q_v rfl (val_loadB1 0 rfl rfl rfl) ?_; refine q_ev rfl rfl <| q_ev rfl rfl <| q_v rfl (val_fieldAddr rfl) ?_; refine q_v rfl (val_loadB1 0 rfl rfl rfl) ?_; refine q_v rfl (val_sub_ rfl rfl (by omega)) ?_
   refine q_v rfl (val_indexAddr (j := i) rfl rfl (by omega) hlt') ?_
   refine q_v rfl (val_fieldAddr rfl) ?_
   refine q_v rfl (val_load1 rfl (SlAt.cell tokCells_len hx hlt' 1 rfl)) ?_
   refine q_ev rfl rfl <| q_ev rfl rfl <| q_end <| r_then_normal <| r_retc ?_
   exact r_ret2 [_] rfl (.tmp rfl) (.tmp rfl) (List.Sublist.refl _) ⟨_, rfl, rfl, by rw [hk]; exact ⟨rfl, rfl⟩⟩
theorem estarts_spec (g : Ghost) (t : Tok) : Pure Tryz.prog 192 [tokV t] g (.bool (startsE t)) := by
 refine spec_of_run Tryz.func192 rfl Tryz.ntmps192 rfl fun E hE => ?_
 refine r_sr ?_
 refine r_box rfl rfl rfl (fun b1 => ?_)
 refine r_ev rfl rfl <| r_nn <| r_seq <| r_sr <| r_fieldAddr rfl rfl <| r_loadB1 0 rfl rfl rfl rfl <| r_nn <| r_block <| r_seq <| r_sr <| r_ev rfl rfl <| r_ev rfl rfl <| r_nn ?_
 refine r_cond rfl (fun h1 => ?_) (fun h1 => ?_)
 ·refine r_skip <| r_then_normal ?_
  refine r_cond rfl (fun k1 => ?_) (fun k1 => ?_)
  ·refine r_sr <| r_ev rfl rfl <| r_nn <| r_retc <| r_in_ret <| r_then_ret ?_
   exact r_ret1 [] rfl rfl (by simp) ⟨by simp [startsE, h1], rfl, rfl⟩
  ·exact absurd h1 k1
 refine r_sr <| r_ev rfl rfl <| r_ev rfl rfl <| r_nn ?_
 refine r_cond rfl (fun h2 => ?_) (fun h2 => ?_)
 ·refine r_skip <| r_then_normal ?_
  refine r_cond rfl (fun k2 => ?_) (fun k2 => ?_)
  ·refine r_sr <| r_ev rfl rfl <| r_nn <| r_retc <| r_in_ret <| r_then_ret ?_
   exact r_ret1 [] rfl rfl (by simp) ⟨by simp [startsE, h2], rfl, rfl⟩
  ·exact absurd h2 k2
 refine r_region <| r_ev rfl rfl <| r_ev rfl rfl <| r_nn ?_
 refine r_cond rfl (fun h3 => ?_) (fun h3 => ?_)
 ·refine r_sr <| r_ev rfl rfl <| r_nn <| r_retc <| r_in_ret <| r_then_ret ?_
  exact r_ret1 [] rfl rfl (by simp) ⟨by simp [startsE, h3], rfl, rfl⟩
 refine r_sr <| r_ev rfl rfl <| r_ev rfl rfl <| r_nn ?_
 refine r_cond rfl (fun h5 => ?_) (fun h5 => ?_)
 ·refine r_sr <| r_fieldAddr rfl rfl <| r_loadB1 0 rfl rfl rfl rfl <| r_ev rfl rfl <| r_ev rfl rfl ?_
  refine r_gdec rfl rfl (fun h6 => ?_) (fun h6 => ?_)
  ·refine r_pass rfl rfl rfl <| r_pass rfl rfl rfl <| r_pass rfl rfl rfl <| r_ev rfl rfl <| r_ev rfl rfl <| r_pass rfl rfl rfl <| r_pass rfl rfl rfl <| r_pass rfl rfl rfl <| r_ev rfl rfl <| r_ev rfl rfl <| r_nn <| r_retc <| r_in_ret <| r_then_ret ?_
   exact r_ret1 [] rfl rfl (by simp) ⟨by simp [startsE, h5, h6], rfl, rfl⟩
  refine r_take rfl <| r_fieldAddr rfl rfl <| r_take rfl <| r_loadB1 0 rfl rfl rfl rfl <| r_tev rfl rfl rfl <| r_ev rfl rfl <| r_ev rfl rfl ?_
  refine r_gdec rfl rfl (fun h7 => ?_) (fun h7 => ?_)
  ·refine r_pass rfl rfl rfl <| r_pass rfl rfl rfl <| r_pass rfl rfl rfl <| r_ev rfl rfl <| r_ev rfl rfl <| r_nn <| r_retc <| r_in_ret <| r_then_ret ?_
   exact r_ret1 [] rfl rfl (by simp) ⟨by simp [startsE, h5, h7], rfl, rfl⟩
  refine r_take rfl <| r_fieldAddr rfl rfl <| r_take rfl <| r_loadB1 0 rfl rfl rfl rfl <| r_tev rfl rfl rfl <| r_ev rfl rfl <| r_ev rfl rfl <| r_nn <| r_retc <| r_in_ret <| r_then_ret ?_
  exact r_ret1 [] rfl rfl (by simp) ⟨by simp [startsE, h5, h6, h7], rfl, rfl⟩
 ·refine r_skip <| r_in_normal <| r_then_normal <| r_sr <| r_ev rfl rfl <| r_nn <| r_retc ?_
  exact r_ret1 [] rfl rfl (by simp) ⟨by simp [startsE, h1, h2, h3, h5], rfl, rfl⟩
theorem estart_spec (g : Ghost) (l : List Tok) (lv : Value) (hs : ToksAt g lv l) (i : Int) : Eng.Spec Tryz.prog 116 [lv, .int .i64 i] g [] fun v g' own' => g' = g ∧ ∃ b, v = ptr b 0 ∧ own' = [rdE b lv (idxOf l.length i) 0] := by
 obtain ⟨a, c, rfl⟩ := slForm2 hs
 refine spec_of_run Tryz.func116 rfl Tryz.ntmps116 rfl fun E hE => ?_
 refine r_sr <| r_ev rfl rfl <| r_nn <| r_seq <| r_sr <| r_ev rfl rfl <| r_ev rfl rfl <| r_nn ?_
 refine r_cond rfl (fun h1 => ?_) (fun h1 => ?_)
 ·have hx : idxOf l.length i = l.length := by simp [idxOf, h1]
  refine r_region <| r_ev rfl rfl <| r_len_sl rfl rfl <| r_ev rfl rfl <| r_nn <| r_sr <| r_ev rfl rfl <| r_ev rfl rfl <| r_ev rfl rfl <| r_len_sl rfl rfl <| r_min rfl rfl rfl <| r_build rfl rfl (by rfl) ?_
  refine r_box rfl rfl rfl (fun b => ?_)
  refine r_ev rfl rfl <| r_nn <| r_retc ?_
  exact r_ret1 [_] rfl rfl (List.Sublist.refl _) ⟨rfl, b, rfl, by rw [hx]; simp⟩
 ·have hx : ((idxOf l.length i : Nat) : Int) = min i l.length := by simp only [idxOf, h1, if_false]; omega
  refine r_skip <| r_then_normal <| r_sr <| r_ev rfl rfl <| r_ev rfl rfl <| r_ev rfl rfl <| r_len_sl rfl rfl <| r_min rfl rfl rfl <| r_build rfl rfl (by rfl) ?_
  refine r_box rfl rfl rfl (fun b => ?_)
  refine r_ev rfl rfl <| r_nn <| r_retc ?_
  exact r_ret1 [_] rfl rfl (List.Sublist.refl _) ⟨rfl, b, rfl, by rw [← hx]⟩
end Go.Proofs.YtpjehhnaojjanaaGreatDoor
-- sum 83ccbc123e3a3130


/- The walks of chapter 4 and of chapter 6's laws: Equal, sameAll. -/
namespace Go.Proofs.YtpjehhnaojjanaaGreatDoor
open Go Go.Eng Go.Th Go.Proofs
set_option maxRecDepth 10000
set_option maxHeartbeats 4000000
attribute [local irreducible] wpList Code.wp Run bodyPost Go.Eng.Ends Exit.then Exit.inBlock Again Wq Kq
end Go.Proofs.YtpjehhnaojjanaaGreatDoor
-- sum 3c6cb7710a29f47d

/- A row as a block: stores into a row. -/
namespace Go.Eng
open Go Go.RowKit
theorem splice_skip : ∀ (pre cs : List Value) (vs r : List Value), splice cs 0 vs = some r → splice (pre ++ cs) pre.length vs = some (pre ++ r)
 | [], cs, vs, r, h => h
 | p :: pre, cs, vs, r, h => by
  have ih := splice_skip pre cs vs r h
  cases vs with
  | nil =>
   have : some cs = some r := by cases cs <;> simpa [splice] using h
   cases this
   cases pre <;> simp [splice]
  | cons v vs =>
   simp only [List.cons_append, List.length_cons, splice, ih]
theorem splice_over : ∀ (old post vs : List Value), old.length = vs.length → splice (old ++ post) 0 vs = some (vs ++ post)
 | [], post, [], _ => by cases post <;> rfl
 | o :: old, post, v :: vs, h => by
  have ih := splice_over old post vs (by simpa using h)
  simp only [List.cons_append, splice, ih]
theorem splice_mid (pre old post vs : List Value) (off : Nat) (ho : off = pre.length) (h : old.length = vs.length) : splice (pre ++ (old ++ post)) off vs = some (pre ++ (vs ++ post)) := by
 subst ho
 exact splice_skip pre _ vs _ (splice_over old post vs h)
section
variable {E : Env} {n : Nat} {L : Slots} {g : Ghost} {own : List Res}
theorem r_rowSome {X : Act → World → Prop} {T : TypeId} {size m : Nat} {v : Value} {xs : List Value} (i : Nat) (h : own[i]? = some (.row T size v m xs)) (hm : 0 < m) (k : (∃ b cap, v = .slice (some ⟨b, 0, none⟩) m cap) → Run E n L g own X) : Run E n L g own X := fun a w hF hI => by
 have hs : w.ownsRow 0 T size v m xs := sat_at hI h
 refine k ?_ a w hF hI
 rcases hs.2 with ⟨_, h0⟩ | ⟨b, cap, cur, rfl, _⟩
 ·omega
 ·exact ⟨_, _, rfl⟩
theorem r_rowLen {X : Act → World → Prop} {T : TypeId} {size m : Nat} {v : Value} {xs : List Value} (i : Nat) (h : own[i]? = some (.row T size v m xs)) (k : (∃ a c, v = .slice a m c) → Run E n L g own X) : Run E n L g own X := fun a w hF hI => by
 have hs : w.ownsRow 0 T size v m xs := sat_at hI h
 refine k ?_ a w hF hI
 rcases hs.2 with ⟨rfl, rfl⟩ | ⟨b, cap, cur, rfl, _⟩
 ·exact ⟨_, _, rfl⟩
 ·exact ⟨_, _, rfl⟩
end
end Go.Eng
-- sum 197897c61d0796c5

/- The walk of typedholesmake's Tape.Raw: it makes expressions that can be written, with short texts. Printed by mkraw.py. -/
namespace Go.Proofs.YtpjehhnaojjanaaGreatDoor
open Go Go.Eng Go.Th Go.Proofs
set_option maxRecDepth 10000
set_option maxHeartbeats 4000000
attribute [local irreducible] wpList Code.wp Run bodyPost Go.Eng.Ends Exit.then Exit.inBlock Again Wq Kq
structure RwE (g : Ghost) (codes : List Int) (lv : Value) (ds : List Da) (dv : Value) : Prop where
 c : SlAt g 1 lv codes.length (codes.map (Value.int .i64))
 hc : codes.length ≤ 1000000
 d : ∃ xd, SlAt g 4 dv ds.length xd ∧ AllAt (DaAt g) ds xd
 dn : ds.length ≤ 8
 dg : ∀ d ∈ ds, gdD d ∧ gcD d
theorem RwE.mono {g g' : Ghost} (hle : Ghost.le g g') {codes : List Int} {lv : Value} {ds : List Da} {dv : Value} (h : RwE g codes lv ds dv) : RwE g' codes lv ds dv := by
 obtain ⟨h1, h2, ⟨xd, h3, h4⟩, h5, h6⟩ := h
 exact ⟨h1.mono hle, h2, ⟨xd, h3.mono hle, das_mono hle h4⟩, h5, h6⟩
end Go.Proofs.YtpjehhnaojjanaaGreatDoor
-- sum 65fa3924f21ee8fb

/- The canonical text of a type is read as this type, in parentheses too. -/
namespace Go.Proofs.YtpjehhnaojjanaaGreatDoor
open Go Go.Eng Go.Th Go.Proofs
end Go.Proofs.YtpjehhnaojjanaaGreatDoor
-- sum cc73277c9c5c4e7a

/- The canonical text of an expression is read as this expression up to positions, in parentheses too. -/
namespace Go.Proofs.YtpjehhnaojjanaaGreatDoor
open Go Go.Eng Go.Th Go.Proofs
end Go.Proofs.YtpjehhnaojjanaaGreatDoor
-- sum d0bed938f0bc38c7

/- Drawn regions with a tail: two operations of the head that can come up. -/
namespace Go.Eng
open Go Go.RowKit
section
variable {P : Program} {E : Env} {n : Nat} {L : Slots} {g : Ghost} {own : List Res} {Q : Exit → Act → World → Prop} {l : List Oper}
variable {f m : Nat} {listed : Array Bool} {S : World → Prop}
theorem m_two {o o' : Oper} (i i' : Nat) (hr : Region.ready .any l.toArray listed = [i, i']) (him : Nat.blt i m = true) (him' : Nat.blt i' m = true) (hi : l.toArray[i]? = some o) (hi' : l.toArray[i']? = some o')
  (h : Run E n L g own (wpList P l.toArray (Exit.then (fun a w => S w ∧ Hm P l Q S m f (listed.setIfInBounds i true) a w) Q) [o]))
  (h' : Run E n L g own (wpList P l.toArray (Exit.then (fun a w => S w ∧ Hm P l Q S m f (listed.setIfInBounds i' true) a w) Q) [o'])) : Run E n L g own (Hm P l Q S m (f + 1) listed) := fun a w hF hI => by
 refine ⟨by rw [hr]; simp, ?_⟩
 have aux : ∀ (j : Nat) (q : Oper), l.toArray[j]? = some q → wpList P l.toArray (Exit.then (fun a w => S w ∧ Hm P l Q S m f (listed.setIfInBounds j true) a w) Q) [q] a w →
   wpOp P l.toArray Q j (fun a' w' => S w' ∧ Hm P l Q S m f (listed.setIfInBounds j true) a' w') a w := by
  intro j q hq h1
  unfold wpOp
  simp only [hq]
  unfold wpList at h1
  split
  ·rename_i hw
   rw [if_pos hw] at h1
   rcases h1 with h1 | ⟨h1, h2⟩
   ·exact .inl (upon_then h1)
   ·exact .inr ⟨h1, h2⟩
  ·rename_i hw
   rw [if_neg hw] at h1
   exact h1
 intro j hj
 rw [hr] at hj
 simp only [List.mem_cons, List.not_mem_nil, or_false] at hj
 rcases hj with rfl | rfl
 ·exact ⟨Nat.blt_eq.mp him, aux _ _ hi (h a w hF hI)⟩
 ·exact ⟨Nat.blt_eq.mp him', aux _ _ hi' (h' a w hF hI)⟩
theorem r_rowBlkL {X : Act → World → Prop} {T : TypeId} {size m b cap : Nat} {xs : List Value} (h : ∀ rest, m ≤ cap → cap ≤ maxLen → xs.length = m * size → (xs ++ rest).length = cap * size → Run E n L g (.blk b T (xs ++ rest) :: own) X) :
  Run E n L g (.row T size (.slice (some ⟨b, 0, none⟩) m cap) m xs :: own) X := fun a w hF hI => by
 have hs : w.ownsRow 0 T size (.slice (some ⟨b, 0, none⟩) m cap) m xs := hI.1.sat (.row T size (.slice (some ⟨b, 0, none⟩) m cap) m xs) (by simp)
 obtain ⟨hl, hs⟩ := hs
 rcases hs with ⟨h0, _⟩ | ⟨b', cap', cur, h0, _, hg, hnc, hcm, hcs, htake⟩
 ·cases h0
 ·cases h0
  have hcat : xs ++ cur.toList.drop xs.length = cur.toList := by
   conv => rhs; rw [← List.take_append_drop xs.length cur.toList]
   congr 1
   rw [hl]
   exact htake.symm
  refine h (cur.toList.drop xs.length) hnc hcm hl (by rw [hcat]; simpa using hcs) a w hF ?_
  refine Inv.swap (pre := []) (r := .row T size (.slice (some ⟨b, 0, none⟩) m cap) m xs) (r' := .blk b T (xs ++ cur.toList.drop xs.length)) hI (Nat.le_refl _) rfl rfl rfl (fun _ _ _ => rfl) ?_ (by simp [Res.foot]) (fun k hk => .inr (by simpa [Res.foot, Value.ownBlock] using hk))
  show w.heap[b]? = _
  rw [hg, hcat]
theorem r_blkRow {X : Act → World → Prop} {T : TypeId} {size m b cap : Nat} {xs ys : List Value} (h1 : ys.length = cap * size) (h2 : m ≤ cap) (h3 : cap ≤ maxLen) (h4 : ys.take (m * size) = xs) (h5 : xs.length = m * size)
  (h : Run E n L g (.row T size (.slice (some ⟨b, 0, none⟩) m cap) m xs :: own) X) : Run E n L g (.blk b T ys :: own) X := fun a w hF hI => by
 refine h a w hF ?_
 have hs : w.heap[b]? = some (.cells ys.toArray T (0, 0)) := hI.1.sat (.blk b T ys) (by simp)
 refine Inv.swap (pre := []) (r := .blk b T ys) (r' := .row T size (.slice (some ⟨b, 0, none⟩) m cap) m xs) hI (Nat.le_refl _) rfl rfl rfl (fun _ _ _ => rfl) ?_ (by simp [Res.foot, Value.ownBlock]) (fun k hk => .inr (by simpa [Res.foot, Value.ownBlock] using hk))
 exact ⟨h5, .inr ⟨b, cap, ys.toArray, rfl, Nat.zero_le _, hs, h2, h3, by simpa using h1, by simpa using h4⟩⟩
end
end Go.Eng

/- The frame of a law: from a contract to the statement's call; over any program. -/
namespace Go.Eng
open Go Go.RowKit Go.ChangeShapes Go.WideShapes Go.ChangeAt
def worldGhost (w : World) : Ghost := fun b o => w.cell? ⟨b, o, none⟩
theorem worldHolds (w : World) : Holds (worldGhost w) [] w := ⟨fun _ _ _ h => h, by simp, by simp [foots], by simp [foots]⟩
theorem below_of_pure {P : Program} {f : FuncId} {vals : List Value} {v : Value} {W : World} (h : Pure P f vals (worldGhost W) v) : Calls P f vals.toArray W fun e w' => e = .returned v ∧ Below W.heap.size W w' :=
 (h W (worldHolds W)).mono fun e w' ⟨v', g', own', he, ⟨h1, _, _⟩, hI⟩ => ⟨by rw [he, h1], ⟨hI.2.os, hI.2.tape, hI.2.output, hI.2.size, fun b hb => hI.2.kept b hb (by simp [foots])⟩⟩
end Go.Eng
-- sum 270b925d6396a6b8


/- The walks of package readprogram: the small methods of its reader. -/
import Derived.Test.YtpjehhnaojjanaaGreatDoorK6
import Derived.Test.YtpjehhnaojjanaaGreatDoorK11
import Derived.Test.YtpjehhnaojjanaaGreatDoorK9
import Derived.Test.YtpjehhnaojjanaaGreatDoorK7
namespace Go.Proofs.YtpjehhnaojjanaaGreatDoor
open Go Go.Eng Go.Th Go.Proofs
set_option maxRecDepth 10000
set_option maxHeartbeats 4000000
attribute [local irreducible] wpList Code.wp Run bodyPost Go.Eng.Ends Exit.then Exit.inBlock Again Wq Kq
def RS.errP : RS → Int
 | .good _ => 0
 | .bad _ _ => 3
def RS.posP : RS → Int
 | .good _ => 0
 | .bad _ p => p
def RS.cellsP (lv : Value) : RS → List Value
 | .good i => [lv, .int .i64 i, .int .i64 0, .int .i64 0]
 | .bad i p => [lv, .int .i64 i, .int .i64 3, .int .i64 p]
abbrev rdP (b : Nat) (lv : Value) (s : RS) : Res := .blk b 81 (s.cellsP lv)
theorem pok_spec (g : Ghost) (lv : Value) (b : Nat) (s : RS) : PureO Tryz.prog 45 [ptr b 0] g (rdP b lv s) (.bool (!s.isBad)) := by
 cases s with
 | bad i p =>
  refine spec_of_run Tryz.func45 rfl Tryz.ntmps45 rfl fun E hE => ?_
  refine r_sr <| r_ev rfl rfl <| r_nn <| r_sr <| r_ev rfl rfl <| r_ev rfl rfl <| r_fieldAddr rfl rfl <| r_fieldAddr rfl rfl <| r_loadB1 0 rfl rfl rfl rfl <| r_ev rfl rfl <| r_ev rfl rfl <| r_nn <| r_retc ?_
  exact r_ret1 [_] rfl rfl (List.Sublist.refl _) ⟨rfl, rfl, rfl⟩
 | good i =>
  refine spec_of_run Tryz.func45 rfl Tryz.ntmps45 rfl fun E hE => ?_
  refine r_sr <| r_ev rfl rfl <| r_nn <| r_sr <| r_ev rfl rfl <| r_ev rfl rfl <| r_fieldAddr rfl rfl <| r_fieldAddr rfl rfl <| r_loadB1 0 rfl rfl rfl rfl <| r_ev rfl rfl <| r_ev rfl rfl <| r_nn <| r_retc ?_
  exact r_ret1 [_] rfl rfl (List.Sublist.refl _) ⟨rfl, rfl, rfl⟩
theorem pfail_spec (g : Ghost) (l : List Tok) (hb : TB l) (lv : Value) (hs : ToksAt g lv l) (b : Nat) (s : RS) : SpecL Tryz.prog 44 [ptr b 0] g (rdP b lv s) fun _ g' r' => g' = g ∧ r' = rdP b lv (s.fail l) := by
 cases s with
 | bad i p =>
  refine spec_of_run Tryz.func44 rfl Tryz.ntmps44 rfl fun E hE => ?_
  refine r_seq <| r_sr <| r_ev rfl rfl ?_
  refine r_callO 0 rfl rfl rfl (pok_spec g lv b (.bad i p)) ?_
  refine r_ev rfl rfl <| r_nn <| r_cond_true rfl <| r_retc <| r_then_ret ?_
  exact r_ret0 [_] rfl (List.Sublist.refl _) ⟨_, rfl, rfl, rfl⟩
 | good i =>
  obtain ⟨la, lc, rfl⟩ := slForm2 hs
  refine spec_of_run Tryz.func44 rfl Tryz.ntmps44 rfl fun E hE => ?_
  refine r_seq <| r_sr <| r_ev rfl rfl ?_
  refine r_callO 0 rfl rfl rfl (pok_spec g _ b (.good i)) ?_
  refine r_ev rfl rfl <| r_nn <| r_cond_false rfl <| r_skip <| r_then_normal <| r_sr <| r_ev rfl rfl <| r_ev rfl rfl <| r_fieldAddr rfl rfl <| r_fieldAddr rfl rfl <| r_store1 0 rfl rfl rfl rfl rfl rfl <| r_nn <| r_sr <| r_ev rfl rfl ?_; refine r_ev rfl rfl <| r_fieldAddr rfl rfl <| r_loadB1 0 rfl rfl rfl rfl <| r_len_sl rfl rfl <| r_ev rfl rfl <| r_nn <| r_block <| r_sr <| r_ev rfl rfl <| r_ev rfl rfl <| r_fieldAddr rfl rfl <| r_loadB1 0 rfl rfl rfl rfl <| r_ev rfl rfl <| r_ev rfl rfl ?_; refine r_ev rfl rfl <| r_nn ?_
  refine r_cond rfl (fun hlt => ?_) (fun hlt => ?_)
  ·have hlt' : i < l.length := by omega
   have hf : failPos l i = l[i].pos := by unfold failPos; rw [toks_some hlt']
   obtain ⟨b0, off, cap, hsl, hx⟩ := hs.held hlt'
   cases hsl
   skip
   refine s_region 12 mixed (by kernel_rfl) ?_
   refine s_v rfl ⟨_, (val_ev rfl), ?_⟩; refine s_v rfl ⟨_, (val_ev rfl), ?_⟩; refine s_v rfl ⟨_, (val_ev rfl), ?_⟩; refine s_v rfl ⟨_, (val_fieldAddr rfl), ?_⟩; refine s_v rfl ⟨_, (val_loadB1 0 rfl rfl rfl), ?_⟩; refine s_v rfl ⟨_, (val_ev rfl), ?_⟩; refine s_v rfl ⟨_, (val_ev rfl), ?_⟩; refine s_v rfl ⟨_, (val_fieldAddr rfl), ?_⟩; refine s_v rfl ⟨_, (val_loadB1 0 rfl rfl rfl), ?_⟩; refine s_v rfl ⟨_, (val_indexAddr rfl rfl rfl (by omega)), ?_⟩; refine s_v rfl ⟨_, (val_fieldAddr rfl), ?_⟩
   refine s_v rfl ⟨_, val_load1 rfl (SlAt.cell tokCells_len hx hlt' 2 rfl), ?_⟩
   refine s_end ?_
   refine r_ev rfl rfl <| r_fieldAddr rfl rfl <| r_fieldAddr rfl rfl <| r_store1 0 rfl rfl rfl rfl rfl rfl <| r_nil <| r_in_normal <| r_fin_n ?_
   exact r_ret0 [_] rfl (List.Sublist.refl _) ⟨_, rfl, rfl, by show _ = rdP b _ (.bad i (failPos l i)); rw [hf]; rfl⟩
  ·have hn : l[i]? = none := List.getElem?_eq_none (by omega)
   refine r_sr <| r_ev rfl rfl <| r_ev rfl rfl <| r_ev rfl rfl <| r_nn ?_
   refine r_cond rfl (fun h0 => ?_) (fun h0 => ?_)
   ·have h0' : l.length - 1 < l.length := by omega
    have hb1 := hb.1
    have hb2 := hb.2 _ (List.getElem_mem h0')
    obtain ⟨b0, off, cap, hsl, hx⟩ := hs.held h0'
    cases hsl
    have hf : failPos l i = l[l.length - 1].pos + l[l.length - 1].text.length := by
     unfold failPos; rw [hn, List.getLast?_eq_getElem?, toks_some h0']
    skip
    refine s_region 21 mixed (by kernel_rfl) ?_
    refine s_v rfl ⟨_, (val_ev rfl), ?_⟩; refine s_v rfl ⟨_, (val_ev rfl), ?_⟩; refine s_v rfl ⟨_, (val_ev rfl), ?_⟩; refine s_v rfl ⟨_, (val_fieldAddr rfl), ?_⟩; refine s_v rfl ⟨_, (val_loadB1 0 rfl rfl rfl), ?_⟩; refine s_v rfl ⟨_, (val_ev rfl), ?_⟩; refine s_v rfl ⟨_, (val_sub_ rfl rfl (by omega)), ?_⟩
    refine s_v rfl ⟨_, val_indexAddr (j := l.length - 1) rfl rfl (by omega) h0', ?_⟩
    refine s_v rfl ⟨_, (val_fieldAddr rfl), ?_⟩
    refine s_v rfl ⟨_, val_load1 rfl (SlAt.cell tokCells_len hx h0' 2 rfl), ?_⟩
    refine s_v rfl ⟨_, (val_ev rfl), ?_⟩; refine s_v rfl ⟨_, (val_ev rfl), ?_⟩; refine s_v rfl ⟨_, (val_fieldAddr rfl), ?_⟩; refine s_v rfl ⟨_, (val_loadB1 0 rfl rfl rfl), ?_⟩; refine s_v rfl ⟨_, (val_ev rfl), ?_⟩; refine s_v rfl ⟨_, (val_sub_ rfl rfl (by omega)), ?_⟩
    refine s_v rfl ⟨_, val_indexAddr (j := l.length - 1) rfl rfl (by omega) h0', ?_⟩
    refine s_v rfl ⟨_, (val_fieldAddr rfl), ?_⟩
    refine s_v rfl ⟨_, val_load1 rfl (SlAt.cell tokCells_len hx h0' 1 rfl), ?_⟩
    refine s_v rfl ⟨_, (val_len_str rfl), ?_⟩; refine s_v rfl ⟨_, (val_add rfl rfl (by omega)), ?_⟩; refine s_end ?_
    refine r_ev rfl rfl <| r_fieldAddr rfl rfl <| r_fieldAddr rfl rfl <| r_store1 0 rfl rfl rfl rfl rfl rfl <| r_nil <| r_in_normal <| r_fin_n ?_
    exact r_ret0 [_] rfl (List.Sublist.refl _) ⟨_, rfl, rfl, by show _ = rdP b _ (.bad i (failPos l i)); rw [hf]; rfl⟩
   ·have hf : failPos l i = 0 := by
     unfold failPos; rw [hn, List.getLast?_eq_getElem?, List.getElem?_eq_none (by omega)]
    refine r_skip <| r_in_normal <| r_fin_n ?_
    exact r_ret0 [_] rfl (List.Sublist.refl _) ⟨_, rfl, rfl, by show _ = rdP b _ (.bad i (failPos l i)); rw [hf]; rfl⟩
theorem pplace_aux (g : Ghost) (l : List Tok) (lv : Value) (hs : ToksAt g lv l) (b i : Nat) (e p : Int) : PureO Tryz.prog 40 [ptr b 0] g (.blk b 81 [lv, .int .i64 i, .int .i64 e, .int .i64 p]) (.int .i64 (posAt l i)) := by
 obtain ⟨la, lc, rfl⟩ := slForm2 hs
 refine spec_of_run Tryz.func40 rfl Tryz.ntmps40 rfl fun E hE => ?_
 refine r_sr <| r_ev rfl rfl <| r_nn <| r_seq <| r_seq ?_
 refine r_qregion mixed (by kernel_rfl) ?_
 refine q_ev rfl rfl <| q_ev rfl rfl <| q_v rfl (val_fieldAddr rfl) ?_; refine q_v rfl (val_loadB1 0 rfl rfl rfl) ?_; refine q_ev rfl rfl <| q_ev rfl rfl <| q_v rfl (val_fieldAddr rfl) ?_; refine q_v rfl (val_loadB1 0 rfl rfl rfl) ?_; refine q_v rfl (val_len_sl rfl) ?_; refine q_ev rfl rfl <| q_end ?_
 skip
 refine r_then_normal ?_
 refine r_cond rfl (fun hlt => ?_) (fun hlt => ?_)
 ·have hlt' : i < l.length := by omega
  have hk : posAt l i = l[i].pos := by unfold posAt; rw [toks_some hlt']
  obtain ⟨b0, off, cap, hsl, hx⟩ := hs.held hlt'
  cases hsl
  refine r_seq ?_
  refine r_qregion mixed (by kernel_rfl) ?_
  refine q_ev rfl rfl <| q_ev rfl rfl <| q_v rfl (val_fieldAddr rfl) ?_; refine q_v rfl (val_loadB1 0 rfl rfl rfl) ?_; refine q_ev rfl rfl <| q_ev rfl rfl <| q_v rfl (val_fieldAddr rfl) ?_; refine q_v rfl (val_loadB1 0 rfl rfl rfl) ?_; refine q_v rfl (val_indexAddr rfl rfl rfl (by omega)) ?_; refine q_v rfl (val_fieldAddr rfl) ?_
  refine q_v rfl (val_load1 rfl (SlAt.cell tokCells_len hx hlt' 2 rfl)) ?_
  refine q_ev rfl rfl <| q_end ?_
  skip
  refine r_then_normal <| r_retc <| r_then_ret ?_
  exact r_ret1 [_] rfl rfl (List.Sublist.refl _) ⟨by rw [hk], rfl, rfl⟩
 ·have hk : posAt l i = 0 := by unfold posAt; rw [List.getElem?_eq_none (by omega)]
  refine r_skip <| r_then_normal <| r_sr <| r_ev rfl rfl <| r_nn <| r_retc ?_
  exact r_ret1 [_] rfl rfl (List.Sublist.refl _) ⟨by rw [hk], rfl, rfl⟩
theorem pplace_spec (g : Ghost) (l : List Tok) (lv : Value) (hs : ToksAt g lv l) (b : Nat) (s : RS) : PureO Tryz.prog 40 [ptr b 0] g (rdP b lv s) (.int .i64 (posAt l s.idx)) := by
 cases s with
 | good i => exact pplace_aux g l lv hs b i 0 0
 | bad i p => exact pplace_aux g l lv hs b i 3 p
def RS.hasT (l : List Tok) (k : Int) (w : Bytes) : RS → Bool
 | .good i => tokAt l i k w
 | .bad _ _ => false
def RS.readT (l : List Tok) (k : Int) (w : Bytes) : RS → RS
 | .good i => if tokAt l i k w then .good (i + 1) else .good i
 | .bad i p => .bad i p
theorem pread_aux (g : Ghost) (l : List Tok) (hb : TB l) (lv : Value) (hs : ToksAt g lv l) (b : Nat) (s : RS) (k : Int) (w : Bytes) : SpecL Tryz.prog 41 [ptr b 0, .int .i64 k, str w] g (rdP b lv s) fun v g' r' => v = .bool (s.hasT l k w) ∧ g' = g ∧ r' = rdP b lv (s.readT l k w) := by
 have hb1 := hb.1
 obtain ⟨la, lc, rfl⟩ := slForm2 hs
 cases s with
 | bad i p =>
  refine spec_of_run Tryz.func41 rfl Tryz.ntmps41 rfl fun E hE => ?_
  refine r_sr <| r_ev rfl rfl <| r_nn <| r_seq <| r_seq ?_
  refine r_qregion mixed (by kernel_rfl) ?_
  refine q_ev rfl rfl ?_
  refine q_callO 0 rfl rfl rfl (pok_spec g _ b (.bad i p)) ?_
  refine q_ev rfl rfl <| q_ev rfl rfl <| q_pass rfl rfl rfl <| q_pass rfl rfl rfl <| q_pass rfl rfl rfl <| q_pass rfl rfl rfl <| q_pass rfl rfl rfl <| q_pass rfl rfl rfl <| q_pass rfl rfl rfl <| q_pass rfl rfl rfl <| q_pass rfl rfl rfl <| q_pass rfl rfl rfl <| q_ev rfl rfl <| q_ev rfl rfl ?_; refine q_pass rfl rfl rfl <| q_pass rfl rfl rfl <| q_pass rfl rfl rfl <| q_pass rfl rfl rfl <| q_pass rfl rfl rfl <| q_pass rfl rfl rfl <| q_pass rfl rfl rfl <| q_pass rfl rfl rfl <| q_pass rfl rfl rfl <| q_pass rfl rfl rfl <| q_pass rfl rfl rfl <| q_pass rfl rfl rfl <| q_pass rfl rfl rfl <| q_ev rfl rfl ?_; refine q_ev rfl rfl <| q_pass rfl rfl rfl <| q_pass rfl rfl rfl <| q_pass rfl rfl rfl <| q_pass rfl rfl rfl <| q_pass rfl rfl rfl <| q_pass rfl rfl rfl <| q_pass rfl rfl rfl <| q_pass rfl rfl rfl <| q_pass rfl rfl rfl <| q_pass rfl rfl rfl <| q_pass rfl rfl rfl <| q_pass rfl rfl rfl <| q_pass rfl rfl rfl ?_; refine q_ev rfl rfl <| q_end ?_
  refine r_then_normal <| r_cond_true rfl <| r_sr <| r_ev rfl rfl <| r_nn <| r_retc <| r_then_ret ?_
  exact r_ret1 [_] rfl rfl (List.Sublist.refl _) ⟨_, rfl, rfl, rfl, rfl⟩
 | good i =>
  refine spec_of_run Tryz.func41 rfl Tryz.ntmps41 rfl fun E hE => ?_
  refine r_sr <| r_ev rfl rfl <| r_nn <| r_seq <| r_seq ?_
  refine r_qregion mixed (by kernel_rfl) ?_
  refine q_ev rfl rfl ?_
  refine q_callO 0 rfl rfl rfl (pok_spec g _ b (.good i)) ?_
  refine q_ev rfl rfl <| q_ev rfl rfl <| q_tev rfl rfl rfl <| q_tev rfl rfl rfl <| q_take rfl <| q_v rfl (val_fieldAddr rfl) ?_; refine q_take rfl <| q_v rfl (val_loadB1 0 rfl rfl rfl) ?_; refine q_tev rfl rfl rfl <| q_tev rfl rfl rfl <| q_take rfl <| q_v rfl (val_fieldAddr rfl) ?_; refine q_take rfl <| q_v rfl (val_loadB1 0 rfl rfl rfl) ?_; refine q_take rfl <| q_v rfl (val_len_sl rfl) ?_; refine q_tev rfl rfl rfl <| q_ev rfl rfl <| q_ev rfl rfl ?_
  refine q_gdec rfl rfl (fun hlt => ?_) (fun hlt => ?_)
  ·have hk : tokAt l i k w = false := tokAt_end (by omega) k w
   refine q_pass rfl rfl rfl <| q_pass rfl rfl rfl <| q_pass rfl rfl rfl <| q_pass rfl rfl rfl <| q_pass rfl rfl rfl <| q_pass rfl rfl rfl <| q_pass rfl rfl rfl <| q_pass rfl rfl rfl <| q_pass rfl rfl rfl <| q_pass rfl rfl rfl <| q_pass rfl rfl rfl <| q_pass rfl rfl rfl <| q_pass rfl rfl rfl <| q_ev rfl rfl ?_; refine q_ev rfl rfl <| q_pass rfl rfl rfl <| q_pass rfl rfl rfl <| q_pass rfl rfl rfl <| q_pass rfl rfl rfl <| q_pass rfl rfl rfl <| q_pass rfl rfl rfl <| q_pass rfl rfl rfl <| q_pass rfl rfl rfl <| q_pass rfl rfl rfl <| q_pass rfl rfl rfl <| q_pass rfl rfl rfl <| q_pass rfl rfl rfl <| q_pass rfl rfl rfl ?_; refine q_ev rfl rfl <| q_end ?_
   refine r_then_normal <| r_cond_true rfl <| r_sr <| r_ev rfl rfl <| r_nn <| r_retc <| r_then_ret ?_
   exact r_ret1 [_] rfl rfl (List.Sublist.refl _) ⟨_, rfl, by show _ = Value.bool (tokAt l i k w); rw [hk], rfl, by simp only [RS.readT]; rw [if_neg (by rw [hk]; decide)]⟩
  ·have hlt' : i < l.length := by omega
   have hk := tokAt_get hlt' k w
   obtain ⟨b0, off, cap, hsl, hx⟩ := hs.held hlt'
   cases hsl
   refine q_tev rfl rfl rfl <| q_tev rfl rfl rfl <| q_take rfl <| q_v rfl (val_fieldAddr rfl) ?_; refine q_take rfl <| q_v rfl (val_loadB1 0 rfl rfl rfl) ?_; refine q_tev rfl rfl rfl <| q_tev rfl rfl rfl <| q_take rfl <| q_v rfl (val_fieldAddr rfl) ?_; refine q_take rfl <| q_v rfl (val_loadB1 0 rfl rfl rfl) ?_; refine q_take rfl <| q_v rfl (val_indexAddr rfl rfl rfl (by omega)) ?_; refine q_take rfl <| q_v rfl (val_fieldAddr rfl) ?_; refine q_take rfl ?_
   refine q_v rfl (val_load1 rfl (SlAt.cell tokCells_len hx hlt' 0 rfl)) ?_
   refine q_tev rfl rfl rfl <| q_tev rfl rfl rfl <| q_ev rfl rfl <| q_ev rfl rfl ?_
   refine q_gdec rfl rfl (fun h5 => ?_) (fun h5 => ?_)
   ·have hk' : tokAt l i k w = false := by rw [hk]; simp [h5]
    refine q_pass rfl rfl rfl <| q_pass rfl rfl rfl <| q_pass rfl rfl rfl <| q_pass rfl rfl rfl <| q_pass rfl rfl rfl <| q_pass rfl rfl rfl <| q_pass rfl rfl rfl <| q_pass rfl rfl rfl <| q_pass rfl rfl rfl <| q_pass rfl rfl rfl <| q_pass rfl rfl rfl <| q_pass rfl rfl rfl <| q_pass rfl rfl rfl <| q_ev rfl rfl ?_; refine q_end <| r_then_normal <| r_cond_true rfl <| r_sr <| r_ev rfl rfl <| r_nn <| r_retc <| r_then_ret ?_
    exact r_ret1 [_] rfl rfl (List.Sublist.refl _) ⟨_, rfl, by show _ = Value.bool (tokAt l i k w); rw [hk'], rfl, by simp only [RS.readT]; rw [if_neg (by rw [hk']; decide)]⟩
   ·refine q_tev rfl rfl rfl <| q_tev rfl rfl rfl <| q_take rfl <| q_v rfl (val_fieldAddr rfl) ?_; refine q_take rfl <| q_v rfl (val_loadB1 0 rfl rfl rfl) ?_; refine q_tev rfl rfl rfl <| q_tev rfl rfl rfl <| q_take rfl <| q_v rfl (val_fieldAddr rfl) ?_; refine q_take rfl <| q_v rfl (val_loadB1 0 rfl rfl rfl) ?_; refine q_take rfl <| q_v rfl (val_indexAddr rfl rfl rfl (by omega)) ?_; refine q_take rfl <| q_v rfl (val_fieldAddr rfl) ?_; refine q_take rfl ?_
    refine q_v rfl (val_load1 rfl (SlAt.cell tokCells_len hx hlt' 1 rfl)) ?_
    refine q_tev rfl rfl rfl <| q_tev rfl rfl rfl <| q_ev rfl rfl <| q_end <| r_then_normal ?_
    refine r_cond rfl (fun h6 => ?_) (fun h6 => ?_)
    ·have hk' : tokAt l i k w = false := by rw [hk]; simp [h6]
     refine r_sr <| r_ev rfl rfl <| r_nn <| r_retc <| r_then_ret ?_
     exact r_ret1 [_] rfl rfl (List.Sublist.refl _) ⟨_, rfl, by show _ = Value.bool (tokAt l i k w); rw [hk'], rfl, by simp only [RS.readT]; rw [if_neg (by rw [hk']; decide)]⟩
    ·have hk' : tokAt l i k w = true := by rw [hk]; simp only [Decidable.not_not] at h5 h6; simp [h5, h6]
     refine r_skip <| r_then_normal <| r_sr <| r_ev rfl rfl <| r_ev rfl rfl <| r_fieldAddr rfl rfl <| r_loadB1 0 rfl rfl rfl rfl <| r_add rfl rfl rfl (by omega) ?_; refine r_ev rfl rfl <| r_fieldAddr rfl rfl <| r_store1 0 rfl rfl rfl rfl rfl rfl <| r_nn <| r_sr <| r_ev rfl rfl <| r_nn <| r_retc ?_
     exact r_ret1 [_] rfl rfl (List.Sublist.refl _) ⟨_, rfl, by show _ = Value.bool (tokAt l i k w); rw [hk'], rfl, by simp only [RS.readT]; rw [if_pos hk']; rfl⟩
theorem hasT_mark {l : List Tok} (hkw : KW l) {w : Bytes} (hw : kindOf w = 5) (s : RS) : s.hasT l 5 w = s.isIs l w ∧ s.readT l 5 w = s.skip l w := by
 cases s with
 | bad i p => exact ⟨rfl, rfl⟩
 | good i =>
  have h : isAt l i w = tokAt l i 5 w := isAt_mark hkw hw i
  exact ⟨h.symm, by simp only [RS.readT, RS.skip, h]⟩
theorem hasT_word {l : List Tok} (hkw : KW l) {w : Bytes} (hw : kindOf w = 4) (s : RS) : s.hasT l 4 w = s.isIs l w ∧ s.readT l 4 w = s.skip l w := by
 cases s with
 | bad i p => exact ⟨rfl, rfl⟩
 | good i =>
  have h : isAt l i w = tokAt l i 4 w := isAt_word hkw hw i
  exact ⟨h.symm, by simp only [RS.readT, RS.skip, h]⟩
theorem pmark_spec (g : Ghost) (l : List Tok) (hb : TB l) (hkw : KW l) (lv : Value) (hs : ToksAt g lv l) (b : Nat) (s : RS) {w : Bytes} (hw : kindOf w = 5) : SpecL Tryz.prog 41 [ptr b 0, .int .i64 5, str w] g (rdP b lv s) fun v g' r' => v = .bool (s.isIs l w) ∧ g' = g ∧ r' = rdP b lv (s.skip l w) := by
 obtain ⟨e1, e2⟩ := hasT_mark hkw hw s
 rw [← e1, ← e2]
 exact pread_aux g l hb lv hs b s 5 w
theorem pword_spec (g : Ghost) (l : List Tok) (hb : TB l) (hkw : KW l) (lv : Value) (hs : ToksAt g lv l) (b : Nat) (s : RS) {w : Bytes} (hw : kindOf w = 4) : SpecL Tryz.prog 41 [ptr b 0, .int .i64 4, str w] g (rdP b lv s) fun v g' r' => v = .bool (s.isIs l w) ∧ g' = g ∧ r' = rdP b lv (s.skip l w) := by
 obtain ⟨e1, e2⟩ := hasT_word hkw hw s
 rw [← e1, ← e2]
 exact pread_aux g l hb lv hs b s 4 w
theorem need_of (l : List Tok) (w : Bytes) (s : RS) : s.need l w = if s.isIs l w then s.skip l w else (s.skip l w).fail l := by
 cases s with
 | bad i p => rfl
 | good i =>
  cases h : isAt l i w with
  | true => simp [RS.need, RS.isIs, RS.skip, h]
  | false => simp [RS.need, RS.isIs, RS.skip, RS.fail, h]
theorem pwant_spec (g : Ghost) (l : List Tok) (hb : TB l) (hkw : KW l) (lv : Value) (hs : ToksAt g lv l) (b : Nat) (s : RS) {w : Bytes} (hw : kindOf w = 5) : SpecL Tryz.prog 86 [ptr b 0, str w] g (rdP b lv s) fun _ g' r' => g' = g ∧ r' = rdP b lv (s.need l w) := by
 rw [need_of]
 refine spec_of_run Tryz.func86 rfl Tryz.ntmps86 rfl fun E hE => ?_
 refine r_sr <| r_ev rfl rfl <| r_ev rfl rfl ?_
 refine r_callL 0 rfl rfl rfl (pmark_spec g l hb hkw lv hs b s hw) ?_
 rintro v g' r' ⟨rfl, rfl, rfl⟩ _
 cases hk : s.isIs l w with
 | true =>
  refine r_ev rfl rfl <| r_nn <| r_cond_false rfl <| r_skip <| r_fin_n ?_
  exact r_ret0 [_] rfl (List.Sublist.refl _) ⟨_, rfl, rfl, rfl⟩
 | false =>
  refine r_ev rfl rfl <| r_nn <| r_cond_true rfl <| r_region <| r_ev rfl rfl ?_
  refine r_callL 0 rfl rfl rfl (pfail_spec g' l hb lv hs b (s.skip l w)) ?_
  rintro v g1 r' ⟨rfl, rfl⟩ _
  refine r_nil <| r_fin_n ?_
  exact r_ret0 [_] rfl (List.Sublist.refl _) ⟨_, rfl, rfl, rfl⟩
theorem kindAt_get {l : List Tok} {i : Nat} (h : i < l.length) (k : Int) : kindAt l i k = decide (l[i].kind = k) := by unfold kindAt; rw [toks_some h]
theorem kindAt_end {l : List Tok} {i : Nat} (h : ¬ i < l.length) (k : Int) : kindAt l i k = false := by unfold kindAt; rw [List.getElem?_eq_none (by omega)]
theorem pname_spec (g : Ghost) (l : List Tok) (hb : TB l) (lv : Value) (hs : ToksAt g lv l) (b : Nat) (s : RS) (k : Int) : SpecL Tryz.prog 85 [ptr b 0, .int .i64 k] g (rdP b lv s) fun v g' r' => v = str (s.text l k) ∧ g' = g ∧ r' = rdP b lv (s.word l k) := by
 have hb1 := hb.1
 obtain ⟨la, lc, rfl⟩ := slForm2 hs
 cases s with
 | bad i p =>
  refine spec_of_run Tryz.func85 rfl Tryz.ntmps85 rfl fun E hE => ?_
  refine r_sr <| r_ev rfl rfl <| r_nn <| r_seq <| r_seq ?_
  refine r_qregion mixed (by kernel_rfl) ?_
  refine q_ev rfl rfl ?_
  refine q_callO 0 rfl rfl rfl (pok_spec g _ b (.bad i p)) ?_
  refine q_ev rfl rfl <| q_ev rfl rfl <| q_pass rfl rfl rfl <| q_pass rfl rfl rfl <| q_pass rfl rfl rfl <| q_pass rfl rfl rfl <| q_pass rfl rfl rfl <| q_pass rfl rfl rfl <| q_pass rfl rfl rfl <| q_pass rfl rfl rfl <| q_pass rfl rfl rfl <| q_pass rfl rfl rfl <| q_ev rfl rfl <| q_ev rfl rfl ?_; refine q_pass rfl rfl rfl <| q_pass rfl rfl rfl <| q_pass rfl rfl rfl <| q_pass rfl rfl rfl <| q_pass rfl rfl rfl <| q_pass rfl rfl rfl <| q_pass rfl rfl rfl <| q_pass rfl rfl rfl <| q_pass rfl rfl rfl <| q_pass rfl rfl rfl <| q_pass rfl rfl rfl <| q_pass rfl rfl rfl <| q_pass rfl rfl rfl <| q_ev rfl rfl ?_; refine q_end ?_
  refine r_then_normal <| r_cond_true rfl <| r_sr <| r_ev rfl rfl ?_
  refine r_callL 0 rfl rfl rfl (pfail_spec g l hb _ hs b (.bad i p)) ?_
  rintro v g1 r' ⟨rfl, rfl⟩ _
  refine r_nn <| r_sr <| r_ev rfl rfl <| r_nn <| r_retc <| r_then_ret ?_
  exact r_ret1 [_] rfl rfl (List.Sublist.refl _) ⟨_, rfl, rfl, rfl, rfl⟩
 | good i =>
  have no : kindAt l i k = false → RS.text l k (.good i) = [] ∧ RS.word l k (.good i) = RS.fail l (.good i) := fun h => ⟨(nameAt_no h).2.2, (nameAt_no h).2.1⟩
  refine spec_of_run Tryz.func85 rfl Tryz.ntmps85 rfl fun E hE => ?_
  refine r_sr <| r_ev rfl rfl <| r_nn <| r_seq <| r_seq ?_
  refine r_qregion mixed (by kernel_rfl) ?_
  refine q_ev rfl rfl ?_
  refine q_callO 0 rfl rfl rfl (pok_spec g _ b (.good i)) ?_
  refine q_ev rfl rfl <| q_ev rfl rfl <| q_tev rfl rfl rfl <| q_tev rfl rfl rfl <| q_take rfl <| q_v rfl (val_fieldAddr rfl) ?_; refine q_take rfl <| q_v rfl (val_loadB1 0 rfl rfl rfl) ?_; refine q_tev rfl rfl rfl <| q_tev rfl rfl rfl <| q_take rfl <| q_v rfl (val_fieldAddr rfl) ?_; refine q_take rfl <| q_v rfl (val_loadB1 0 rfl rfl rfl) ?_; refine q_take rfl <| q_v rfl (val_len_sl rfl) ?_; refine q_tev rfl rfl rfl <| q_ev rfl rfl <| q_ev rfl rfl ?_
  refine q_gdec rfl rfl (fun hlt => ?_) (fun hlt => ?_)
  ·obtain ⟨e1, e2⟩ := no (kindAt_end (by omega) k)
   rw [e1, e2]
   refine q_pass rfl rfl rfl <| q_pass rfl rfl rfl <| q_pass rfl rfl rfl <| q_pass rfl rfl rfl <| q_pass rfl rfl rfl <| q_pass rfl rfl rfl <| q_pass rfl rfl rfl <| q_pass rfl rfl rfl <| q_pass rfl rfl rfl <| q_pass rfl rfl rfl <| q_pass rfl rfl rfl <| q_pass rfl rfl rfl <| q_pass rfl rfl rfl <| q_ev rfl rfl ?_; refine q_end ?_
   refine r_then_normal <| r_cond_true rfl <| r_sr <| r_ev rfl rfl ?_
   refine r_callL 0 rfl rfl rfl (pfail_spec g l hb _ hs b (.good i)) ?_
   rintro v g1 r' ⟨rfl, rfl⟩ _
   refine r_nn <| r_sr <| r_ev rfl rfl <| r_nn <| r_retc <| r_then_ret ?_
   exact r_ret1 [_] rfl rfl (List.Sublist.refl _) ⟨_, rfl, rfl, rfl, rfl⟩
  ·have hlt' : i < l.length := by omega
   have hk := kindAt_get hlt' k
   obtain ⟨b0, off, cap, hsl, hx⟩ := hs.held hlt'
   cases hsl
   refine q_tev rfl rfl rfl <| q_tev rfl rfl rfl <| q_take rfl <| q_v rfl (val_fieldAddr rfl) ?_; refine q_take rfl <| q_v rfl (val_loadB1 0 rfl rfl rfl) ?_; refine q_tev rfl rfl rfl <| q_tev rfl rfl rfl <| q_take rfl <| q_v rfl (val_fieldAddr rfl) ?_; refine q_take rfl <| q_v rfl (val_loadB1 0 rfl rfl rfl) ?_; refine q_take rfl <| q_v rfl (val_indexAddr rfl rfl rfl (by omega)) ?_; refine q_take rfl <| q_v rfl (val_fieldAddr rfl) ?_; refine q_take rfl ?_
   refine q_v rfl (val_load1 rfl (SlAt.cell tokCells_len hx hlt' 0 rfl)) ?_
   refine q_tev rfl rfl rfl <| q_tev rfl rfl rfl <| q_ev rfl rfl <| q_end <| r_then_normal ?_
   refine r_cond rfl (fun h5 => ?_) (fun h5 => ?_)
   ·obtain ⟨e1, e2⟩ := no (by rw [hk]; simp [h5])
    rw [e1, e2]
    refine r_sr <| r_ev rfl rfl ?_
    refine r_callL 0 rfl rfl rfl (pfail_spec g l hb _ hs b (.good i)) ?_
    rintro v g1 r' ⟨rfl, rfl⟩ _
    refine r_nn <| r_sr <| r_ev rfl rfl <| r_nn <| r_retc <| r_then_ret ?_
    exact r_ret1 [_] rfl rfl (List.Sublist.refl _) ⟨_, rfl, rfl, rfl, rfl⟩
   ·have hk' : kindAt l i k = true := by rw [hk]; simp only [Decidable.not_not] at h5; simp [h5]
    have e2 := (nameAt_yes hk').2.1
    have e1 : RS.text l k (.good i) = l[i].text := by simp only [RS.text]; rw [toks_some hlt']; simp only [Decidable.not_not] at h5; simp [h5]
    rw [e1, e2]
    refine r_skip <| r_then_normal <| r_sr <| r_ev rfl rfl <| r_ev rfl rfl <| r_fieldAddr rfl rfl <| r_loadB1 0 rfl rfl rfl rfl <| r_add rfl rfl rfl (by omega) ?_; refine r_ev rfl rfl <| r_fieldAddr rfl rfl <| r_store1 0 rfl rfl rfl rfl rfl rfl <| r_nn <| r_seq ?_
    refine r_qregion mixed (by kernel_rfl) ?_
    refine q_ev rfl rfl <| q_ev rfl rfl <| q_v rfl (val_fieldAddr rfl) ?_; refine q_v rfl (val_loadB1 0 rfl rfl rfl) ?_; refine q_ev rfl rfl <| q_ev rfl rfl <| q_v rfl (val_fieldAddr rfl) ?_; refine q_v rfl (val_loadB1 0 rfl rfl rfl) ?_; refine q_v rfl (val_sub_ rfl rfl (by omega)) ?_
    refine q_v rfl (val_indexAddr (j := i) rfl rfl (by omega) hlt') ?_
    refine q_v rfl (val_fieldAddr rfl) ?_
    refine q_v rfl (val_load1 rfl (SlAt.cell tokCells_len hx hlt' 1 rfl)) ?_
    refine q_ev rfl rfl <| q_end ?_
    refine r_then_normal <| r_retc ?_
    exact r_ret1 [_] rfl rfl (List.Sublist.refl _) ⟨_, rfl, rfl, rfl, rfl⟩
theorem ptake_aux (g : Ghost) (b i i' : Nat) (la : Option Addr) (ln lc : Nat) (e p e' p' : Int) : SpecL Tryz.prog 89 [ptr b 0, .int .i64 i', .agg #[.int .i64 e', .int .i64 p']] g (.blk b 81 [.slice la ln lc, .int .i64 i, .int .i64 e, .int .i64 p]) fun _ g' r' => g' = g ∧ r' = .blk b 81 [.slice la ln lc, .int .i64 i', .int .i64 e', .int .i64 p'] := by
 refine spec_of_run Tryz.func89 rfl Tryz.ntmps89 rfl fun E hE => ?_
 refine r_sr ?_
 refine r_box rfl rfl rfl (fun b5 => ?_)
 refine r_nn ?_
 refine h_beginE [1] mixed (fun hG => ?_)
 refine h_takeXA 0 rfl (by kernel_rfl) rfl hG ?_; refine ⟨_, (val_ev rfl), ?_⟩; refine h_takeXA 1 rfl (by kernel_rfl) rfl hG ?_; refine ⟨_, (val_ev rfl), ?_⟩; refine h_takeXA 2 rfl (by kernel_rfl) rfl hG ?_; refine ⟨_, (val_ev rfl), ?_⟩; refine h_takeXA 3 rfl (by kernel_rfl) rfl hG ?_; refine ⟨_, (val_loadB 0 rfl rfl (by rfl)), ?_⟩; refine h_takeXA 4 rfl (by kernel_rfl) rfl hG ?_; refine ⟨_, (val_ev rfl), ?_⟩; refine h_takeXA 5 rfl (by kernel_rfl) rfl hG ?_; refine ⟨_, (val_fieldAddr rfl), ?_⟩
 refine h_one 6 (by kernel_rfl) rfl ?_
 refine r_store1 1 rfl rfl rfl rfl rfl rfl <| r_nn ?_
 refine h_keptA hG ?_
 refine h_takeXA 7 rfl (by kernel_rfl) rfl hG ?_; refine ⟨_, (val_ev rfl), ?_⟩; refine h_takeXA 8 rfl (by kernel_rfl) rfl hG ?_; refine ⟨_, (val_fieldAddr rfl), ?_⟩
 refine h_one 9 (by kernel_rfl) rfl ?_
 refine r_storeA 1 rfl rfl rfl rfl (by rfl) (by repeat' (first | exact rfl | assumption | refine all_cons ?_ ?_)) rfl ?_; refine r_nn ?_
 refine h_keptA hG ?_
 refine h_done (by kernel_rfl) ?_
 refine r_fin_n ?_
 exact r_ret0 [_] rfl (.cons _ (List.Sublist.refl _)) ⟨_, rfl, rfl, rfl⟩
theorem ptake_spec (g : Ghost) (l : List Tok) (lv : Value) (hs : ToksAt g lv l) (b : Nat) (s s' : RS) : SpecL Tryz.prog 89 [ptr b 0, .int .i64 s'.idx, .agg #[.int .i64 s'.errP, .int .i64 s'.posP]] g (rdP b lv s) fun _ g' r' => g' = g ∧ r' = rdP b lv s' := by
 obtain ⟨la, lc, rfl⟩ := slForm2 hs
 cases s with
 | good i =>
  cases s' with
  | good i' => exact ptake_aux g b i i' la l.length lc 0 0 0 0
  | bad i' p' => exact ptake_aux g b i i' la l.length lc 0 0 3 p'
 | bad i p =>
  cases s' with
  | good i' => exact ptake_aux g b i i' la l.length lc 3 p 0 0
  | bad i' p' => exact ptake_aux g b i i' la l.length lc 3 p 3 p'
end Go.Proofs.YtpjehhnaojjanaaGreatDoor
-- sum 4dea561f52ed027c


/- The walk of typedholesmake.Tokens. -/
namespace Go.Th
end Go.Th
namespace Go.Proofs.YtpjehhnaojjanaaGreatDoor
open Go Go.Eng Go.Th Go.Proofs
set_option maxRecDepth 10000
set_option maxHeartbeats 4000000
attribute [local irreducible] wpList Code.wp Run bodyPost Go.Eng.Ends Exit.then Exit.inBlock Again Wq Kq
end Go.Proofs.YtpjehhnaojjanaaGreatDoor
-- sum 6961577c1f688676


/- The walk of ReadexprAny. -/
namespace Go.Th
theorem let_bnd {l : List Tok} {f : EQ → Nat → ER} {k p : Int} {i : Nat} {e : Ex} {j : Nat} (hf : ∀ q i e j, i ≤ l.length → f q i = .ok (e, j) → j ≤ l.length) (h : letStep l f k p i = .ok (e, j)) : j ≤ l.length := by
 unfold letStep at h
 split at h
 ·cases h
 ·split at h
  ·rename_i hm
   have hi := tokAt_lt hm
   split at h
   ·cases h
   ·rename_i a k1 h1
    have i1 := hf _ _ _ _ hi h1
    split at h
    ·rename_i hw
     have hi2 := tokAt_lt hw
     split at h
     ·cases h
     ·rename_i b m h2
      have i2 := hf _ _ _ _ hi2 h2
      cases h
      exact i2
    ·cases h
  ·cases h
theorem eread_bnd (l : List Tok) : ∀ (N : Nat) (q : EQ) (i : Nat) (e : Ex) (j : Nat), emu l q i < N → i ≤ l.length → eread l q i = .ok (e, j) → j ≤ l.length
 | 0, _, _, _, _, h, _, _ => by omega
 | N + 1, q, i, e, j, hN, hi, h => by
  have ih := eread_bnd l N
  rw [eread_eq] at h
  have hf : ∀ q' i' e' j', i' ≤ l.length → ecall l (eread l) q i q' i' = .ok (e', j') → j' ≤ l.length := fun q' i' e' j' hi' hc => by
   obtain ⟨h1, h2⟩ := ecall_ok hc
   exact ih q' i' e' j' (by omega) hi' h2
  cases q with
  | expr =>
   simp only [estep] at h
   split at h
   ·split at h
    ·cases h
    ·split at h
     ·rename_i hm
      have := tokAt_lt hm
      split at h
      ·cases h
      ·rename_i b k h1
       have i1 := hf _ _ _ _ this h1
       cases h; exact i1
     ·cases h
   ·split at h
    ·rename_i hm
     have h0 := tokAt_lt hm
     split at h
     ·exact let_bnd hf h
     ·exact let_bnd hf h
    ·split at h
     ·rename_i hm
      have h0 := tokAt_lt hm
      split at h
      ·cases h
      ·rename_i e1 j1 h1
       split at h
       ·rename_i hw
        exact hf _ _ _ _ (tokAt_lt hw) h
       ·cases h
     ·split at h
      ·cases h
      ·rename_i e1 j1 h1
       exact hf _ _ _ _ (hf _ _ _ _ hi h1) h
  | apps x =>
   simp only [estep] at h
   split at h
   ·split at h
    ·cases h
    ·rename_i a j1 h1
     exact hf _ _ _ _ (hf _ _ _ _ hi h1) h
   ·cases h; exact hi
  | arms p x acc =>
   simp only [estep] at h
   split at h
   ·cases h
   ·split at h
    ·rename_i hm
     have h0 := tokAt_lt hm
     split at h
     ·cases h
     ·rename_i b m h1
      split at h
      ·rename_i hw
       exact hf _ _ _ _ (tokAt_lt hw) h
      ·split at h
       ·rename_i hw
        cases h
        exact tokAt_lt hw
       ·cases h
    ·cases h
  | atom =>
   simp only [estep] at h
   split at h
   ·cases h
   ·rename_i t ht
    have h0 := (List.getElem?_eq_some_iff.1 ht).1
    split at h
    ·cases h; exact h0
    ·split at h
     ·cases h; exact h0
     ·split at h
      ·cases h; exact h0
      ·split at h
       ·cases h; exact h0
       ·split at h
        ·split at h
         ·cases h
         ·rename_i x1 j1 h1
          split at h
          ·rename_i hw
           cases h; exact tokAt_lt hw
          ·cases h
        ·split at h
         ·split at h
          ·cases h
          ·rename_i x1 j1 h1
           split at h
           ·split at h
            ·cases h
            ·rename_i y k h2
             split at h
             ·rename_i hw
              cases h; exact tokAt_lt hw
             ·cases h
           ·split at h
            ·rename_i hw
             cases h; exact tokAt_lt hw
            ·cases h
         ·cases h
end Go.Th
namespace Go.Proofs.YtpjehhnaojjanaaGreatDoor
open Go Go.Eng Go.Th Go.Proofs
set_option maxRecDepth 10000
set_option maxHeartbeats 4000000
attribute [local irreducible] wpList Code.wp Run bodyPost Go.Eng.Ends Exit.then Exit.inBlock Again Wq Kq
end Go.Proofs.YtpjehhnaojjanaaGreatDoor
-- sum 26ef9dda96160e63


/- The walks of the reference's reader (typedholesref5): the small methods. -/
import Derived.Test.YtpjehhnaojjanaaGreatDoorK6
import Derived.Test.YtpjehhnaojjanaaGreatDoorK4
namespace Go.Proofs.YtpjehhnaojjanaaGreatDoor
open Go Go.Eng Go.Th Go.Proofs
set_option maxRecDepth 10000
set_option maxHeartbeats 4000000
attribute [local irreducible] wpList Code.wp Run bodyPost Go.Eng.Ends Exit.then Exit.inBlock Again Wq Kq
inductive RS where
 | good (i : Nat)
 | bad (i : Nat) (p : Int)
def RS.cells (lv : Value) : RS → List Value
 | .good i => [lv, .int .i64 i, .bool false, .int .i64 0]
 | .bad i p => [lv, .int .i64 i, .bool true, .int .i64 p]
abbrev rdB (b : Nat) (lv : Value) (s : RS) : Res := .blk b 92 (s.cells lv)
def isAt (l : List Tok) (i : Nat) (w : Bytes) : Bool := tokAt l i 5 w || tokAt l i 4 w
def kindAt (l : List Tok) (i : Nat) (k : Int) : Bool := match l[i]? with
 | some t => decide (t.kind = k)
 | none => false
def RS.kindIs (l : List Tok) (k : Int) : RS → Bool
 | .good i => kindAt l i k
 | .bad _ _ => false
def RS.isIs (l : List Tok) (w : Bytes) : RS → Bool
 | .good i => isAt l i w
 | .bad _ _ => false
def RS.skip (l : List Tok) (w : Bytes) : RS → RS
 | .good i => if isAt l i w then .good (i + 1) else .good i
 | .bad i p => .bad i p
def RS.fail (l : List Tok) : RS → RS
 | .good i => .bad i (failPos l i)
 | .bad i p => .bad i p
def RS.need (l : List Tok) (w : Bytes) : RS → RS
 | .good i => if isAt l i w then .good (i + 1) else .bad i (failPos l i)
 | .bad i p => .bad i p
def RS.word (l : List Tok) (k : Int) : RS → RS
 | .good i => if kindAt l i k then .good (i + 1) else .bad i (failPos l i)
 | .bad i p => .bad i p
def RS.text (l : List Tok) (k : Int) : RS → Bytes
 | .good i => match l[i]? with
  | some t => if t.kind = k then t.text else []
  | none => []
 | .bad _ _ => []
def RS.ok (l : List Tok) : RS → Prop
 | .good i => i ≤ l.length
 | .bad i _ => i ≤ l.length
theorem Kind5_spec (g : Ghost) (l : List Tok) (lv : Value) (hs : ToksAt g lv l) (b : Nat) (s : RS) (k : Int) : PureO Tryz.prog 95 [ptr b 0, .int .i64 k] g (rdB b lv s) (.bool (s.kindIs l k)) := by
 cases s with
 | bad i p =>
  refine spec_of_run Tryz.func95 rfl Tryz.ntmps95 rfl fun E hE => ?_
  refine r_sr <| r_ev rfl rfl <| r_nn <| r_seq ?_
  refine r_qregion mixed (by kernel_rfl) ?_
  refine q_ev rfl rfl <| q_ev rfl rfl <| q_v rfl (val_fieldAddr rfl) ?_; refine q_v rfl (val_loadB1 0 rfl rfl rfl) ?_; refine q_ev rfl rfl <| q_ev rfl rfl <| q_pass rfl rfl rfl <| q_pass rfl rfl rfl <| q_pass rfl rfl rfl <| q_pass rfl rfl rfl <| q_pass rfl rfl rfl <| q_pass rfl rfl rfl <| q_pass rfl rfl rfl <| q_pass rfl rfl rfl <| q_pass rfl rfl rfl <| q_pass rfl rfl rfl <| q_ev rfl rfl <| q_ev rfl rfl ?_; refine q_pass rfl rfl rfl <| q_pass rfl rfl rfl <| q_pass rfl rfl rfl <| q_pass rfl rfl rfl <| q_pass rfl rfl rfl <| q_pass rfl rfl rfl <| q_pass rfl rfl rfl <| q_pass rfl rfl rfl <| q_pass rfl rfl rfl <| q_pass rfl rfl rfl <| q_pass rfl rfl rfl <| q_pass rfl rfl rfl <| q_pass rfl rfl rfl <| q_ev rfl rfl ?_; refine q_ev rfl rfl <| q_end <| r_then_normal <| r_retc ?_
  exact r_ret1 [_] rfl rfl (List.Sublist.refl _) ⟨rfl, rfl, rfl⟩
 | good i =>
  refine spec_of_run Tryz.func95 rfl Tryz.ntmps95 rfl fun E hE => ?_
  refine r_sr <| r_ev rfl rfl <| r_nn <| r_seq ?_
  refine r_qregion mixed (by kernel_rfl) ?_
  refine q_ev rfl rfl <| q_ev rfl rfl <| q_v rfl (val_fieldAddr rfl) ?_; refine q_v rfl (val_loadB1 0 rfl rfl rfl) ?_; refine q_ev rfl rfl <| q_ev rfl rfl <| q_tev rfl rfl rfl <| q_tev rfl rfl rfl <| q_take rfl <| q_v rfl (val_fieldAddr rfl) ?_; refine q_take rfl <| q_v rfl (val_loadB1 0 rfl rfl rfl) ?_; refine q_tev rfl rfl rfl <| q_tev rfl rfl rfl <| q_take rfl <| q_v rfl (val_fieldAddr rfl) ?_; refine q_take rfl <| q_v rfl (val_loadB1 0 rfl rfl rfl) ?_; refine q_take rfl <| q_v rfl (val_len_at rfl (by assumption)) ?_; refine q_tev rfl rfl rfl <| q_ev rfl rfl <| q_ev rfl rfl ?_
  refine q_gdec rfl rfl (fun hlt => ?_) (fun hlt => ?_)
  ·have hlt' : i < l.length := by omega
   have hk : RS.kindIs l k (.good i) = decide (l[i].kind = k) := by show kindAt l i k = _; unfold kindAt; rw [toks_some hlt']
   obtain ⟨b0, off, cap, rfl, hx⟩ := hs.held hlt'
   refine q_tev rfl rfl rfl <| q_tev rfl rfl rfl <| q_take rfl <| q_v rfl (val_fieldAddr rfl) ?_; refine q_take rfl <| q_v rfl (val_loadB1 0 rfl rfl rfl) ?_; refine q_tev rfl rfl rfl <| q_tev rfl rfl rfl <| q_take rfl <| q_v rfl (val_fieldAddr rfl) ?_; refine q_take rfl <| q_v rfl (val_loadB1 0 rfl rfl rfl) ?_; refine q_take rfl <| q_v rfl (val_indexAddr rfl rfl rfl (by omega)) ?_; refine q_take rfl <| q_v rfl (val_fieldAddr rfl) ?_; refine q_take rfl ?_
   refine q_v rfl (val_load1 rfl (SlAt.cell tokCells_len hx hlt' 0 rfl)) ?_
   refine q_tev rfl rfl rfl <| q_tev rfl rfl rfl <| q_ev rfl rfl <| q_ev rfl rfl <| q_end <| r_then_normal <| r_retc ?_
   exact r_ret1 [_] rfl rfl (List.Sublist.refl _) ⟨by rw [hk], rfl, rfl⟩
  ·have hk : RS.kindIs l k (.good i) = false := by show kindAt l i k = _; unfold kindAt; rw [List.getElem?_eq_none (by omega)]
   refine q_pass rfl rfl rfl <| q_pass rfl rfl rfl <| q_pass rfl rfl rfl <| q_pass rfl rfl rfl <| q_pass rfl rfl rfl <| q_pass rfl rfl rfl <| q_pass rfl rfl rfl <| q_pass rfl rfl rfl <| q_pass rfl rfl rfl <| q_pass rfl rfl rfl <| q_pass rfl rfl rfl <| q_pass rfl rfl rfl <| q_pass rfl rfl rfl <| q_ev rfl rfl ?_; refine q_ev rfl rfl <| q_end <| r_then_normal <| r_retc ?_
   exact r_ret1 [_] rfl rfl (List.Sublist.refl _) ⟨by rw [hk], rfl, rfl⟩
theorem Is5_spec (g : Ghost) (l : List Tok) (lv : Value) (hs : ToksAt g lv l) (b : Nat) (s : RS) (w : Bytes) : PureO Tryz.prog 48 [ptr b 0, str w] g (rdB b lv s) (.bool (s.isIs l w)) := by
 cases s with
 | bad i p =>
  refine spec_of_run Tryz.func48 rfl Tryz.ntmps48 rfl fun E hE => ?_
  refine r_sr <| r_ev rfl rfl <| r_nn <| r_seq ?_
  refine r_qregion mixed (by kernel_rfl) ?_
  refine q_ev rfl rfl <| q_ev rfl rfl <| q_v rfl (val_fieldAddr rfl) ?_; refine q_v rfl (val_loadB1 0 rfl rfl rfl) ?_; refine q_ev rfl rfl <| q_ev rfl rfl <| q_pass rfl rfl rfl <| q_pass rfl rfl rfl <| q_pass rfl rfl rfl <| q_pass rfl rfl rfl <| q_pass rfl rfl rfl <| q_pass rfl rfl rfl <| q_pass rfl rfl rfl <| q_pass rfl rfl rfl <| q_pass rfl rfl rfl <| q_pass rfl rfl rfl <| q_ev rfl rfl <| q_ev rfl rfl ?_; refine q_pass rfl rfl rfl <| q_pass rfl rfl rfl <| q_pass rfl rfl rfl <| q_pass rfl rfl rfl <| q_pass rfl rfl rfl <| q_pass rfl rfl rfl <| q_pass rfl rfl rfl <| q_pass rfl rfl rfl <| q_pass rfl rfl rfl <| q_pass rfl rfl rfl <| q_pass rfl rfl rfl <| q_pass rfl rfl rfl <| q_pass rfl rfl rfl <| q_passU rfl rfl ?_; refine q_passU rfl rfl <| q_passU rfl rfl <| q_passU rfl rfl <| q_passU rfl rfl <| q_passU rfl rfl <| q_passU rfl rfl <| q_passU rfl rfl <| q_passU rfl rfl <| q_passU rfl rfl <| q_passU rfl rfl <| q_passU rfl rfl <| q_pass rfl rfl rfl <| q_ev rfl rfl <| q_ev rfl rfl ?_; refine q_pass rfl rfl rfl <| q_pass rfl rfl rfl <| q_pass rfl rfl rfl <| q_pass rfl rfl rfl <| q_pass rfl rfl rfl <| q_pass rfl rfl rfl <| q_pass rfl rfl rfl <| q_pass rfl rfl rfl <| q_pass rfl rfl rfl <| q_pass rfl rfl rfl <| q_pass rfl rfl rfl <| q_pass rfl rfl rfl <| q_pass rfl rfl rfl <| q_ev rfl rfl ?_; refine q_ev rfl rfl <| q_end <| r_then_normal <| r_retc ?_
  exact r_ret1 [_] rfl rfl (List.Sublist.refl _) ⟨rfl, rfl, rfl⟩
 | good i =>
  refine spec_of_run Tryz.func48 rfl Tryz.ntmps48 rfl fun E hE => ?_
  refine r_sr <| r_ev rfl rfl <| r_nn <| r_seq ?_
  refine r_qregion mixed (by kernel_rfl) ?_
  refine q_ev rfl rfl <| q_ev rfl rfl <| q_v rfl (val_fieldAddr rfl) ?_; refine q_v rfl (val_loadB1 0 rfl rfl rfl) ?_; refine q_ev rfl rfl <| q_ev rfl rfl <| q_tev rfl rfl rfl <| q_tev rfl rfl rfl <| q_take rfl <| q_v rfl (val_fieldAddr rfl) ?_; refine q_take rfl <| q_v rfl (val_loadB1 0 rfl rfl rfl) ?_; refine q_tev rfl rfl rfl <| q_tev rfl rfl rfl <| q_take rfl <| q_v rfl (val_fieldAddr rfl) ?_; refine q_take rfl <| q_v rfl (val_loadB1 0 rfl rfl rfl) ?_; refine q_take rfl <| q_v rfl (val_len_at rfl (by assumption)) ?_; refine q_tev rfl rfl rfl <| q_ev rfl rfl <| q_ev rfl rfl ?_
  refine q_gdec rfl rfl (fun hlt => ?_) (fun hlt => ?_)
  ·have hlt' : i < l.length := by omega
   have hk : RS.isIs l w (.good i) = ((decide (l[i].kind = 5) && decide (l[i].text = w)) || (decide (l[i].kind = 4) && decide (l[i].text = w))) := by show isAt l i w = _; unfold isAt tokAt; rw [toks_some hlt']
   obtain ⟨b0, off, cap, rfl, hx⟩ := hs.held hlt'
   refine q_tev rfl rfl rfl <| q_tev rfl rfl rfl <| q_take rfl <| q_v rfl (val_fieldAddr rfl) ?_; refine q_take rfl <| q_v rfl (val_loadB1 0 rfl rfl rfl) ?_; refine q_tev rfl rfl rfl <| q_tev rfl rfl rfl <| q_take rfl <| q_v rfl (val_fieldAddr rfl) ?_; refine q_take rfl <| q_v rfl (val_loadB1 0 rfl rfl rfl) ?_; refine q_take rfl <| q_v rfl (val_indexAddr rfl rfl rfl (by omega)) ?_; refine q_take rfl <| q_v rfl (val_fieldAddr rfl) ?_; refine q_take rfl ?_
   refine q_v rfl (val_load1 rfl (SlAt.cell tokCells_len hx hlt' 0 rfl)) ?_
   refine q_tev rfl rfl rfl <| q_tev rfl rfl rfl ?_
   refine q_gdec rfl rfl (fun h5 => ?_) (fun h5 => ?_)
   ·refine q_pass rfl rfl rfl <| q_pass rfl rfl rfl <| q_pass rfl rfl rfl <| q_pass rfl rfl rfl <| q_pass rfl rfl rfl <| q_pass rfl rfl rfl <| q_pass rfl rfl rfl <| q_pass rfl rfl rfl <| q_pass rfl rfl rfl <| q_pass rfl rfl rfl <| q_pass rfl rfl rfl <| q_pass rfl rfl rfl <| q_tev rfl rfl rfl <| q_ev rfl rfl ?_; refine q_ev rfl rfl <| q_tev rfl rfl rfl <| q_tev rfl rfl rfl <| q_take rfl <| q_v rfl (val_fieldAddr rfl) ?_; refine q_take rfl <| q_v rfl (val_loadB1 0 rfl rfl rfl) ?_; refine q_tev rfl rfl rfl <| q_tev rfl rfl rfl <| q_take rfl <| q_v rfl (val_fieldAddr rfl) ?_; refine q_take rfl <| q_v rfl (val_loadB1 0 rfl rfl rfl) ?_; refine q_take rfl <| q_v rfl (val_indexAddr rfl rfl rfl (by omega)) ?_; refine q_take rfl <| q_v rfl (val_fieldAddr rfl) ?_; refine q_take rfl ?_
    refine q_v rfl (val_load1 rfl (SlAt.cell tokCells_len hx hlt' 1 rfl)) ?_
    refine q_tev rfl rfl rfl <| q_tev rfl rfl rfl <| q_ev rfl rfl <| q_ev rfl rfl <| q_end <| r_then_normal <| r_retc ?_
    exact r_ret1 [_] rfl rfl (List.Sublist.refl _) ⟨by rw [hk]; simp [h5], rfl, rfl⟩
   ·refine q_tev rfl rfl rfl <| q_tev rfl rfl rfl <| q_take rfl <| q_v rfl (val_fieldAddr rfl) ?_; refine q_take rfl <| q_v rfl (val_loadB1 0 rfl rfl rfl) ?_; refine q_tev rfl rfl rfl <| q_tev rfl rfl rfl <| q_take rfl <| q_v rfl (val_fieldAddr rfl) ?_; refine q_take rfl <| q_v rfl (val_loadB1 0 rfl rfl rfl) ?_; refine q_take rfl <| q_v rfl (val_indexAddr rfl rfl rfl (by omega)) ?_; refine q_take rfl <| q_v rfl (val_fieldAddr rfl) ?_; refine q_take rfl ?_
    refine q_v rfl (val_load1 rfl (SlAt.cell tokCells_len hx hlt' 0 rfl)) ?_
    refine q_tev rfl rfl rfl <| q_tev rfl rfl rfl <| q_ev rfl rfl <| q_ev rfl rfl ?_
    refine q_gdec rfl rfl (fun h4 => ?_) (fun h4 => ?_)
    ·refine q_tev rfl rfl rfl <| q_tev rfl rfl rfl <| q_take rfl <| q_v rfl (val_fieldAddr rfl) ?_; refine q_take rfl <| q_v rfl (val_loadB1 0 rfl rfl rfl) ?_; refine q_tev rfl rfl rfl <| q_tev rfl rfl rfl <| q_take rfl <| q_v rfl (val_fieldAddr rfl) ?_; refine q_take rfl <| q_v rfl (val_loadB1 0 rfl rfl rfl) ?_; refine q_take rfl <| q_v rfl (val_indexAddr rfl rfl rfl (by omega)) ?_; refine q_take rfl <| q_v rfl (val_fieldAddr rfl) ?_; refine q_take rfl ?_
     refine q_v rfl (val_load1 rfl (SlAt.cell tokCells_len hx hlt' 1 rfl)) ?_
     refine q_tev rfl rfl rfl <| q_tev rfl rfl rfl <| q_ev rfl rfl <| q_ev rfl rfl <| q_end <| r_then_normal <| r_retc ?_
     exact r_ret1 [_] rfl rfl (List.Sublist.refl _) ⟨by rw [hk]; simp [h4], rfl, rfl⟩
    ·refine q_pass rfl rfl rfl <| q_pass rfl rfl rfl <| q_pass rfl rfl rfl <| q_pass rfl rfl rfl <| q_pass rfl rfl rfl <| q_pass rfl rfl rfl <| q_pass rfl rfl rfl <| q_pass rfl rfl rfl <| q_pass rfl rfl rfl <| q_pass rfl rfl rfl <| q_pass rfl rfl rfl <| q_pass rfl rfl rfl <| q_pass rfl rfl rfl <| q_ev rfl rfl ?_; refine q_ev rfl rfl <| q_end <| r_then_normal <| r_retc ?_
     exact r_ret1 [_] rfl rfl (List.Sublist.refl _) ⟨by rw [hk]; simp [h5, h4], rfl, rfl⟩
  ·have hk : RS.isIs l w (.good i) = false := by show isAt l i w = _; unfold isAt tokAt; rw [List.getElem?_eq_none (by omega)]; rfl
   refine q_pass rfl rfl rfl <| q_pass rfl rfl rfl <| q_pass rfl rfl rfl <| q_pass rfl rfl rfl <| q_pass rfl rfl rfl <| q_pass rfl rfl rfl <| q_pass rfl rfl rfl <| q_pass rfl rfl rfl <| q_pass rfl rfl rfl <| q_pass rfl rfl rfl <| q_pass rfl rfl rfl <| q_pass rfl rfl rfl <| q_pass rfl rfl rfl <| q_passU rfl rfl ?_; refine q_passU rfl rfl <| q_passU rfl rfl <| q_passU rfl rfl <| q_passU rfl rfl <| q_passU rfl rfl <| q_passU rfl rfl <| q_passU rfl rfl <| q_passU rfl rfl <| q_passU rfl rfl <| q_passU rfl rfl <| q_passU rfl rfl <| q_pass rfl rfl rfl <| q_ev rfl rfl <| q_ev rfl rfl ?_; refine q_pass rfl rfl rfl <| q_pass rfl rfl rfl <| q_pass rfl rfl rfl <| q_pass rfl rfl rfl <| q_pass rfl rfl rfl <| q_pass rfl rfl rfl <| q_pass rfl rfl rfl <| q_pass rfl rfl rfl <| q_pass rfl rfl rfl <| q_pass rfl rfl rfl <| q_pass rfl rfl rfl <| q_pass rfl rfl rfl <| q_pass rfl rfl rfl <| q_ev rfl rfl ?_; refine q_ev rfl rfl <| q_end <| r_then_normal <| r_retc ?_
   exact r_ret1 [_] rfl rfl (List.Sublist.refl _) ⟨by rw [hk], rfl, rfl⟩
theorem Atoms5_spec (g : Ghost) (l : List Tok) (lv : Value) (hs : ToksAt g lv l) (b : Nat) (s : RS) : PureO Tryz.prog 96 [ptr b 0] g (rdB b lv s) (.bool (s.kindIs l 1 || s.kindIs l 2 || s.isIs l [40])) := by
 refine spec_of_run Tryz.func96 rfl Tryz.ntmps96 rfl fun E hE => ?_
 refine r_sr <| r_ev rfl rfl <| r_nn <| r_sr <| r_ev rfl rfl ?_
 refine r_callO 0 rfl rfl rfl (Kind5_spec g l lv hs b s 1) ?_
 cases h1 : s.kindIs l 1 with
 | true =>
  refine r_ev rfl rfl <| r_pass rfl rfl rfl <| r_pass rfl rfl rfl <| r_ev rfl rfl <| r_ev rfl rfl <| r_pass rfl rfl rfl <| r_pass rfl rfl rfl <| r_ev rfl rfl <| r_ev rfl rfl <| r_nn <| r_retc ?_
  exact r_ret1 [_] rfl rfl (List.Sublist.refl _) ⟨rfl, rfl, rfl⟩
 | false =>
  refine r_ev rfl rfl <| r_tev rfl rfl rfl <| r_take rfl ?_
  refine r_callO 0 rfl rfl rfl (Kind5_spec g l lv hs b s 2) ?_
  cases h2 : s.kindIs l 2 with
  | true =>
   refine r_ev rfl rfl <| r_ev rfl rfl <| r_pass rfl rfl rfl <| r_pass rfl rfl rfl <| r_ev rfl rfl <| r_ev rfl rfl <| r_nn <| r_retc ?_
   exact r_ret1 [_] rfl rfl (List.Sublist.refl _) ⟨rfl, rfl, rfl⟩
  | false =>
   refine r_ev rfl rfl <| r_ev rfl rfl <| r_tev rfl rfl rfl <| r_take rfl ?_
   refine r_callO 0 rfl rfl rfl (Is5_spec g l lv hs b s [40]) ?_
   refine r_ev rfl rfl <| r_ev rfl rfl <| r_nn <| r_retc ?_
   exact r_ret1 [_] rfl rfl (List.Sublist.refl _) ⟨rfl, rfl, rfl⟩
def posAt (l : List Tok) (i : Nat) : Int := match l[i]? with
 | some t => t.pos
 | none => 0
def RS.idx : RS → Nat
 | .good i => i
 | .bad i _ => i
theorem Pos5_spec (g : Ghost) (l : List Tok) (lv : Value) (hs : ToksAt g lv l) (b : Nat) (s : RS) : PureO Tryz.prog 92 [ptr b 0] g (rdB b lv s) (.int .i64 (posAt l s.idx)) := by
 cases s with
 | bad i p =>
  refine spec_of_run Tryz.func92 rfl Tryz.ntmps92 rfl fun E hE => ?_
  refine r_sr <| r_ev rfl rfl <| r_nn <| r_seq <| r_seq ?_
  refine r_qregion mixed (by kernel_rfl) ?_
  refine q_ev rfl rfl <| q_ev rfl rfl <| q_v rfl (val_fieldAddr rfl) ?_; refine q_v rfl (val_loadB1 0 rfl rfl rfl) ?_; refine q_ev rfl rfl <| q_ev rfl rfl <| q_v rfl (val_fieldAddr rfl) ?_; refine q_v rfl (val_loadB1 0 rfl rfl rfl) ?_; refine q_v rfl (val_len_at rfl (by assumption)) ?_; refine q_ev rfl rfl <| q_end <| r_then_normal ?_
  refine r_cond rfl (fun hlt => ?_) (fun hlt => ?_)
  ·have hlt' : i < l.length := by omega
   have hk : posAt l (RS.bad i p).idx = l[i].pos := by show posAt l i = _; unfold posAt; rw [toks_some hlt']
   obtain ⟨b0, off, cap, rfl, hx⟩ := hs.held hlt'
   refine r_seq ?_
   refine r_qregion mixed (by kernel_rfl) ?_
   refine q_ev rfl rfl <| q_ev rfl rfl <| q_v rfl (val_fieldAddr rfl) ?_; refine q_v rfl (val_loadB1 0 rfl rfl rfl) ?_; refine q_ev rfl rfl <| q_ev rfl rfl <| q_v rfl (val_fieldAddr rfl) ?_; refine q_v rfl (val_loadB1 0 rfl rfl rfl) ?_; refine q_v rfl (val_indexAddr rfl rfl rfl (by omega)) ?_; refine q_v rfl (val_fieldAddr rfl) ?_
   refine q_v rfl (val_load1 rfl (SlAt.cell tokCells_len hx hlt' 2 rfl)) ?_
   refine q_ev rfl rfl <| q_end <| r_then_normal <| r_retc <| r_then_ret ?_
   exact r_ret1 [_] rfl rfl (List.Sublist.refl _) ⟨by rw [hk], rfl, rfl⟩
  ·have hk : posAt l (RS.bad i p).idx = 0 := by show posAt l i = _; unfold posAt; rw [List.getElem?_eq_none (by omega)]
   refine r_skip <| r_then_normal <| r_sr <| r_ev rfl rfl <| r_nn <| r_retc ?_
   exact r_ret1 [_] rfl rfl (List.Sublist.refl _) ⟨by rw [hk], rfl, rfl⟩
 | good i =>
  refine spec_of_run Tryz.func92 rfl Tryz.ntmps92 rfl fun E hE => ?_
  refine r_sr <| r_ev rfl rfl <| r_nn <| r_seq <| r_seq ?_
  refine r_qregion mixed (by kernel_rfl) ?_
  refine q_ev rfl rfl <| q_ev rfl rfl <| q_v rfl (val_fieldAddr rfl) ?_; refine q_v rfl (val_loadB1 0 rfl rfl rfl) ?_; refine q_ev rfl rfl <| q_ev rfl rfl <| q_v rfl (val_fieldAddr rfl) ?_; refine q_v rfl (val_loadB1 0 rfl rfl rfl) ?_; refine q_v rfl (val_len_at rfl (by assumption)) ?_; refine q_ev rfl rfl <| q_end <| r_then_normal ?_
  refine r_cond rfl (fun hlt => ?_) (fun hlt => ?_)
  ·have hlt' : i < l.length := by omega
   have hk : posAt l (RS.good i).idx = l[i].pos := by show posAt l i = _; unfold posAt; rw [toks_some hlt']
   obtain ⟨b0, off, cap, rfl, hx⟩ := hs.held hlt'
   refine r_seq ?_
   refine r_qregion mixed (by kernel_rfl) ?_
   refine q_ev rfl rfl <| q_ev rfl rfl <| q_v rfl (val_fieldAddr rfl) ?_; refine q_v rfl (val_loadB1 0 rfl rfl rfl) ?_; refine q_ev rfl rfl <| q_ev rfl rfl <| q_v rfl (val_fieldAddr rfl) ?_; refine q_v rfl (val_loadB1 0 rfl rfl rfl) ?_; refine q_v rfl (val_indexAddr rfl rfl rfl (by omega)) ?_; refine q_v rfl (val_fieldAddr rfl) ?_
   refine q_v rfl (val_load1 rfl (SlAt.cell tokCells_len hx hlt' 2 rfl)) ?_
   refine q_ev rfl rfl <| q_end <| r_then_normal <| r_retc <| r_then_ret ?_
   exact r_ret1 [_] rfl rfl (List.Sublist.refl _) ⟨by rw [hk], rfl, rfl⟩
  ·have hk : posAt l (RS.good i).idx = 0 := by show posAt l i = _; unfold posAt; rw [List.getElem?_eq_none (by omega)]
   refine r_skip <| r_then_normal <| r_sr <| r_ev rfl rfl <| r_nn <| r_retc ?_
   exact r_ret1 [_] rfl rfl (List.Sublist.refl _) ⟨by rw [hk], rfl, rfl⟩
end Go.Proofs.YtpjehhnaojjanaaGreatDoor
-- sum ae850f068926ac46

/- The walks of the reference's reader (typedholesref5): Fail, Skip, Need, Word, New. -/
namespace Go.Proofs.YtpjehhnaojjanaaGreatDoor
open Go Go.Eng Go.Th Go.Proofs
set_option maxRecDepth 10000
set_option maxHeartbeats 4000000
attribute [local irreducible] wpList Code.wp Run bodyPost Go.Eng.Ends Exit.then Exit.inBlock Again Wq Kq
theorem slForm2 {g : Ghost} {size : Nat} {v : Value} {n : Nat} {xs : List Value} (h : SlAt g size v n xs) : ∃ a c, v = .slice a n c := by
 rcases h.2 with ⟨⟨a, c, rfl⟩, h0⟩ | ⟨b, off, cap, rfl, _⟩
 ·exact ⟨_, _, by rw [h0]⟩
 ·exact ⟨_, _, rfl⟩
theorem New5_spec (g : Ghost) (l : List Tok) (lv : Value) (hs : ToksAt g lv l) (i : Int) : Eng.Spec Tryz.prog 47 [lv, .int .i64 i] g [] fun v g' own' => g' = g ∧ ∃ b, v = ptr b 0 ∧ own' = [rdB b lv (.good (idxOf l.length i))] := by
 obtain ⟨a, c, rfl⟩ := slForm2 hs
 refine spec_of_run Tryz.func47 rfl Tryz.ntmps47 rfl fun E hE => ?_
 refine r_sr <| r_ev rfl rfl <| r_nn <| r_seq <| r_sr <| r_ev rfl rfl <| r_ev rfl rfl <| r_ev rfl rfl ?_
 refine r_gdec rfl rfl (fun h1 => ?_) (fun h1 => ?_)
 ·have hx : idxOf l.length i = l.length := by simp [idxOf, h1]
  refine r_pass rfl rfl rfl <| r_pass rfl rfl rfl <| r_pass rfl rfl rfl <| r_pass rfl rfl rfl <| r_ev rfl rfl <| r_nn <| r_cond_true rfl <| r_region <| r_ev rfl rfl <| r_len_sl rfl rfl <| r_ev rfl rfl <| r_nn <| r_sr <| r_ev rfl rfl ?_; refine r_ev rfl rfl <| r_build rfl rfl (by rfl) ?_
  refine r_box rfl rfl rfl (fun b => ?_)
  refine r_ev rfl rfl <| r_nn <| r_retc ?_
  exact r_ret1 [_] rfl rfl (List.Sublist.refl _) ⟨rfl, b, rfl, by rw [hx]; rfl⟩
 refine r_tev rfl rfl rfl <| r_tev rfl rfl rfl <| r_take rfl <| r_len_sl rfl rfl <| r_tev rfl rfl rfl <| r_ev rfl rfl <| r_nn ?_
 refine r_cond rfl (fun h2 => ?_) (fun h2 => ?_)
 ·have hx : idxOf l.length i = l.length := by simp only [idxOf, h1, if_false]; omega
  refine r_region <| r_ev rfl rfl <| r_len_sl rfl rfl <| r_ev rfl rfl <| r_nn <| r_sr <| r_ev rfl rfl <| r_ev rfl rfl <| r_build rfl rfl (by rfl) ?_
  refine r_box rfl rfl rfl (fun b => ?_)
  refine r_ev rfl rfl <| r_nn <| r_retc ?_
  exact r_ret1 [_] rfl rfl (List.Sublist.refl _) ⟨rfl, b, rfl, by rw [hx]; rfl⟩
 ·obtain ⟨k, rfl⟩ : ∃ k : Nat, i = k := ⟨i.toNat, by omega⟩
  have hx : idxOf l.length k = k := by simp only [idxOf, h1, if_false]; omega
  refine r_skip <| r_then_normal <| r_sr <| r_ev rfl rfl <| r_ev rfl rfl <| r_build rfl rfl (by rfl) ?_
  refine r_box rfl rfl rfl (fun b => ?_)
  refine r_ev rfl rfl <| r_nn <| r_retc ?_
  exact r_ret1 [_] rfl rfl (List.Sublist.refl _) ⟨rfl, b, rfl, by rw [hx]; rfl⟩
theorem Fail5_spec (g : Ghost) (l : List Tok) (hb : TB l) (lv : Value) (hs : ToksAt g lv l) (b : Nat) (s : RS) (_hk : s.ok l) : SpecL Tryz.prog 79 [ptr b 0] g (rdB b lv s) fun _ g' r' => g' = g ∧ r' = rdB b lv (s.fail l) := by
 cases s with
 | bad i p =>
  refine spec_of_run Tryz.func79 rfl Tryz.ntmps79 rfl fun E hE => ?_
  refine r_seq <| r_sr <| r_ev rfl rfl <| r_ev rfl rfl <| r_fieldAddr rfl rfl <| r_loadB1 0 rfl rfl rfl rfl <| r_nn <| r_cond_true rfl <| r_retc <| r_then_ret ?_
  exact r_ret0 [_] rfl (List.Sublist.refl _) ⟨_, rfl, rfl, rfl⟩
 | good i =>
  refine spec_of_run Tryz.func79 rfl Tryz.ntmps79 rfl fun E hE => ?_
  refine r_seq <| r_sr <| r_ev rfl rfl <| r_ev rfl rfl <| r_fieldAddr rfl rfl <| r_loadB1 0 rfl rfl rfl rfl <| r_nn <| r_cond_false rfl <| r_skip <| r_then_normal <| r_sr <| r_ev rfl rfl <| r_ev rfl rfl <| r_fieldAddr rfl rfl ?_; refine r_store1 0 rfl rfl rfl rfl rfl rfl <| r_nn <| r_block <| r_seq ?_
  refine r_qregion mixed (by kernel_rfl) ?_
  refine q_ev rfl rfl <| q_ev rfl rfl <| q_v rfl (val_fieldAddr rfl) ?_; refine q_v rfl (val_loadB1 0 rfl rfl rfl) ?_; refine q_ev rfl rfl <| q_ev rfl rfl <| q_v rfl (val_fieldAddr rfl) ?_; refine q_v rfl (val_loadB1 0 rfl rfl rfl) ?_; refine q_v rfl (val_len_at rfl (by assumption)) ?_; refine q_ev rfl rfl <| q_ev rfl rfl <| q_end <| r_then_normal ?_
  refine r_cond rfl (fun hlt => ?_) (fun hlt => ?_)
  ·have hlt' : i < l.length := by omega
   have hf : failPos l i = l[i].pos := by unfold failPos; rw [toks_some hlt']
   obtain ⟨b0, off, cap, rfl, hx⟩ := hs.held hlt'
   skip
   refine s_region 14 mixed (by kernel_rfl) ?_
   refine s_v rfl ⟨_, (val_ev rfl), ?_⟩; refine s_v rfl ⟨_, (val_ev rfl), ?_⟩; refine s_v rfl ⟨_, (val_ev rfl), ?_⟩; refine s_v rfl ⟨_, (val_fieldAddr rfl), ?_⟩; refine s_v rfl ⟨_, (val_loadB1 0 rfl rfl rfl), ?_⟩; refine s_v rfl ⟨_, (val_ev rfl), ?_⟩; refine s_v rfl ⟨_, (val_ev rfl), ?_⟩; refine s_v rfl ⟨_, (val_fieldAddr rfl), ?_⟩; refine s_v rfl ⟨_, (val_loadB1 0 rfl rfl rfl), ?_⟩; refine s_v rfl ⟨_, (val_indexAddr rfl rfl rfl (by omega)), ?_⟩; refine s_v rfl ⟨_, (val_fieldAddr rfl), ?_⟩
   refine s_v rfl ⟨_, val_load1 rfl (SlAt.cell tokCells_len hx hlt' 2 rfl), ?_⟩
   refine s_v rfl ⟨_, (val_ev rfl), ?_⟩; refine s_v rfl ⟨_, (val_fieldAddr rfl), ?_⟩; refine s_end ?_
   refine r_store1 0 rfl rfl rfl rfl rfl rfl <| r_nil <| r_in_normal <| r_fin_n ?_
   exact r_ret0 [_] rfl (List.Sublist.refl _) ⟨_, rfl, rfl, by show _ = rdB b _ (.bad i (failPos l i)); rw [hf]; rfl⟩
  ·have hn : l[i]? = none := List.getElem?_eq_none (by omega)
   refine r_sr <| r_ev rfl rfl <| r_ev rfl rfl <| r_fieldAddr rfl rfl <| r_loadB1 0 rfl rfl rfl rfl <| r_len_at rfl rfl (by assumption) ?_; refine r_ev rfl rfl <| r_ev rfl rfl <| r_nn ?_
   refine r_cond rfl (fun h0 => ?_) (fun h0 => ?_)
   ·have h0' : l.length - 1 < l.length := by omega
    have hb1 := hb.1
    have hb2 := hb.2 _ (List.getElem_mem h0')
    obtain ⟨b0, off, cap, rfl, hx⟩ := hs.held h0'
    have hf : failPos l i = l[l.length - 1].pos + l[l.length - 1].text.length := by
     unfold failPos; rw [hn, List.getLast?_eq_getElem?, toks_some h0']
    refine r_seq ?_
    refine h_beginE [] mixed (fun hG => ?_)
    refine h_takeXA 0 rfl (by kernel_rfl) rfl hG ?_; refine ⟨_, (val_ev rfl), ?_⟩; refine h_takeXA 1 rfl (by kernel_rfl) rfl hG ?_; refine ⟨_, (val_ev rfl), ?_⟩; refine h_takeXA 2 rfl (by kernel_rfl) rfl hG ?_; refine ⟨_, (val_fieldAddr rfl), ?_⟩; refine h_takeXA 3 rfl (by kernel_rfl) rfl hG ?_; refine ⟨_, (val_loadB1 0 rfl rfl rfl), ?_⟩; refine h_takeXA 4 rfl (by kernel_rfl) rfl hG ?_; refine ⟨_, (val_ev rfl), ?_⟩; refine h_takeXA 5 rfl (by kernel_rfl) rfl hG ?_; refine ⟨_, (val_ev rfl), ?_⟩; refine h_takeXA 6 rfl (by kernel_rfl) rfl hG ?_; refine ⟨_, (val_fieldAddr rfl), ?_⟩; refine h_takeXA 7 rfl (by kernel_rfl) rfl hG ?_; refine ⟨_, (val_loadB1 0 rfl rfl rfl), ?_⟩; refine h_takeXA 8 rfl (by kernel_rfl) rfl hG ?_; refine ⟨_, (val_len_sl rfl), ?_⟩; refine h_takeXA 9 rfl (by kernel_rfl) rfl hG ?_; refine ⟨_, (val_sub_ rfl rfl (by omega)), ?_⟩
    refine h_takeXA 10 rfl (by kernel_rfl) rfl hG ⟨_, (val_indexAddr (j := l.length - 1) rfl rfl (by omega) h0'), ?_⟩
    refine h_takeXA 11 rfl (by kernel_rfl) rfl hG ⟨_, (val_load rfl (toks_rd hx h0') rfl), ?_⟩
    refine h_one 12 (by kernel_rfl) rfl ?_
    refine r_alloc rfl (fun b2 => ?_)
    refine r_nn ?_
    refine h_keptA hG ?_
    refine h_one 13 (by kernel_rfl) rfl ?_
    refine r_storeA 0 rfl rfl rfl rfl (by rfl) (by repeat' (first | exact rfl | assumption | refine all_cons ?_ ?_)) rfl ?_; refine r_nn ?_
    refine h_keptA hG ?_
    refine h_done (by kernel_rfl) ?_
    refine r_then_normal <| r_region <| r_ev rfl rfl <| r_fieldAddr rfl rfl <| r_loadB1 0 rfl rfl rfl rfl <| r_fieldAddr rfl rfl <| r_loadB1 0 rfl rfl rfl rfl <| r_len_str rfl rfl <| r_add rfl rfl rfl (by omega) ?_; refine r_ev rfl rfl <| r_fieldAddr rfl rfl <| r_store1 1 rfl rfl rfl rfl rfl rfl <| r_nil <| r_in_normal <| r_fin_n ?_
    exact r_ret0 [_] rfl (.cons _ (List.Sublist.refl _)) ⟨_, rfl, rfl, by show _ = rdB b _ (.bad i (failPos l i)); rw [hf]; rfl⟩
   ·have hf : failPos l i = 0 := by
     unfold failPos; rw [hn, List.getLast?_eq_getElem?, List.getElem?_eq_none (by omega)]
    refine r_skip <| r_in_normal <| r_fin_n ?_
    exact r_ret0 [_] rfl (List.Sublist.refl _) ⟨_, rfl, rfl, by show _ = rdB b _ (.bad i (failPos l i)); rw [hf]; rfl⟩
theorem Skip5_spec (g : Ghost) (l : List Tok) (hb : TB l) (lv : Value) (hs : ToksAt g lv l) (b : Nat) (s : RS) (hk : s.ok l) (w : Bytes) : SpecL Tryz.prog 98 [ptr b 0, str w] g (rdB b lv s) fun v g' r' => v = .bool (s.isIs l w) ∧ g' = g ∧ r' = rdB b lv (s.skip l w) := by
 have hb1 := hb.1
 obtain ⟨a, m, c, rfl⟩ := SlAt.form hs
 refine spec_of_run Tryz.func98 rfl Tryz.ntmps98 rfl fun E hE => ?_
 refine r_sr <| r_ev rfl rfl <| r_nn <| r_seq <| r_sr <| r_ev rfl rfl <| r_ev rfl rfl ?_
 refine r_callO 0 rfl rfl rfl (Is5_spec g l _ hs b s w) ?_
 cases s with
 | bad i p =>
  refine r_nn <| r_cond_false rfl <| r_skip <| r_then_normal <| r_sr <| r_ev rfl rfl <| r_nn <| r_retc ?_
  exact r_ret1 [_] rfl rfl (List.Sublist.refl _) ⟨_, rfl, rfl, rfl, rfl⟩
 | good i =>
  have hi : i ≤ l.length := hk
  cases hq : isAt l i w with
  | false =>
   have e1 : RS.isIs l w (.good i) = false := hq
   have e2 : RS.skip l w (.good i) = .good i := by simp [RS.skip, hq]
   rw [e1, e2]
   refine r_nn <| r_cond_false rfl <| r_skip <| r_then_normal <| r_sr <| r_ev rfl rfl <| r_nn <| r_retc ?_
   exact r_ret1 [_] rfl rfl (List.Sublist.refl _) ⟨_, rfl, rfl, rfl, rfl⟩
  | true =>
   have e1 : RS.isIs l w (.good i) = true := hq
   have e2 : RS.skip l w (.good i) = .good (i + 1) := by simp [RS.skip, hq]
   rw [e1, e2]
   refine r_nn <| r_cond_true rfl <| r_sr <| r_ev rfl rfl <| r_ev rfl rfl <| r_fieldAddr rfl rfl <| r_loadB1 0 rfl rfl rfl rfl <| r_add rfl rfl rfl (by omega) ?_; refine r_ev rfl rfl <| r_fieldAddr rfl rfl <| r_store1 0 rfl rfl rfl rfl rfl rfl <| r_nn <| r_sr <| r_ev rfl rfl <| r_nn <| r_retc <| r_then_ret ?_
   exact r_ret1 [_] rfl rfl (List.Sublist.refl _) ⟨_, rfl, rfl, rfl, rfl⟩
theorem Need5_spec (g : Ghost) (l : List Tok) (hb : TB l) (lv : Value) (hs : ToksAt g lv l) (b : Nat) (s : RS) (hk : s.ok l) (w : Bytes) : SpecL Tryz.prog 93 [ptr b 0, str w] g (rdB b lv s) fun _ g' r' => g' = g ∧ r' = rdB b lv (s.need l w) := by
 refine spec_of_run Tryz.func93 rfl Tryz.ntmps93 rfl fun E hE => ?_
 refine r_sr <| r_ev rfl rfl <| r_ev rfl rfl ?_
 refine r_callL 0 rfl rfl rfl (Skip5_spec g l hb lv hs b s hk w) ?_
 rintro v g' r' ⟨rfl, rfl, rfl⟩ _
 cases s with
 | bad i p =>
  refine r_ev rfl rfl <| r_nn <| r_cond_true rfl <| r_region <| r_ev rfl rfl ?_
  refine r_callL 0 rfl rfl rfl (Fail5_spec g' l hb lv hs b (.bad i p) hk) ?_
  rintro v g' r' ⟨rfl, rfl⟩ _
  refine r_nil <| r_fin_n ?_
  exact r_ret0 [_] rfl (List.Sublist.refl _) ⟨_, rfl, rfl, rfl⟩
 | good i =>
  cases hq : isAt l i w with
  | false =>
   have e1 : RS.isIs l w (.good i) = false := hq
   have e2 : RS.skip l w (.good i) = .good i := by simp [RS.skip, hq]
   have e3 : RS.need l w (.good i) = .bad i (failPos l i) := by simp [RS.need, hq]
   rw [e1, e2, e3]
   refine r_ev rfl rfl <| r_nn <| r_cond_true rfl <| r_region <| r_ev rfl rfl ?_
   refine r_callL 0 rfl rfl rfl (Fail5_spec g' l hb lv hs b (.good i) hk) ?_
   rintro v g' r' ⟨rfl, rfl⟩ _
   refine r_nil <| r_fin_n ?_
   exact r_ret0 [_] rfl (List.Sublist.refl _) ⟨_, rfl, rfl, rfl⟩
  | true =>
   have e1 : RS.isIs l w (.good i) = true := hq
   have e2 : RS.skip l w (.good i) = .good (i + 1) := by simp [RS.skip, hq]
   have e3 : RS.need l w (.good i) = .good (i + 1) := by simp [RS.need, hq]
   rw [e1, e2, e3]
   refine r_ev rfl rfl <| r_nn <| r_cond_false rfl <| r_skip <| r_fin_n ?_
   exact r_ret0 [_] rfl (List.Sublist.refl _) ⟨_, rfl, rfl, rfl⟩
theorem Word5_spec (g : Ghost) (l : List Tok) (hb : TB l) (lv : Value) (hs : ToksAt g lv l) (b : Nat) (s : RS) (hk : s.ok l) (k : Int) : SpecL Tryz.prog 94 [ptr b 0, .int .i64 k] g (rdB b lv s) fun v g' r' => v = str (s.text l k) ∧ g' = g ∧ r' = rdB b lv (s.word l k) := by
 have hb1 := hb.1
 refine spec_of_run Tryz.func94 rfl Tryz.ntmps94 rfl fun E hE => ?_
 refine r_sr <| r_ev rfl rfl <| r_nn <| r_seq <| r_sr <| r_ev rfl rfl <| r_ev rfl rfl ?_
 refine r_callO 0 rfl rfl rfl (Kind5_spec g l lv hs b s k) ?_
 cases s with
 | bad i p =>
  refine r_ev rfl rfl <| r_nn <| r_cond_true rfl <| r_sr <| r_ev rfl rfl ?_
  refine r_callL 0 rfl rfl rfl (Fail5_spec g l hb lv hs b (.bad i p) hk) ?_
  rintro v g' r' ⟨rfl, rfl⟩ _
  refine r_nn <| r_sr <| r_ev rfl rfl <| r_nn <| r_retc <| r_then_ret ?_
  exact r_ret1 [_] rfl rfl (List.Sublist.refl _) ⟨_, rfl, rfl, rfl, rfl⟩
 | good i =>
  have hi : i ≤ l.length := hk
  cases hq : kindAt l i k with
  | false =>
   have e1 : RS.kindIs l k (.good i) = false := hq
   have e2 : RS.word l k (.good i) = .bad i (failPos l i) := by simp [RS.word, hq]
   have e3 : RS.text l k (.good i) = [] := by
    unfold kindAt at hq
    unfold RS.text
    simp only
    cases hl : l[i]? with
    | none => rfl
    | some t => rw [hl] at hq; simp only [decide_eq_false_iff_not] at hq; simp only; rw [if_neg hq]
   rw [e1, e2, e3]
   refine r_ev rfl rfl <| r_nn <| r_cond_true rfl <| r_sr <| r_ev rfl rfl ?_
   refine r_callL 0 rfl rfl rfl (Fail5_spec g l hb lv hs b (.good i) hk) ?_
   rintro v g' r' ⟨rfl, rfl⟩ _
   refine r_nn <| r_sr <| r_ev rfl rfl <| r_nn <| r_retc <| r_then_ret ?_
   exact r_ret1 [_] rfl rfl (List.Sublist.refl _) ⟨_, rfl, rfl, rfl, rfl⟩
  | true =>
   have hlt : i < l.length := by
    unfold kindAt at hq
    cases hl : l[i]? with
    | none => rw [hl] at hq; cases hq
    | some t => exact (List.getElem?_eq_some_iff.1 hl).1
   have e1 : RS.kindIs l k (.good i) = true := hq
   have e2 : RS.word l k (.good i) = .good (i + 1) := by simp [RS.word, hq]
   have e3 : RS.text l k (.good i) = l[i].text := by
    unfold kindAt at hq
    show (match l[i]? with | some t => if t.kind = k then t.text else [] | none => []) = _
    rw [toks_some hlt] at hq ⊢
    simp only [decide_eq_true_eq] at hq
    simp only
    rw [if_pos hq]
   obtain ⟨b0, off, cap, rfl, hx⟩ := hs.held hlt
   rw [e1, e2, e3]
   refine r_ev rfl rfl <| r_nn <| r_cond_false rfl <| r_skip <| r_then_normal <| r_sr <| r_ev rfl rfl <| r_ev rfl rfl <| r_fieldAddr rfl rfl <| r_loadB1 0 rfl rfl rfl rfl <| r_add rfl rfl rfl (by omega) ?_; refine r_ev rfl rfl <| r_fieldAddr rfl rfl <| r_store1 0 rfl rfl rfl rfl rfl rfl <| r_nn <| r_seq ?_
   refine r_qregion mixed (by kernel_rfl) ?_
   refine q_ev rfl rfl <| q_ev rfl rfl <| q_v rfl (val_fieldAddr rfl) ?_; refine q_v rfl (val_loadB1 0 rfl rfl rfl) ?_; refine q_ev rfl rfl <| q_ev rfl rfl <| q_v rfl (val_fieldAddr rfl) ?_; refine q_v rfl (val_loadB1 0 rfl rfl rfl) ?_; refine q_v rfl (val_sub_ rfl rfl (by omega)) ?_
   refine q_v rfl (val_indexAddr (j := i) rfl rfl (by omega) hlt) ?_
   refine q_v rfl (val_fieldAddr rfl) ?_
   refine q_v rfl (val_load1 rfl (SlAt.cell tokCells_len hx hlt 1 rfl)) ?_
   refine q_ev rfl rfl <| q_end <| r_then_normal <| r_retc ?_
   exact r_ret1 [_] rfl rfl (List.Sublist.refl _) ⟨_, rfl, rfl, rfl, rfl⟩
end Go.Proofs.YtpjehhnaojjanaaGreatDoor
-- sum 6646c16645bc4d0d

/- The walking engine, ninth part: regions that draw their order, with a head in which some operations act and a tail that comes in one order behind all of the head ('m_*': a store at the end may hit what the head has read). -/
namespace Go.Eng
open Go Go.RowKit
section
variable {P : Program} {ops : Array Oper} {Q : Exit → Act → World → Prop} {S : World → Prop} {m : Nat} {T : Array Bool → Act → World → Prop}
def wpHead (P : Program) (ops : Array Oper) (Q : Exit → Act → World → Prop) (S : World → Prop) (m : Nat) (T : Array Bool → Act → World → Prop) : Nat → Array Bool → Act → World → Prop
 | 0, listed, a, w => T listed a w
 | f + 1, listed, a, w => Region.ready .any ops listed ≠ [] ∧ ∀ i ∈ Region.ready .any ops listed, i < m ∧ wpOp P ops Q i (fun a' w' => S w' ∧ wpHead P ops Q S m T f (listed.setIfInBounds i true) a' w') a w
theorem any_of_head {k : Nat} (hT : ∀ listed a w, T listed a w → wpAny P .any ops Q k listed a w) : ∀ (f : Nat) (listed : Array Bool) (a : Act) (w : World), wpHead P ops Q S m T f listed a w → wpAny P .any ops Q (f + k) listed a w
 | 0, listed, a, w, h => by rw [Nat.zero_add]; exact hT _ _ _ h
 | f + 1, listed, a, w, h => by
  rw [show f + 1 + k = (f + k) + 1 by omega]
  exact ⟨fun h0 => absurd h0 h.1, fun i hi => wpOp_mono (fun a' w' h' => any_of_head hT f _ a' w' h'.2) (h.2 i hi).2⟩
theorem wpHead_first {i : Nat} {oi : Oper} {v : Value} (hi : ops[i]? = some oi) (hsel : ∀ (j : Nat) (o : Oper) cs b, ops[j]? = some o → o.op ≠ .select cs b)
  (hQ : ∀ c a w, Q (.panic c) (a.put oi.dst v) w → Q (.panic c) a w) (hs : Region.sinkB .any ops m = true) (hc : Region.chainB .any ops m = true) (hn : m < ops.size) (hin : i < m)
  (hdone : ∀ listed a w, T listed a w → ∀ j ∈ Region.ready .any ops listed, m ≤ j) :
  ∀ (f : Nat) (listed : Array Bool) (a : Act) (w : World), HeadInv .any ops m listed →
   (∀ j oj, ops[j]? = some oj → j ≠ i → listed.getD j true = false → (∀ e ∈ oj.after, Region.binds .any e = true → e.on ≠ i) → oi.apart ops oj = true) →
   i ∈ Region.ready .any ops listed → YieldsIf P ops S oi v a → S w →
   wpHead P ops Q S m T f (listed.setIfInBounds i true) (a.put oi.dst v) w → wpHead P ops Q S m T (f + 1) listed a w := by
 intro f
 induction f with
 | zero =>
  intro listed a w inv _ hr hy hS H
  have hun := (mem_ready.1 hr).1
  refine ⟨fun h => (by rw [h] at hr; cases hr), fun j hj => ?_⟩
  have hjm : j < m := by
   rcases Nat.lt_or_ge j m with h | h
   ·exact h
   ·exact absurd hj (tail_waits hs hc hn inv _ i rfl hin hun j h)
  refine ⟨hjm, ?_⟩
  by_cases hji : j = i
  ·subst hji; exact hy.wpOp hi hS ⟨hS, H⟩
  ·have := hdone _ _ _ H j (ready_mono hj hji)
   omega
 | succ f ih =>
  intro listed a w inv hfree hr hy hS H
  have hun := (mem_ready.1 hr).1
  refine ⟨fun h => (by rw [h] at hr; cases hr), fun j hj => ?_⟩
  have hjm : j < m := by
   rcases Nat.lt_or_ge j m with h | h
   ·exact h
   ·exact absurd hj (tail_waits hs hc hn inv _ i rfl hin hun j h)
  refine ⟨hjm, ?_⟩
  by_cases hji : j = i
  ·subst hji; exact hy.wpOp hi hS ⟨hS, H⟩
  ·have h1 := (H.2 j (ready_mono hj hji)).2
   obtain ⟨hjun, oj, hoj, hall⟩ := mem_ready.1 hj
   have hnot : ∀ e ∈ oj.after, Region.binds .any e = true → e.on ≠ i := fun e he hb heq => by
    have h1 := hall e he hb
    rw [heq, getD_both hun] at h1
    cases h1
   have h2 := wpOp_putIf hoj (hfree j oj hoj hji hjun hnot) (fun cs b => hsel i oi cs b hi) (fun cs b => hsel j oj cs b hoj) hQ hy h1
   have hfree' : ∀ k ok, ops[k]? = some ok → k ≠ i → (listed.setIfInBounds j true).getD k true = false →
     (∀ e ∈ ok.after, Region.binds .any e = true → e.on ≠ i) → oi.apart ops ok = true := fun k ok hk hki hun' hno => by
    refine hfree k ok hk hki ?_ hno
    by_cases hjk : j = k
    ·subst hjk; exact hjun
    ·rw [getD_set_ne true hjk] at hun'; exact hun'
   refine wpOp_mono (fun a' w' h3 => ⟨h3.2.1, ih (listed.setIfInBounds j true) a' w' (inv.set hj hjm) hfree' (ready_mono hr (Ne.symm hji)) h3.1 h3.2.1 ?_⟩) h2
   rw [Array.setIfInBounds_comm _ _ hji]
   exact h3.2.2
def headB (ops : Array Oper) (m : Nat) (listed : Array Bool) : Bool := decide (listed.size = ops.size) &&
 ((List.range ops.size).all fun j => match ops[j]? with
   | some oj => !listed.getD j false || oj.after.all fun e => !Region.binds .any e || listed.getD e.on false
   | none => true) && (List.range ops.size).all fun t => decide (t < m) || !listed.getD t true
theorem headB_spec {listed : Array Bool} (h : headB ops m listed = true) : HeadInv .any ops m listed := by
 simp only [headB, Bool.and_eq_true, decide_eq_true_eq, List.all_eq_true, List.mem_range] at h
 obtain ⟨⟨h1, h2⟩, h3⟩ := h
 refine ⟨h1, fun j oj hj hl e he hb => ?_, fun t ht ht' => ?_⟩
 ·have := h2 j (Array.getElem?_eq_some_iff.1 hj).1
  rw [hj] at this
  simp only [hl, Bool.not_true, Bool.false_or, Array.all_eq_true_iff_forall_mem] at this
  have := this e he
  simpa [hb] using this
 ·have := h3 t ht'
  simp only [Bool.or_eq_true, decide_eq_true_eq, Bool.not_eq_true'] at this
  rcases this with h | h
  ·omega
  ·exact h
end
def Hm (P : Program) (l : List Oper) (Q : Exit → Act → World → Prop) (S : World → Prop) (m f : Nat) (listed : Array Bool) : Act → World → Prop :=
 wpHead P l.toArray Q S m (fun listed' a' w' => Region.seqB .any l.toArray (l.toArray.size - m) m listed' = true ∧ wpList P l.toArray Q (l.drop m) a' w') f listed
def mB (l : List Oper) (m : Nat) : Bool := Region.noSelect l.toArray && decide (m < l.toArray.size) && Region.sinkB .any l.toArray m && Region.chainB .any l.toArray m
section
variable {P : Program} {E : Env} {n : Nat} {L : Slots} {g : Ghost} {own : List Res} {Q : Exit → Act → World → Prop} {l : List Oper} {rest : List Oper}
variable {d : Nat} {ty : TypeId} {pos : String} {after : Array Edge} {f m : Nat} {listed : Array Bool} {own0 : List Res} {S : World → Prop}
theorem m_begin {id : Nat} (m : Nat) (js : List Nat) (hm : MixedB P = true) (hB : mB l m = true)
  (h : GFact E g → Run E n L g own (Hm P l Q (Inv E g (js.foldl (fun l j => l.eraseIdx j) own)) m m (Array.replicate l.length false))) : Run E n L g own ((Code.region id l.toArray true).wp P Q) := fun a w hF hI => by
 have h1 := h (GFact.of hI) a _ hF hI.drew
 simp only [mB, Bool.and_eq_true, decide_eq_true_eq] at hB
 have hlen : m ≤ l.toArray.size := by have := hB.1.1.2; omega
 refine wp_region_any hm ?_
 have h2 := any_of_head (k := l.toArray.size - m) (fun listed a' w' hT => by
  have := wpAny_of_seq (md := .any) (Q' := Q) (l.drop m) m listed a' w' (fun j => by simp [List.getElem?_drop]) (by rw [List.length_drop, ← List.size_toArray]; exact hT.1) hT.2
  rwa [List.length_drop, ← List.size_toArray] at this) _ _ _ _ h1
 rw [show m + (l.toArray.size - m) = l.toArray.size by omega] at h2
 simpa using h2
theorem m_takeX [hN : NP Q] {g0 : Ghost} {op : Op} (i : Nat) (hi : l.toArray[i]? = some ⟨some d, op, ty, pos, after, none⟩)
  (hB : (mB l m && headB l.toArray m listed && Region.free .any l.toArray listed i && (Region.ready .any l.toArray listed).contains i && decide (i < m)) = true)
  (hd : Nat.blt d n = true) (hG : GFact E g0) (hle : Ghost.le g0 g) (hsub : own0.Sublist own) (h : ∃ v, Val P E n L g0 own0 ty op v ∧ Run E n ((d, v) :: L) g own (Hm P l Q (Inv E g0 own0) m f (listed.setIfInBounds i true))) :
  Run E n L g own (Hm P l Q (Inv E g0 own0) m (f + 1) listed) := fun a w hF hI => by
 obtain ⟨v, hv, k⟩ := h
 simp only [mB, Bool.and_eq_true, decide_eq_true_eq] at hB
 obtain ⟨⟨⟨⟨⟨⟨⟨b1, b2⟩, b3⟩, b4⟩, b5⟩, b6⟩, b7⟩, b8⟩ := hB
 exact wpHead_first hi (Region.noSelect_spec b1) (fun c a' w' h => absurd h (hN.no c _ w')) b3 b4 b2 b8 (fun _ _ _ hT => seqB_ready hT.1) f listed a w (headB_spec b5) (Region.free_spec hi b6) (by simpa using b7)
  (.inl ⟨rfl, fun w' hw' => hv a w' (some d) pos after hF hw'⟩) (hI.back hG hle hsub) (k _ w (hF.put hd v) hI)
theorem m_takeXA [hN : NP Q] {g0 : Ghost} {op : Op} (i : Nat) (hi : l.toArray[i]? = some ⟨some d, op, ty, pos, after, none⟩)
  (hB : (mB l m && headB l.toArray m listed && Region.free .any l.toArray listed i && (Region.ready .any l.toArray listed).contains i && decide (i < m)) = true)
  (hd : Nat.blt d n = true) (hG : GFact E g0) (h : ∃ v, Val P E n L g0 own0 ty op v ∧ Run E n ((d, v) :: L) g own (Hm P l Q (Inv E g0 own0) m f (listed.setIfInBounds i true)))
  (hle : Ghost.le g0 g := by first | exact Ghost.le_refl _ | assumption) (hsub : own0.Sublist own := by repeat' (first | exact List.nil_sublist _ | refine List.Sublist.cons_cons _ ?_ | refine List.Sublist.cons _ ?_)) :
  Run E n L g own (Hm P l Q (Inv E g0 own0) m (f + 1) listed) := m_takeX i hi hB hd hG hle hsub h
theorem m_one {o : Oper} (i : Nat) (hr : Region.ready .any l.toArray listed = [i]) (him : Nat.blt i m = true) (hi : l.toArray[i]? = some o)
  (h : Run E n L g own (wpList P l.toArray (Exit.then (fun a w => S w ∧ Hm P l Q S m f (listed.setIfInBounds i true) a w) Q) [o])) : Run E n L g own (Hm P l Q S m (f + 1) listed) := fun a w hF hI => by
 refine ⟨by rw [hr]; simp, ?_⟩
 intro j hj
 rw [hr] at hj
 obtain rfl : j = i := by simpa using hj
 have h1 := h a w hF hI
 refine ⟨Nat.blt_eq.mp him, ?_⟩
 unfold wpOp
 simp only [hi]
 unfold wpList at h1
 split
 ·rename_i hw
  rw [if_pos hw] at h1
  rcases h1 with h1 | ⟨h1, h2⟩
  ·exact .inl (upon_then h1)
  ·exact .inr ⟨h1, h2⟩
 ·rename_i hw
  rw [if_neg hw] at h1
  exact h1
theorem m_done (hB : Region.seqB .any l.toArray (l.toArray.size - m) m listed = true) (h : Run E n L g own (wpList P l.toArray Q (l.drop m))) : Run E n L g own (Hm P l Q S m 0 listed) := fun a w hF hI => ⟨hB, h a w hF hI⟩
end
end Go.Eng
-- sum 8451e28b8270627f


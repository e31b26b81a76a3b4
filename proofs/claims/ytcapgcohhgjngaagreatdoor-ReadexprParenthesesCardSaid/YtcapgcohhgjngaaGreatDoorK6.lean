/- The walks of the reference's reader (typedholesref5): the small methods. -/
import Derived.Test.YtcapgcohhgjngaaGreatDoorK5
import Derived.Test.YtcapgcohhgjngaaGreatDoorK2
namespace Go.Proofs.YtcapgcohhgjngaaGreatDoor
open Go Go.Eng Go.Th Go.Proofs
set_option maxRecDepth 10000
set_option maxHeartbeats 4000000
attribute [local irreducible] wpList Code.wp Run bodyPost Go.Eng.Ends Exit.then Exit.inBlock Again Wq Kq
/-- A reader's state: it goes on at an index, or it has failed with an offset. -/
inductive RS where
  | good (i : Nat)
  | bad (i : Nat) (p : Int)
def RS.cells (lv : Value) : RS → List Value
  | .good i => [lv, .int .i64 i, .bool false, .int .i64 0]
  | .bad i p => [lv, .int .i64 i, .bool true, .int .i64 p]
abbrev rdB (b : Nat) (lv : Value) (s : RS) : Res := .blk b 120 (s.cells lv)
def isAt (l : List Tok) (i : Nat) (w : Bytes) : Bool := tokAt l i 5 w || tokAt l i 4 w
def kindAt (l : List Tok) (i : Nat) (k : Int) : Bool := match l[i]? with
  | some t => decide (t.kind = k)
  | none => false
def RS.kindIs (l : List Tok) (k : Int) : RS → Bool
  | .good i => kindAt l i k
  | .bad _ _ => false
def RS.isIs (l : List Tok) (w : Bytes) : RS → Bool
  | .good i => isAt l i w
  | .bad _ _ => false
def RS.skip (l : List Tok) (w : Bytes) : RS → RS
  | .good i => if isAt l i w then .good (i + 1) else .good i
  | .bad i p => .bad i p
def RS.fail (l : List Tok) : RS → RS
  | .good i => .bad i (failPos l i)
  | .bad i p => .bad i p
def RS.need (l : List Tok) (w : Bytes) : RS → RS
  | .good i => if isAt l i w then .good (i + 1) else .bad i (failPos l i)
  | .bad i p => .bad i p
def RS.word (l : List Tok) (k : Int) : RS → RS
  | .good i => if kindAt l i k then .good (i + 1) else .bad i (failPos l i)
  | .bad i p => .bad i p
def RS.text (l : List Tok) (k : Int) : RS → Bytes
  | .good i => match l[i]? with
    | some t => if t.kind = k then t.text else []
    | none => []
  | .bad _ _ => []
def RS.ok (l : List Tok) : RS → Prop
  | .good i => i ≤ l.length
  | .bad i _ => i ≤ l.length
theorem Kind5_spec (g : Ghost) (l : List Tok) (lv : Value) (hs : ToksAt g lv l) (b : Nat) (s : RS) (k : Int) : PureO Tryz.prog 119 [ptr b 0, .int .i64 k] g (rdB b lv s) (.bool (s.kindIs l k)) := by
  cases s with
  | bad i p =>
    refine spec_of_run Tryz.func119 rfl Tryz.ntmps119 rfl fun E hE => ?_
    refine r_sr ?_; refine r_ev rfl rfl ?_; refine r_nn ?_; refine r_seq ?_
    refine r_qregion mixed (by kernel_rfl) ?_
    refine q_ev rfl rfl ?_; refine q_ev rfl rfl ?_; refine q_v rfl (val_fieldAddr rfl) ?_; refine q_v rfl (val_loadB1 0 rfl rfl rfl) ?_; refine q_ev rfl rfl ?_; refine q_ev rfl rfl ?_; refine q_pass rfl rfl rfl ?_; refine q_pass rfl rfl rfl ?_; refine q_pass rfl rfl rfl ?_; refine q_pass rfl rfl rfl ?_; refine q_pass rfl rfl rfl ?_; refine q_pass rfl rfl rfl ?_; refine q_pass rfl rfl rfl ?_; refine q_pass rfl rfl rfl ?_; refine q_pass rfl rfl rfl ?_; refine q_pass rfl rfl rfl ?_; refine q_ev rfl rfl ?_; refine q_ev rfl rfl ?_; refine q_pass rfl rfl rfl ?_; refine q_pass rfl rfl rfl ?_; refine q_pass rfl rfl rfl ?_; refine q_pass rfl rfl rfl ?_; refine q_pass rfl rfl rfl ?_; refine q_pass rfl rfl rfl ?_; refine q_pass rfl rfl rfl ?_; refine q_pass rfl rfl rfl ?_; refine q_pass rfl rfl rfl ?_; refine q_pass rfl rfl rfl ?_; refine q_pass rfl rfl rfl ?_; refine q_pass rfl rfl rfl ?_; refine q_pass rfl rfl rfl ?_; refine q_ev rfl rfl ?_; refine q_ev rfl rfl ?_; refine q_end ?_; refine r_then_normal ?_; refine r_retc ?_
    exact r_ret1 [_] rfl rfl (List.Sublist.refl _) ⟨rfl, rfl, rfl⟩
  | good i =>
    refine spec_of_run Tryz.func119 rfl Tryz.ntmps119 rfl fun E hE => ?_
    refine r_sr ?_; refine r_ev rfl rfl ?_; refine r_nn ?_; refine r_seq ?_
    refine r_qregion mixed (by kernel_rfl) ?_
    refine q_ev rfl rfl ?_; refine q_ev rfl rfl ?_; refine q_v rfl (val_fieldAddr rfl) ?_; refine q_v rfl (val_loadB1 0 rfl rfl rfl) ?_; refine q_ev rfl rfl ?_; refine q_ev rfl rfl ?_; refine q_tev rfl rfl rfl ?_; refine q_tev rfl rfl rfl ?_; refine q_take rfl ?_; refine q_v rfl (val_fieldAddr rfl) ?_; refine q_take rfl ?_; refine q_v rfl (val_loadB1 0 rfl rfl rfl) ?_; refine q_tev rfl rfl rfl ?_; refine q_tev rfl rfl rfl ?_; refine q_take rfl ?_; refine q_v rfl (val_fieldAddr rfl) ?_; refine q_take rfl ?_; refine q_v rfl (val_loadB1 0 rfl rfl rfl) ?_; refine q_take rfl ?_; refine q_v rfl (val_len_at rfl (by assumption)) ?_; refine q_tev rfl rfl rfl ?_; refine q_ev rfl rfl ?_; refine q_ev rfl rfl ?_
    refine q_gdec rfl rfl (fun hlt => ?_) (fun hlt => ?_)
    · have hlt' : i < l.length := by omega
      have hk : RS.kindIs l k (.good i) = decide (l[i].kind = k) := by show kindAt l i k = _; unfold kindAt; rw [toks_some hlt']
      obtain ⟨b0, off, cap, rfl, hx⟩ := hs.held hlt'
      refine q_tev rfl rfl rfl ?_; refine q_tev rfl rfl rfl ?_; refine q_take rfl ?_; refine q_v rfl (val_fieldAddr rfl) ?_; refine q_take rfl ?_; refine q_v rfl (val_loadB1 0 rfl rfl rfl) ?_; refine q_tev rfl rfl rfl ?_; refine q_tev rfl rfl rfl ?_; refine q_take rfl ?_; refine q_v rfl (val_fieldAddr rfl) ?_; refine q_take rfl ?_; refine q_v rfl (val_loadB1 0 rfl rfl rfl) ?_; refine q_take rfl ?_; refine q_v rfl (val_indexAddr rfl rfl rfl (by omega)) ?_; refine q_take rfl ?_; refine q_v rfl (val_fieldAddr rfl) ?_; refine q_take rfl ?_
      refine q_v rfl (val_load1 rfl (SlAt.cell tokCells_len hx hlt' 0 rfl)) ?_
      refine q_tev rfl rfl rfl ?_; refine q_tev rfl rfl rfl ?_; refine q_ev rfl rfl ?_; refine q_ev rfl rfl ?_; refine q_end ?_; refine r_then_normal ?_; refine r_retc ?_
      exact r_ret1 [_] rfl rfl (List.Sublist.refl _) ⟨by rw [hk], rfl, rfl⟩
    · have hk : RS.kindIs l k (.good i) = false := by show kindAt l i k = _; unfold kindAt; rw [List.getElem?_eq_none (by omega)]
      refine q_pass rfl rfl rfl ?_; refine q_pass rfl rfl rfl ?_; refine q_pass rfl rfl rfl ?_; refine q_pass rfl rfl rfl ?_; refine q_pass rfl rfl rfl ?_; refine q_pass rfl rfl rfl ?_; refine q_pass rfl rfl rfl ?_; refine q_pass rfl rfl rfl ?_; refine q_pass rfl rfl rfl ?_; refine q_pass rfl rfl rfl ?_; refine q_pass rfl rfl rfl ?_; refine q_pass rfl rfl rfl ?_; refine q_pass rfl rfl rfl ?_; refine q_ev rfl rfl ?_; refine q_ev rfl rfl ?_; refine q_end ?_; refine r_then_normal ?_; refine r_retc ?_
      exact r_ret1 [_] rfl rfl (List.Sublist.refl _) ⟨by rw [hk], rfl, rfl⟩
theorem Is5_spec (g : Ghost) (l : List Tok) (lv : Value) (hs : ToksAt g lv l) (b : Nat) (s : RS) (w : Bytes) : PureO Tryz.prog 70 [ptr b 0, str w] g (rdB b lv s) (.bool (s.isIs l w)) := by
  cases s with
  | bad i p =>
    refine spec_of_run Tryz.func70 rfl Tryz.ntmps70 rfl fun E hE => ?_
    refine r_sr ?_; refine r_ev rfl rfl ?_; refine r_nn ?_; refine r_seq ?_
    refine r_qregion mixed (by kernel_rfl) ?_
    refine q_ev rfl rfl ?_; refine q_ev rfl rfl ?_; refine q_v rfl (val_fieldAddr rfl) ?_; refine q_v rfl (val_loadB1 0 rfl rfl rfl) ?_; refine q_ev rfl rfl ?_; refine q_ev rfl rfl ?_; refine q_pass rfl rfl rfl ?_; refine q_pass rfl rfl rfl ?_; refine q_pass rfl rfl rfl ?_; refine q_pass rfl rfl rfl ?_; refine q_pass rfl rfl rfl ?_; refine q_pass rfl rfl rfl ?_; refine q_pass rfl rfl rfl ?_; refine q_pass rfl rfl rfl ?_; refine q_pass rfl rfl rfl ?_; refine q_pass rfl rfl rfl ?_; refine q_ev rfl rfl ?_; refine q_ev rfl rfl ?_; refine q_pass rfl rfl rfl ?_; refine q_pass rfl rfl rfl ?_; refine q_pass rfl rfl rfl ?_; refine q_pass rfl rfl rfl ?_; refine q_pass rfl rfl rfl ?_; refine q_pass rfl rfl rfl ?_; refine q_pass rfl rfl rfl ?_; refine q_pass rfl rfl rfl ?_; refine q_pass rfl rfl rfl ?_; refine q_pass rfl rfl rfl ?_; refine q_pass rfl rfl rfl ?_; refine q_pass rfl rfl rfl ?_; refine q_pass rfl rfl rfl ?_; refine q_passU rfl rfl ?_; refine q_passU rfl rfl ?_; refine q_passU rfl rfl ?_; refine q_passU rfl rfl ?_; refine q_passU rfl rfl ?_; refine q_passU rfl rfl ?_; refine q_passU rfl rfl ?_; refine q_passU rfl rfl ?_; refine q_passU rfl rfl ?_; refine q_passU rfl rfl ?_; refine q_passU rfl rfl ?_; refine q_passU rfl rfl ?_; refine q_pass rfl rfl rfl ?_; refine q_ev rfl rfl ?_; refine q_ev rfl rfl ?_; refine q_pass rfl rfl rfl ?_; refine q_pass rfl rfl rfl ?_; refine q_pass rfl rfl rfl ?_; refine q_pass rfl rfl rfl ?_; refine q_pass rfl rfl rfl ?_; refine q_pass rfl rfl rfl ?_; refine q_pass rfl rfl rfl ?_; refine q_pass rfl rfl rfl ?_; refine q_pass rfl rfl rfl ?_; refine q_pass rfl rfl rfl ?_; refine q_pass rfl rfl rfl ?_; refine q_pass rfl rfl rfl ?_; refine q_pass rfl rfl rfl ?_; refine q_ev rfl rfl ?_; refine q_ev rfl rfl ?_; refine q_end ?_; refine r_then_normal ?_; refine r_retc ?_
    exact r_ret1 [_] rfl rfl (List.Sublist.refl _) ⟨rfl, rfl, rfl⟩
  | good i =>
    refine spec_of_run Tryz.func70 rfl Tryz.ntmps70 rfl fun E hE => ?_
    refine r_sr ?_; refine r_ev rfl rfl ?_; refine r_nn ?_; refine r_seq ?_
    refine r_qregion mixed (by kernel_rfl) ?_
    refine q_ev rfl rfl ?_; refine q_ev rfl rfl ?_; refine q_v rfl (val_fieldAddr rfl) ?_; refine q_v rfl (val_loadB1 0 rfl rfl rfl) ?_; refine q_ev rfl rfl ?_; refine q_ev rfl rfl ?_; refine q_tev rfl rfl rfl ?_; refine q_tev rfl rfl rfl ?_; refine q_take rfl ?_; refine q_v rfl (val_fieldAddr rfl) ?_; refine q_take rfl ?_; refine q_v rfl (val_loadB1 0 rfl rfl rfl) ?_; refine q_tev rfl rfl rfl ?_; refine q_tev rfl rfl rfl ?_; refine q_take rfl ?_; refine q_v rfl (val_fieldAddr rfl) ?_; refine q_take rfl ?_; refine q_v rfl (val_loadB1 0 rfl rfl rfl) ?_; refine q_take rfl ?_; refine q_v rfl (val_len_at rfl (by assumption)) ?_; refine q_tev rfl rfl rfl ?_; refine q_ev rfl rfl ?_; refine q_ev rfl rfl ?_
    refine q_gdec rfl rfl (fun hlt => ?_) (fun hlt => ?_)
    · have hlt' : i < l.length := by omega
      have hk : RS.isIs l w (.good i) = ((decide (l[i].kind = 5) && decide (l[i].text = w)) || (decide (l[i].kind = 4) && decide (l[i].text = w))) := by show isAt l i w = _; unfold isAt tokAt; rw [toks_some hlt']
      obtain ⟨b0, off, cap, rfl, hx⟩ := hs.held hlt'
      refine q_tev rfl rfl rfl ?_; refine q_tev rfl rfl rfl ?_; refine q_take rfl ?_; refine q_v rfl (val_fieldAddr rfl) ?_; refine q_take rfl ?_; refine q_v rfl (val_loadB1 0 rfl rfl rfl) ?_; refine q_tev rfl rfl rfl ?_; refine q_tev rfl rfl rfl ?_; refine q_take rfl ?_; refine q_v rfl (val_fieldAddr rfl) ?_; refine q_take rfl ?_; refine q_v rfl (val_loadB1 0 rfl rfl rfl) ?_; refine q_take rfl ?_; refine q_v rfl (val_indexAddr rfl rfl rfl (by omega)) ?_; refine q_take rfl ?_; refine q_v rfl (val_fieldAddr rfl) ?_; refine q_take rfl ?_
      refine q_v rfl (val_load1 rfl (SlAt.cell tokCells_len hx hlt' 0 rfl)) ?_
      refine q_tev rfl rfl rfl ?_; refine q_tev rfl rfl rfl ?_
      refine q_gdec rfl rfl (fun h5 => ?_) (fun h5 => ?_)
      · refine q_pass rfl rfl rfl ?_; refine q_pass rfl rfl rfl ?_; refine q_pass rfl rfl rfl ?_; refine q_pass rfl rfl rfl ?_; refine q_pass rfl rfl rfl ?_; refine q_pass rfl rfl rfl ?_; refine q_pass rfl rfl rfl ?_; refine q_pass rfl rfl rfl ?_; refine q_pass rfl rfl rfl ?_; refine q_pass rfl rfl rfl ?_; refine q_pass rfl rfl rfl ?_; refine q_pass rfl rfl rfl ?_; refine q_tev rfl rfl rfl ?_; refine q_ev rfl rfl ?_; refine q_ev rfl rfl ?_; refine q_tev rfl rfl rfl ?_; refine q_tev rfl rfl rfl ?_; refine q_take rfl ?_; refine q_v rfl (val_fieldAddr rfl) ?_; refine q_take rfl ?_; refine q_v rfl (val_loadB1 0 rfl rfl rfl) ?_; refine q_tev rfl rfl rfl ?_; refine q_tev rfl rfl rfl ?_; refine q_take rfl ?_; refine q_v rfl (val_fieldAddr rfl) ?_; refine q_take rfl ?_; refine q_v rfl (val_loadB1 0 rfl rfl rfl) ?_; refine q_take rfl ?_; refine q_v rfl (val_indexAddr rfl rfl rfl (by omega)) ?_; refine q_take rfl ?_; refine q_v rfl (val_fieldAddr rfl) ?_; refine q_take rfl ?_
        refine q_v rfl (val_load1 rfl (SlAt.cell tokCells_len hx hlt' 1 rfl)) ?_
        refine q_tev rfl rfl rfl ?_; refine q_tev rfl rfl rfl ?_; refine q_ev rfl rfl ?_; refine q_ev rfl rfl ?_; refine q_end ?_; refine r_then_normal ?_; refine r_retc ?_
        exact r_ret1 [_] rfl rfl (List.Sublist.refl _) ⟨by rw [hk]; simp [h5], rfl, rfl⟩
      · refine q_tev rfl rfl rfl ?_; refine q_tev rfl rfl rfl ?_; refine q_take rfl ?_; refine q_v rfl (val_fieldAddr rfl) ?_; refine q_take rfl ?_; refine q_v rfl (val_loadB1 0 rfl rfl rfl) ?_; refine q_tev rfl rfl rfl ?_; refine q_tev rfl rfl rfl ?_; refine q_take rfl ?_; refine q_v rfl (val_fieldAddr rfl) ?_; refine q_take rfl ?_; refine q_v rfl (val_loadB1 0 rfl rfl rfl) ?_; refine q_take rfl ?_; refine q_v rfl (val_indexAddr rfl rfl rfl (by omega)) ?_; refine q_take rfl ?_; refine q_v rfl (val_fieldAddr rfl) ?_; refine q_take rfl ?_
        refine q_v rfl (val_load1 rfl (SlAt.cell tokCells_len hx hlt' 0 rfl)) ?_
        refine q_tev rfl rfl rfl ?_; refine q_tev rfl rfl rfl ?_; refine q_ev rfl rfl ?_; refine q_ev rfl rfl ?_
        refine q_gdec rfl rfl (fun h4 => ?_) (fun h4 => ?_)
        · refine q_tev rfl rfl rfl ?_; refine q_tev rfl rfl rfl ?_; refine q_take rfl ?_; refine q_v rfl (val_fieldAddr rfl) ?_; refine q_take rfl ?_; refine q_v rfl (val_loadB1 0 rfl rfl rfl) ?_; refine q_tev rfl rfl rfl ?_; refine q_tev rfl rfl rfl ?_; refine q_take rfl ?_; refine q_v rfl (val_fieldAddr rfl) ?_; refine q_take rfl ?_; refine q_v rfl (val_loadB1 0 rfl rfl rfl) ?_; refine q_take rfl ?_; refine q_v rfl (val_indexAddr rfl rfl rfl (by omega)) ?_; refine q_take rfl ?_; refine q_v rfl (val_fieldAddr rfl) ?_; refine q_take rfl ?_
          refine q_v rfl (val_load1 rfl (SlAt.cell tokCells_len hx hlt' 1 rfl)) ?_
          refine q_tev rfl rfl rfl ?_; refine q_tev rfl rfl rfl ?_; refine q_ev rfl rfl ?_; refine q_ev rfl rfl ?_; refine q_end ?_; refine r_then_normal ?_; refine r_retc ?_
          exact r_ret1 [_] rfl rfl (List.Sublist.refl _) ⟨by rw [hk]; simp [h4], rfl, rfl⟩
        · refine q_pass rfl rfl rfl ?_; refine q_pass rfl rfl rfl ?_; refine q_pass rfl rfl rfl ?_; refine q_pass rfl rfl rfl ?_; refine q_pass rfl rfl rfl ?_; refine q_pass rfl rfl rfl ?_; refine q_pass rfl rfl rfl ?_; refine q_pass rfl rfl rfl ?_; refine q_pass rfl rfl rfl ?_; refine q_pass rfl rfl rfl ?_; refine q_pass rfl rfl rfl ?_; refine q_pass rfl rfl rfl ?_; refine q_pass rfl rfl rfl ?_; refine q_ev rfl rfl ?_; refine q_ev rfl rfl ?_; refine q_end ?_; refine r_then_normal ?_; refine r_retc ?_
          exact r_ret1 [_] rfl rfl (List.Sublist.refl _) ⟨by rw [hk]; simp [h5, h4], rfl, rfl⟩
    · have hk : RS.isIs l w (.good i) = false := by show isAt l i w = _; unfold isAt tokAt; rw [List.getElem?_eq_none (by omega)]; rfl
      refine q_pass rfl rfl rfl ?_; refine q_pass rfl rfl rfl ?_; refine q_pass rfl rfl rfl ?_; refine q_pass rfl rfl rfl ?_; refine q_pass rfl rfl rfl ?_; refine q_pass rfl rfl rfl ?_; refine q_pass rfl rfl rfl ?_; refine q_pass rfl rfl rfl ?_; refine q_pass rfl rfl rfl ?_; refine q_pass rfl rfl rfl ?_; refine q_pass rfl rfl rfl ?_; refine q_pass rfl rfl rfl ?_; refine q_pass rfl rfl rfl ?_; refine q_passU rfl rfl ?_; refine q_passU rfl rfl ?_; refine q_passU rfl rfl ?_; refine q_passU rfl rfl ?_; refine q_passU rfl rfl ?_; refine q_passU rfl rfl ?_; refine q_passU rfl rfl ?_; refine q_passU rfl rfl ?_; refine q_passU rfl rfl ?_; refine q_passU rfl rfl ?_; refine q_passU rfl rfl ?_; refine q_passU rfl rfl ?_; refine q_pass rfl rfl rfl ?_; refine q_ev rfl rfl ?_; refine q_ev rfl rfl ?_; refine q_pass rfl rfl rfl ?_; refine q_pass rfl rfl rfl ?_; refine q_pass rfl rfl rfl ?_; refine q_pass rfl rfl rfl ?_; refine q_pass rfl rfl rfl ?_; refine q_pass rfl rfl rfl ?_; refine q_pass rfl rfl rfl ?_; refine q_pass rfl rfl rfl ?_; refine q_pass rfl rfl rfl ?_; refine q_pass rfl rfl rfl ?_; refine q_pass rfl rfl rfl ?_; refine q_pass rfl rfl rfl ?_; refine q_pass rfl rfl rfl ?_; refine q_ev rfl rfl ?_; refine q_ev rfl rfl ?_; refine q_end ?_; refine r_then_normal ?_; refine r_retc ?_
      exact r_ret1 [_] rfl rfl (List.Sublist.refl _) ⟨by rw [hk], rfl, rfl⟩
theorem Atoms5_spec (g : Ghost) (l : List Tok) (lv : Value) (hs : ToksAt g lv l) (b : Nat) (s : RS) : PureO Tryz.prog 120 [ptr b 0] g (rdB b lv s) (.bool (s.kindIs l 1 || s.kindIs l 2 || s.isIs l [40])) := by
  refine spec_of_run Tryz.func120 rfl Tryz.ntmps120 rfl fun E hE => ?_
  refine r_sr ?_; refine r_ev rfl rfl ?_; refine r_nn ?_; refine r_sr ?_; refine r_ev rfl rfl ?_
  refine r_callO 0 rfl rfl rfl (Kind5_spec g l lv hs b s 1) ?_
  cases h1 : s.kindIs l 1 with
  | true =>
    refine r_ev rfl rfl ?_; refine r_pass rfl rfl rfl ?_; refine r_pass rfl rfl rfl ?_; refine r_ev rfl rfl ?_; refine r_ev rfl rfl ?_; refine r_pass rfl rfl rfl ?_; refine r_pass rfl rfl rfl ?_; refine r_ev rfl rfl ?_; refine r_ev rfl rfl ?_; refine r_nn ?_; refine r_retc ?_
    exact r_ret1 [_] rfl rfl (List.Sublist.refl _) ⟨rfl, rfl, rfl⟩
  | false =>
    refine r_ev rfl rfl ?_; refine r_tev rfl rfl rfl ?_; refine r_take rfl ?_
    refine r_callO 0 rfl rfl rfl (Kind5_spec g l lv hs b s 2) ?_
    cases h2 : s.kindIs l 2 with
    | true =>
      refine r_ev rfl rfl ?_; refine r_ev rfl rfl ?_; refine r_pass rfl rfl rfl ?_; refine r_pass rfl rfl rfl ?_; refine r_ev rfl rfl ?_; refine r_ev rfl rfl ?_; refine r_nn ?_; refine r_retc ?_
      exact r_ret1 [_] rfl rfl (List.Sublist.refl _) ⟨rfl, rfl, rfl⟩
    | false =>
      refine r_ev rfl rfl ?_; refine r_ev rfl rfl ?_; refine r_tev rfl rfl rfl ?_; refine r_take rfl ?_
      refine r_callO 0 rfl rfl rfl (Is5_spec g l lv hs b s [40]) ?_
      refine r_ev rfl rfl ?_; refine r_ev rfl rfl ?_; refine r_nn ?_; refine r_retc ?_
      exact r_ret1 [_] rfl rfl (List.Sublist.refl _) ⟨rfl, rfl, rfl⟩
def posAt (l : List Tok) (i : Nat) : Int := match l[i]? with
  | some t => t.pos
  | none => 0
def RS.idx : RS → Nat
  | .good i => i
  | .bad i _ => i
theorem Pos5_spec (g : Ghost) (l : List Tok) (lv : Value) (hs : ToksAt g lv l) (b : Nat) (s : RS) : PureO Tryz.prog 99 [ptr b 0] g (rdB b lv s) (.int .i64 (posAt l s.idx)) := by
  cases s with
  | bad i p =>
    refine spec_of_run Tryz.func99 rfl Tryz.ntmps99 rfl fun E hE => ?_
    refine r_sr ?_; refine r_ev rfl rfl ?_; refine r_nn ?_; refine r_seq ?_; refine r_seq ?_
    refine r_qregion mixed (by kernel_rfl) ?_
    refine q_ev rfl rfl ?_; refine q_ev rfl rfl ?_; refine q_v rfl (val_fieldAddr rfl) ?_; refine q_v rfl (val_loadB1 0 rfl rfl rfl) ?_; refine q_ev rfl rfl ?_; refine q_ev rfl rfl ?_; refine q_v rfl (val_fieldAddr rfl) ?_; refine q_v rfl (val_loadB1 0 rfl rfl rfl) ?_; refine q_v rfl (val_len_at rfl (by assumption)) ?_; refine q_ev rfl rfl ?_; refine q_end ?_; refine r_then_normal ?_
    refine r_cond rfl (fun hlt => ?_) (fun hlt => ?_)
    · have hlt' : i < l.length := by omega
      have hk : posAt l (RS.bad i p).idx = l[i].pos := by show posAt l i = _; unfold posAt; rw [toks_some hlt']
      obtain ⟨b0, off, cap, rfl, hx⟩ := hs.held hlt'
      refine r_seq ?_
      refine r_qregion mixed (by kernel_rfl) ?_
      refine q_ev rfl rfl ?_; refine q_ev rfl rfl ?_; refine q_v rfl (val_fieldAddr rfl) ?_; refine q_v rfl (val_loadB1 0 rfl rfl rfl) ?_; refine q_ev rfl rfl ?_; refine q_ev rfl rfl ?_; refine q_v rfl (val_fieldAddr rfl) ?_; refine q_v rfl (val_loadB1 0 rfl rfl rfl) ?_; refine q_v rfl (val_indexAddr rfl rfl rfl (by omega)) ?_; refine q_v rfl (val_fieldAddr rfl) ?_
      refine q_v rfl (val_load1 rfl (SlAt.cell tokCells_len hx hlt' 2 rfl)) ?_
      refine q_ev rfl rfl ?_; refine q_end ?_; refine r_then_normal ?_; refine r_retc ?_; refine r_then_ret ?_
      exact r_ret1 [_] rfl rfl (List.Sublist.refl _) ⟨by rw [hk], rfl, rfl⟩
    · have hk : posAt l (RS.bad i p).idx = 0 := by show posAt l i = _; unfold posAt; rw [List.getElem?_eq_none (by omega)]
      refine r_skip ?_; refine r_then_normal ?_; refine r_sr ?_; refine r_ev rfl rfl ?_; refine r_nn ?_; refine r_retc ?_
      exact r_ret1 [_] rfl rfl (List.Sublist.refl _) ⟨by rw [hk], rfl, rfl⟩
  | good i =>
    refine spec_of_run Tryz.func99 rfl Tryz.ntmps99 rfl fun E hE => ?_
    refine r_sr ?_; refine r_ev rfl rfl ?_; refine r_nn ?_; refine r_seq ?_; refine r_seq ?_
    refine r_qregion mixed (by kernel_rfl) ?_
    refine q_ev rfl rfl ?_; refine q_ev rfl rfl ?_; refine q_v rfl (val_fieldAddr rfl) ?_; refine q_v rfl (val_loadB1 0 rfl rfl rfl) ?_; refine q_ev rfl rfl ?_; refine q_ev rfl rfl ?_; refine q_v rfl (val_fieldAddr rfl) ?_; refine q_v rfl (val_loadB1 0 rfl rfl rfl) ?_; refine q_v rfl (val_len_at rfl (by assumption)) ?_; refine q_ev rfl rfl ?_; refine q_end ?_; refine r_then_normal ?_
    refine r_cond rfl (fun hlt => ?_) (fun hlt => ?_)
    · have hlt' : i < l.length := by omega
      have hk : posAt l (RS.good i).idx = l[i].pos := by show posAt l i = _; unfold posAt; rw [toks_some hlt']
      obtain ⟨b0, off, cap, rfl, hx⟩ := hs.held hlt'
      refine r_seq ?_
      refine r_qregion mixed (by kernel_rfl) ?_
      refine q_ev rfl rfl ?_; refine q_ev rfl rfl ?_; refine q_v rfl (val_fieldAddr rfl) ?_; refine q_v rfl (val_loadB1 0 rfl rfl rfl) ?_; refine q_ev rfl rfl ?_; refine q_ev rfl rfl ?_; refine q_v rfl (val_fieldAddr rfl) ?_; refine q_v rfl (val_loadB1 0 rfl rfl rfl) ?_; refine q_v rfl (val_indexAddr rfl rfl rfl (by omega)) ?_; refine q_v rfl (val_fieldAddr rfl) ?_
      refine q_v rfl (val_load1 rfl (SlAt.cell tokCells_len hx hlt' 2 rfl)) ?_
      refine q_ev rfl rfl ?_; refine q_end ?_; refine r_then_normal ?_; refine r_retc ?_; refine r_then_ret ?_
      exact r_ret1 [_] rfl rfl (List.Sublist.refl _) ⟨by rw [hk], rfl, rfl⟩
    · have hk : posAt l (RS.good i).idx = 0 := by show posAt l i = _; unfold posAt; rw [List.getElem?_eq_none (by omega)]
      refine r_skip ?_; refine r_then_normal ?_; refine r_sr ?_; refine r_ev rfl rfl ?_; refine r_nn ?_; refine r_retc ?_
      exact r_ret1 [_] rfl rfl (List.Sublist.refl _) ⟨by rw [hk], rfl, rfl⟩
end Go.Proofs.YtcapgcohhgjngaaGreatDoor
-- sum ae850f068926ac46
/- The walks of the reference's reader (typedholesref5): Fail, Skip, Need, Word, New. -/
namespace Go.Proofs.YtcapgcohhgjngaaGreatDoor
open Go Go.Eng Go.Th Go.Proofs
set_option maxRecDepth 10000
set_option maxHeartbeats 4000000
attribute [local irreducible] wpList Code.wp Run bodyPost Go.Eng.Ends Exit.then Exit.inBlock Again Wq Kq
theorem slForm2 {g : Ghost} {size : Nat} {v : Value} {n : Nat} {xs : List Value} (h : SlAt g size v n xs) : ∃ a c, v = .slice a n c := by
  rcases h.2 with ⟨⟨a, c, rfl⟩, h0⟩ | ⟨b, off, cap, rfl, _⟩
  · exact ⟨_, _, by rw [h0]⟩
  · exact ⟨_, _, rfl⟩
theorem New5_spec (g : Ghost) (l : List Tok) (lv : Value) (hs : ToksAt g lv l) (i : Int) : Eng.Spec Tryz.prog 53 [lv, .int .i64 i] g [] fun v g' own' => g' = g ∧ ∃ b, v = ptr b 0 ∧ own' = [rdB b lv (.good (idxOf l.length i))] := by
  obtain ⟨a, c, rfl⟩ := slForm2 hs
  refine spec_of_run Tryz.func53 rfl Tryz.ntmps53 rfl fun E hE => ?_
  refine r_sr ?_; refine r_ev rfl rfl ?_; refine r_nn ?_; refine r_seq ?_; refine r_sr ?_; refine r_ev rfl rfl ?_; refine r_ev rfl rfl ?_; refine r_ev rfl rfl ?_
  refine r_gdec rfl rfl (fun h1 => ?_) (fun h1 => ?_)
  · have hx : idxOf l.length i = l.length := by simp [idxOf, h1]
    refine r_pass rfl rfl rfl ?_; refine r_pass rfl rfl rfl ?_; refine r_pass rfl rfl rfl ?_; refine r_pass rfl rfl rfl ?_; refine r_ev rfl rfl ?_; refine r_nn ?_; refine r_cond_true rfl ?_; refine r_region ?_; refine r_ev rfl rfl ?_; refine r_len_sl rfl rfl ?_; refine r_ev rfl rfl ?_; refine r_nn ?_; refine r_sr ?_; refine r_ev rfl rfl ?_; refine r_ev rfl rfl ?_; refine r_build rfl rfl (by rfl) ?_
    refine r_box rfl rfl rfl (fun b => ?_)
    refine r_ev rfl rfl ?_; refine r_nn ?_; refine r_retc ?_
    exact r_ret1 [_] rfl rfl (List.Sublist.refl _) ⟨rfl, b, rfl, by rw [hx]; rfl⟩
  refine r_tev rfl rfl rfl ?_; refine r_tev rfl rfl rfl ?_; refine r_take rfl ?_; refine r_len_sl rfl rfl ?_; refine r_tev rfl rfl rfl ?_; refine r_ev rfl rfl ?_; refine r_nn ?_
  refine r_cond rfl (fun h2 => ?_) (fun h2 => ?_)
  · have hx : idxOf l.length i = l.length := by simp only [idxOf, h1, if_false]; omega
    refine r_region ?_; refine r_ev rfl rfl ?_; refine r_len_sl rfl rfl ?_; refine r_ev rfl rfl ?_; refine r_nn ?_; refine r_sr ?_; refine r_ev rfl rfl ?_; refine r_ev rfl rfl ?_; refine r_build rfl rfl (by rfl) ?_
    refine r_box rfl rfl rfl (fun b => ?_)
    refine r_ev rfl rfl ?_; refine r_nn ?_; refine r_retc ?_
    exact r_ret1 [_] rfl rfl (List.Sublist.refl _) ⟨rfl, b, rfl, by rw [hx]; rfl⟩
  · obtain ⟨k, rfl⟩ : ∃ k : Nat, i = k := ⟨i.toNat, by omega⟩
    have hx : idxOf l.length k = k := by simp only [idxOf, h1, if_false]; omega
    refine r_skip ?_; refine r_then_normal ?_; refine r_sr ?_; refine r_ev rfl rfl ?_; refine r_ev rfl rfl ?_; refine r_build rfl rfl (by rfl) ?_
    refine r_box rfl rfl rfl (fun b => ?_)
    refine r_ev rfl rfl ?_; refine r_nn ?_; refine r_retc ?_
    exact r_ret1 [_] rfl rfl (List.Sublist.refl _) ⟨rfl, b, rfl, by rw [hx]; rfl⟩
theorem Fail5_spec (g : Ghost) (l : List Tok) (hb : TB l) (lv : Value) (hs : ToksAt g lv l) (b : Nat) (s : RS) (_hk : s.ok l) : SpecL Tryz.prog 88 [ptr b 0] g (rdB b lv s) fun _ g' r' => g' = g ∧ r' = rdB b lv (s.fail l) := by
  cases s with
  | bad i p =>
    refine spec_of_run Tryz.func88 rfl Tryz.ntmps88 rfl fun E hE => ?_
    refine r_seq ?_; refine r_sr ?_; refine r_ev rfl rfl ?_; refine r_ev rfl rfl ?_; refine r_fieldAddr rfl rfl ?_; refine r_loadB1 0 rfl rfl rfl rfl ?_; refine r_nn ?_; refine r_cond_true rfl ?_; refine r_retc ?_; refine r_then_ret ?_
    exact r_ret0 [_] rfl (List.Sublist.refl _) ⟨_, rfl, rfl, rfl⟩
  | good i =>
    refine spec_of_run Tryz.func88 rfl Tryz.ntmps88 rfl fun E hE => ?_
    refine r_seq ?_; refine r_sr ?_; refine r_ev rfl rfl ?_; refine r_ev rfl rfl ?_; refine r_fieldAddr rfl rfl ?_; refine r_loadB1 0 rfl rfl rfl rfl ?_; refine r_nn ?_; refine r_cond_false rfl ?_; refine r_skip ?_; refine r_then_normal ?_; refine r_sr ?_; refine r_ev rfl rfl ?_; refine r_ev rfl rfl ?_; refine r_fieldAddr rfl rfl ?_; refine r_store1 0 rfl rfl rfl rfl rfl rfl ?_; refine r_nn ?_; refine r_block ?_; refine r_seq ?_
    refine r_qregion mixed (by kernel_rfl) ?_
    refine q_ev rfl rfl ?_; refine q_ev rfl rfl ?_; refine q_v rfl (val_fieldAddr rfl) ?_; refine q_v rfl (val_loadB1 0 rfl rfl rfl) ?_; refine q_ev rfl rfl ?_; refine q_ev rfl rfl ?_; refine q_v rfl (val_fieldAddr rfl) ?_; refine q_v rfl (val_loadB1 0 rfl rfl rfl) ?_; refine q_v rfl (val_len_at rfl (by assumption)) ?_; refine q_ev rfl rfl ?_; refine q_ev rfl rfl ?_; refine q_end ?_; refine r_then_normal ?_
    refine r_cond rfl (fun hlt => ?_) (fun hlt => ?_)
    · have hlt' : i < l.length := by omega
      have hf : failPos l i = l[i].pos := by unfold failPos; rw [toks_some hlt']
      obtain ⟨b0, off, cap, rfl, hx⟩ := hs.held hlt'
      skip
      refine s_region 14 mixed (by kernel_rfl) ?_
      refine s_v rfl ⟨_, (val_ev rfl), ?_⟩; refine s_v rfl ⟨_, (val_ev rfl), ?_⟩; refine s_v rfl ⟨_, (val_ev rfl), ?_⟩; refine s_v rfl ⟨_, (val_fieldAddr rfl), ?_⟩; refine s_v rfl ⟨_, (val_loadB1 0 rfl rfl rfl), ?_⟩; refine s_v rfl ⟨_, (val_ev rfl), ?_⟩; refine s_v rfl ⟨_, (val_ev rfl), ?_⟩; refine s_v rfl ⟨_, (val_fieldAddr rfl), ?_⟩; refine s_v rfl ⟨_, (val_loadB1 0 rfl rfl rfl), ?_⟩; refine s_v rfl ⟨_, (val_indexAddr rfl rfl rfl (by omega)), ?_⟩; refine s_v rfl ⟨_, (val_fieldAddr rfl), ?_⟩
      refine s_v rfl ⟨_, val_load1 rfl (SlAt.cell tokCells_len hx hlt' 2 rfl), ?_⟩
      refine s_v rfl ⟨_, (val_ev rfl), ?_⟩; refine s_v rfl ⟨_, (val_fieldAddr rfl), ?_⟩; refine s_end ?_
      refine r_store1 0 rfl rfl rfl rfl rfl rfl ?_; refine r_nil ?_; refine r_in_normal ?_; refine r_fin_n ?_
      exact r_ret0 [_] rfl (List.Sublist.refl _) ⟨_, rfl, rfl, by show _ = rdB b _ (.bad i (failPos l i)); rw [hf]; rfl⟩
    · have hn : l[i]? = none := List.getElem?_eq_none (by omega)
      refine r_sr ?_; refine r_ev rfl rfl ?_; refine r_ev rfl rfl ?_; refine r_fieldAddr rfl rfl ?_; refine r_loadB1 0 rfl rfl rfl rfl ?_; refine r_len_at rfl rfl (by assumption) ?_; refine r_ev rfl rfl ?_; refine r_ev rfl rfl ?_; refine r_nn ?_
      refine r_cond rfl (fun h0 => ?_) (fun h0 => ?_)
      · have h0' : l.length - 1 < l.length := by omega
        have hb1 := hb.1
        have hb2 := hb.2 _ (List.getElem_mem h0')
        obtain ⟨b0, off, cap, rfl, hx⟩ := hs.held h0'
        have hf : failPos l i = l[l.length - 1].pos + l[l.length - 1].text.length := by
          unfold failPos; rw [hn, List.getLast?_eq_getElem?, toks_some h0']
        refine r_seq ?_
        refine h_beginE [] mixed (fun hG => ?_)
        refine h_takeX 0 rfl (by kernel_rfl) rfl hG (by first | exact Ghost.le_refl _ | assumption) (by repeat' (first | exact List.nil_sublist _ | refine List.Sublist.cons_cons _ ?_ | refine List.Sublist.cons _ ?_)) ?_; refine ⟨_, (val_ev rfl), ?_⟩; refine h_takeX 1 rfl (by kernel_rfl) rfl hG (by first | exact Ghost.le_refl _ | assumption) (by repeat' (first | exact List.nil_sublist _ | refine List.Sublist.cons_cons _ ?_ | refine List.Sublist.cons _ ?_)) ?_; refine ⟨_, (val_ev rfl), ?_⟩; refine h_takeX 2 rfl (by kernel_rfl) rfl hG (by first | exact Ghost.le_refl _ | assumption) (by repeat' (first | exact List.nil_sublist _ | refine List.Sublist.cons_cons _ ?_ | refine List.Sublist.cons _ ?_)) ?_; refine ⟨_, (val_fieldAddr rfl), ?_⟩; refine h_takeX 3 rfl (by kernel_rfl) rfl hG (by first | exact Ghost.le_refl _ | assumption) (by repeat' (first | exact List.nil_sublist _ | refine List.Sublist.cons_cons _ ?_ | refine List.Sublist.cons _ ?_)) ?_; refine ⟨_, (val_loadB1 0 rfl rfl rfl), ?_⟩; refine h_takeX 4 rfl (by kernel_rfl) rfl hG (by first | exact Ghost.le_refl _ | assumption) (by repeat' (first | exact List.nil_sublist _ | refine List.Sublist.cons_cons _ ?_ | refine List.Sublist.cons _ ?_)) ?_; refine ⟨_, (val_ev rfl), ?_⟩; refine h_takeX 5 rfl (by kernel_rfl) rfl hG (by first | exact Ghost.le_refl _ | assumption) (by repeat' (first | exact List.nil_sublist _ | refine List.Sublist.cons_cons _ ?_ | refine List.Sublist.cons _ ?_)) ?_; refine ⟨_, (val_ev rfl), ?_⟩; refine h_takeX 6 rfl (by kernel_rfl) rfl hG (by first | exact Ghost.le_refl _ | assumption) (by repeat' (first | exact List.nil_sublist _ | refine List.Sublist.cons_cons _ ?_ | refine List.Sublist.cons _ ?_)) ?_; refine ⟨_, (val_fieldAddr rfl), ?_⟩; refine h_takeX 7 rfl (by kernel_rfl) rfl hG (by first | exact Ghost.le_refl _ | assumption) (by repeat' (first | exact List.nil_sublist _ | refine List.Sublist.cons_cons _ ?_ | refine List.Sublist.cons _ ?_)) ?_; refine ⟨_, (val_loadB1 0 rfl rfl rfl), ?_⟩; refine h_takeX 8 rfl (by kernel_rfl) rfl hG (by first | exact Ghost.le_refl _ | assumption) (by repeat' (first | exact List.nil_sublist _ | refine List.Sublist.cons_cons _ ?_ | refine List.Sublist.cons _ ?_)) ?_; refine ⟨_, (val_len_sl rfl), ?_⟩; refine h_takeX 9 rfl (by kernel_rfl) rfl hG (by first | exact Ghost.le_refl _ | assumption) (by repeat' (first | exact List.nil_sublist _ | refine List.Sublist.cons_cons _ ?_ | refine List.Sublist.cons _ ?_)) ?_; refine ⟨_, (val_sub_ rfl rfl (by omega)), ?_⟩
        refine h_takeX 10 rfl (by kernel_rfl) rfl hG (by first | exact Ghost.le_refl _ | assumption) (by repeat' (first | exact List.nil_sublist _ | refine List.Sublist.cons_cons _ ?_ | refine List.Sublist.cons _ ?_)) ⟨_, (val_indexAddr (j := l.length - 1) rfl rfl (by omega) h0'), ?_⟩
        refine h_takeX 11 rfl (by kernel_rfl) rfl hG (by first | exact Ghost.le_refl _ | assumption) (by repeat' (first | exact List.nil_sublist _ | refine List.Sublist.cons_cons _ ?_ | refine List.Sublist.cons _ ?_)) ⟨_, (val_load rfl (toks_rd hx h0') rfl), ?_⟩
        refine h_one 12 (by kernel_rfl) rfl ?_
        refine r_alloc rfl (fun b2 => ?_)
        refine r_nn ?_
        refine h_kept hG (by first | exact Ghost.le_refl _ | assumption) (by repeat' (first | exact List.nil_sublist _ | refine List.Sublist.cons_cons _ ?_ | refine List.Sublist.cons _ ?_)) ?_
        refine h_one 13 (by kernel_rfl) rfl ?_
        refine r_storeA 0 rfl rfl rfl rfl (by rfl) (by repeat' (first | exact rfl | assumption | refine all_cons ?_ ?_)) rfl ?_; refine r_nn ?_
        refine h_kept hG (by first | exact Ghost.le_refl _ | assumption) (by repeat' (first | exact List.nil_sublist _ | refine List.Sublist.cons_cons _ ?_ | refine List.Sublist.cons _ ?_)) ?_
        refine h_done (by kernel_rfl) ?_
        refine r_then_normal ?_; refine r_region ?_; refine r_ev rfl rfl ?_; refine r_fieldAddr rfl rfl ?_; refine r_loadB1 0 rfl rfl rfl rfl ?_; refine r_fieldAddr rfl rfl ?_; refine r_loadB1 0 rfl rfl rfl rfl ?_; refine r_len_str rfl rfl ?_; refine r_add rfl rfl rfl (by omega) ?_; refine r_ev rfl rfl ?_; refine r_fieldAddr rfl rfl ?_; refine r_store1 1 rfl rfl rfl rfl rfl rfl ?_; refine r_nil ?_; refine r_in_normal ?_; refine r_fin_n ?_
        exact r_ret0 [_] rfl (.cons _ (List.Sublist.refl _)) ⟨_, rfl, rfl, by show _ = rdB b _ (.bad i (failPos l i)); rw [hf]; rfl⟩
      · have hf : failPos l i = 0 := by
          unfold failPos; rw [hn, List.getLast?_eq_getElem?, List.getElem?_eq_none (by omega)]
        refine r_skip ?_; refine r_in_normal ?_; refine r_fin_n ?_
        exact r_ret0 [_] rfl (List.Sublist.refl _) ⟨_, rfl, rfl, by show _ = rdB b _ (.bad i (failPos l i)); rw [hf]; rfl⟩
theorem Skip5_spec (g : Ghost) (l : List Tok) (hb : TB l) (lv : Value) (hs : ToksAt g lv l) (b : Nat) (s : RS) (hk : s.ok l) (w : Bytes) : SpecL Tryz.prog 100 [ptr b 0, str w] g (rdB b lv s) fun v g' r' => v = .bool (s.isIs l w) ∧ g' = g ∧ r' = rdB b lv (s.skip l w) := by
  have hb1 := hb.1
  obtain ⟨a, m, c, rfl⟩ := SlAt.form hs
  refine spec_of_run Tryz.func100 rfl Tryz.ntmps100 rfl fun E hE => ?_
  refine r_sr ?_; refine r_ev rfl rfl ?_; refine r_nn ?_; refine r_seq ?_; refine r_sr ?_; refine r_ev rfl rfl ?_; refine r_ev rfl rfl ?_
  refine r_callO 0 rfl rfl rfl (Is5_spec g l _ hs b s w) ?_
  cases s with
  | bad i p =>
    refine r_nn ?_; refine r_cond_false rfl ?_; refine r_skip ?_; refine r_then_normal ?_; refine r_sr ?_; refine r_ev rfl rfl ?_; refine r_nn ?_; refine r_retc ?_
    exact r_ret1 [_] rfl rfl (List.Sublist.refl _) ⟨_, rfl, rfl, rfl, rfl⟩
  | good i =>
    have hi : i ≤ l.length := hk
    cases hq : isAt l i w with
    | false =>
      have e1 : RS.isIs l w (.good i) = false := hq
      have e2 : RS.skip l w (.good i) = .good i := by simp [RS.skip, hq]
      rw [e1, e2]
      refine r_nn ?_; refine r_cond_false rfl ?_; refine r_skip ?_; refine r_then_normal ?_; refine r_sr ?_; refine r_ev rfl rfl ?_; refine r_nn ?_; refine r_retc ?_
      exact r_ret1 [_] rfl rfl (List.Sublist.refl _) ⟨_, rfl, rfl, rfl, rfl⟩
    | true =>
      have e1 : RS.isIs l w (.good i) = true := hq
      have e2 : RS.skip l w (.good i) = .good (i + 1) := by simp [RS.skip, hq]
      rw [e1, e2]
      refine r_nn ?_; refine r_cond_true rfl ?_; refine r_sr ?_; refine r_ev rfl rfl ?_; refine r_ev rfl rfl ?_; refine r_fieldAddr rfl rfl ?_; refine r_loadB1 0 rfl rfl rfl rfl ?_; refine r_add rfl rfl rfl (by omega) ?_; refine r_ev rfl rfl ?_; refine r_fieldAddr rfl rfl ?_; refine r_store1 0 rfl rfl rfl rfl rfl rfl ?_; refine r_nn ?_; refine r_sr ?_; refine r_ev rfl rfl ?_; refine r_nn ?_; refine r_retc ?_; refine r_then_ret ?_
      exact r_ret1 [_] rfl rfl (List.Sublist.refl _) ⟨_, rfl, rfl, rfl, rfl⟩
theorem Need5_spec (g : Ghost) (l : List Tok) (hb : TB l) (lv : Value) (hs : ToksAt g lv l) (b : Nat) (s : RS) (hk : s.ok l) (w : Bytes) : SpecL Tryz.prog 102 [ptr b 0, str w] g (rdB b lv s) fun _ g' r' => g' = g ∧ r' = rdB b lv (s.need l w) := by
  refine spec_of_run Tryz.func102 rfl Tryz.ntmps102 rfl fun E hE => ?_
  refine r_sr ?_; refine r_ev rfl rfl ?_; refine r_ev rfl rfl ?_
  refine r_callL 0 rfl rfl rfl (Skip5_spec g l hb lv hs b s hk w) ?_
  rintro v g' r' ⟨rfl, rfl, rfl⟩ _
  cases s with
  | bad i p =>
    refine r_ev rfl rfl ?_; refine r_nn ?_; refine r_cond_true rfl ?_; refine r_region ?_; refine r_ev rfl rfl ?_
    refine r_callL 0 rfl rfl rfl (Fail5_spec g' l hb lv hs b (.bad i p) hk) ?_
    rintro v g' r' ⟨rfl, rfl⟩ _
    refine r_nil ?_; refine r_fin_n ?_
    exact r_ret0 [_] rfl (List.Sublist.refl _) ⟨_, rfl, rfl, rfl⟩
  | good i =>
    cases hq : isAt l i w with
    | false =>
      have e1 : RS.isIs l w (.good i) = false := hq
      have e2 : RS.skip l w (.good i) = .good i := by simp [RS.skip, hq]
      have e3 : RS.need l w (.good i) = .bad i (failPos l i) := by simp [RS.need, hq]
      rw [e1, e2, e3]
      refine r_ev rfl rfl ?_; refine r_nn ?_; refine r_cond_true rfl ?_; refine r_region ?_; refine r_ev rfl rfl ?_
      refine r_callL 0 rfl rfl rfl (Fail5_spec g' l hb lv hs b (.good i) hk) ?_
      rintro v g' r' ⟨rfl, rfl⟩ _
      refine r_nil ?_; refine r_fin_n ?_
      exact r_ret0 [_] rfl (List.Sublist.refl _) ⟨_, rfl, rfl, rfl⟩
    | true =>
      have e1 : RS.isIs l w (.good i) = true := hq
      have e2 : RS.skip l w (.good i) = .good (i + 1) := by simp [RS.skip, hq]
      have e3 : RS.need l w (.good i) = .good (i + 1) := by simp [RS.need, hq]
      rw [e1, e2, e3]
      refine r_ev rfl rfl ?_; refine r_nn ?_; refine r_cond_false rfl ?_; refine r_skip ?_; refine r_fin_n ?_
      exact r_ret0 [_] rfl (List.Sublist.refl _) ⟨_, rfl, rfl, rfl⟩
theorem Word5_spec (g : Ghost) (l : List Tok) (hb : TB l) (lv : Value) (hs : ToksAt g lv l) (b : Nat) (s : RS) (hk : s.ok l) (k : Int) : SpecL Tryz.prog 101 [ptr b 0, .int .i64 k] g (rdB b lv s) fun v g' r' => v = str (s.text l k) ∧ g' = g ∧ r' = rdB b lv (s.word l k) := by
  have hb1 := hb.1
  refine spec_of_run Tryz.func101 rfl Tryz.ntmps101 rfl fun E hE => ?_
  refine r_sr ?_; refine r_ev rfl rfl ?_; refine r_nn ?_; refine r_seq ?_; refine r_sr ?_; refine r_ev rfl rfl ?_; refine r_ev rfl rfl ?_
  refine r_callO 0 rfl rfl rfl (Kind5_spec g l lv hs b s k) ?_
  cases s with
  | bad i p =>
    refine r_ev rfl rfl ?_; refine r_nn ?_; refine r_cond_true rfl ?_; refine r_sr ?_; refine r_ev rfl rfl ?_
    refine r_callL 0 rfl rfl rfl (Fail5_spec g l hb lv hs b (.bad i p) hk) ?_
    rintro v g' r' ⟨rfl, rfl⟩ _
    refine r_nn ?_; refine r_sr ?_; refine r_ev rfl rfl ?_; refine r_nn ?_; refine r_retc ?_; refine r_then_ret ?_
    exact r_ret1 [_] rfl rfl (List.Sublist.refl _) ⟨_, rfl, rfl, rfl, rfl⟩
  | good i =>
    have hi : i ≤ l.length := hk
    cases hq : kindAt l i k with
    | false =>
      have e1 : RS.kindIs l k (.good i) = false := hq
      have e2 : RS.word l k (.good i) = .bad i (failPos l i) := by simp [RS.word, hq]
      have e3 : RS.text l k (.good i) = [] := by
        unfold kindAt at hq
        unfold RS.text
        simp only
        cases hl : l[i]? with
        | none => rfl
        | some t => rw [hl] at hq; simp only [decide_eq_false_iff_not] at hq; simp only; rw [if_neg hq]
      rw [e1, e2, e3]
      refine r_ev rfl rfl ?_; refine r_nn ?_; refine r_cond_true rfl ?_; refine r_sr ?_; refine r_ev rfl rfl ?_
      refine r_callL 0 rfl rfl rfl (Fail5_spec g l hb lv hs b (.good i) hk) ?_
      rintro v g' r' ⟨rfl, rfl⟩ _
      refine r_nn ?_; refine r_sr ?_; refine r_ev rfl rfl ?_; refine r_nn ?_; refine r_retc ?_; refine r_then_ret ?_
      exact r_ret1 [_] rfl rfl (List.Sublist.refl _) ⟨_, rfl, rfl, rfl, rfl⟩
    | true =>
      have hlt : i < l.length := by
        unfold kindAt at hq
        cases hl : l[i]? with
        | none => rw [hl] at hq; cases hq
        | some t => exact (List.getElem?_eq_some_iff.1 hl).1
      have e1 : RS.kindIs l k (.good i) = true := hq
      have e2 : RS.word l k (.good i) = .good (i + 1) := by simp [RS.word, hq]
      have e3 : RS.text l k (.good i) = l[i].text := by
        unfold kindAt at hq
        show (match l[i]? with | some t => if t.kind = k then t.text else [] | none => []) = _
        rw [toks_some hlt] at hq ⊢
        simp only [decide_eq_true_eq] at hq
        simp only
        rw [if_pos hq]
      obtain ⟨b0, off, cap, rfl, hx⟩ := hs.held hlt
      rw [e1, e2, e3]
      refine r_ev rfl rfl ?_; refine r_nn ?_; refine r_cond_false rfl ?_; refine r_skip ?_; refine r_then_normal ?_; refine r_sr ?_; refine r_ev rfl rfl ?_; refine r_ev rfl rfl ?_; refine r_fieldAddr rfl rfl ?_; refine r_loadB1 0 rfl rfl rfl rfl ?_; refine r_add rfl rfl rfl (by omega) ?_; refine r_ev rfl rfl ?_; refine r_fieldAddr rfl rfl ?_; refine r_store1 0 rfl rfl rfl rfl rfl rfl ?_; refine r_nn ?_; refine r_seq ?_
      refine r_qregion mixed (by kernel_rfl) ?_
      refine q_ev rfl rfl ?_; refine q_ev rfl rfl ?_; refine q_v rfl (val_fieldAddr rfl) ?_; refine q_v rfl (val_loadB1 0 rfl rfl rfl) ?_; refine q_ev rfl rfl ?_; refine q_ev rfl rfl ?_; refine q_v rfl (val_fieldAddr rfl) ?_; refine q_v rfl (val_loadB1 0 rfl rfl rfl) ?_; refine q_v rfl (val_sub_ rfl rfl (by omega)) ?_
      refine q_v rfl (val_indexAddr (j := i) rfl rfl (by omega) hlt) ?_
      refine q_v rfl (val_fieldAddr rfl) ?_
      refine q_v rfl (val_load1 rfl (SlAt.cell tokCells_len hx hlt 1 rfl)) ?_
      refine q_ev rfl rfl ?_; refine q_end ?_; refine r_then_normal ?_; refine r_retc ?_
      exact r_ret1 [_] rfl rfl (List.Sublist.refl _) ⟨_, rfl, rfl, rfl, rfl⟩
end Go.Proofs.YtcapgcohhgjngaaGreatDoor
-- sum 6646c16645bc4d0d
/- The walks of the reference's reader (typedholesref5): Atom and Type read what the plain grammar reads. -/
namespace Go.Proofs.YtcapgcohhgjngaaGreatDoor
open Go Go.Eng Go.Th Go.Proofs
set_option maxRecDepth 10000
set_option maxHeartbeats 4000000
attribute [local irreducible] wpList Code.wp Run bodyPost Go.Eng.Ends Exit.then Exit.inBlock Again Wq Kq
/-- The kinds of the tokens are those of their texts. -/
def KW (l : List Tok) : Prop := ∀ t ∈ l, t.kind = kindOf t.text
theorem isAt_mark {l : List Tok} (h : KW l) {w : Bytes} (hw : kindOf w = 5) (i : Nat) : isAt l i w = markAt l i w := by
  unfold isAt markAt
  have : tokAt l i 4 w = false := by
    unfold tokAt
    cases hl : l[i]? with
    | none => rfl
    | some t =>
      simp only [Bool.and_eq_false_iff, decide_eq_false_iff_not]
      by_cases hk : t.kind = 4
      · refine .inr fun ht => ?_
        have := h t (List.mem_of_getElem? hl)
        rw [ht, hw] at this
        omega
      · exact .inl hk
  rw [this, Bool.or_false]
theorem kindAt_lt {l : List Tok} {i : Nat} (h : i < l.length) (k : Int) : kindAt l i k = decide (l[i].kind = k) := by unfold kindAt; rw [toks_some h]
theorem kindAt_ge {l : List Tok} {i : Nat} (h : ¬ i < l.length) (k : Int) : kindAt l i k = false := by unfold kindAt; rw [List.getElem?_eq_none (by omega)]
def post5 (l : List Tok) (i : Nat) (b : Nat) (lv : Value) (r : TR) (v : Value) (g' : Ghost) (r' : Res) : Prop := match r with
  | .ok (t, j) => TyV g' v t ∧ r' = rdB b lv (.good j) ∧ i < j ∧ j ≤ l.length
  | .error p => (∃ t, TyV g' v t) ∧ ∃ j, j ≤ l.length ∧ r' = rdB b lv (.bad j p)
theorem rCon0_spec (g : Ghost) (name : Bytes) : Pure Tryz.prog 74 [str name, .slice none 0 0] g (.agg #[.int .i64 4, str name, .int .i64 0, .int .i64 0, .slice none 0 0]) := by
  refine spec_of_run Tryz.func74 rfl Tryz.ntmps74 rfl fun E hE => ?_
  refine r_sr ?_
  refine r_alloc rfl (fun b4 => ?_)
  refine r_nn ?_; refine r_sr ?_; refine r_ev rfl rfl ?_; refine r_ev rfl rfl ?_
  refine r_nilRow 32 5 ?_
  refine r_append0 0 rfl rfl rfl rfl ?_
  refine r_drop (own' := [_]) (List.sublist_cons_self _ _) ?_
  refine r_build rfl rfl (by rfl) ?_; refine r_storeA 0 rfl rfl rfl rfl (by rfl) (by repeat' (first | exact rfl | assumption | refine all_cons ?_ ?_)) rfl ?_; refine r_nn ?_; refine r_retc ?_
  exact r_retA [] rfl (res_blk 0 rfl rfl (by rfl)) (by simp) ⟨rfl, rfl, rfl⟩
theorem conT_V (g : Ghost) (name : Bytes) : TyV g (.agg #[.int .i64 4, str name, .int .i64 0, .int .i64 0, .slice none 0 0]) (conT name []) := TyV.of (t := conT name []) (slNil g 5) (tysNil g)
theorem Atom5_bad (g : Ghost) (l : List Tok) (hb : TB l) (lv : Value) (hs : ToksAt g lv l) (b i : Nat) (hi : i ≤ l.length) (p : Int) : SpecL Tryz.prog 121 [ptr b 0] g (rdB b lv (.bad i p)) fun v g' r' => (∃ t, TyV g' v t) ∧ r' = rdB b lv (.bad i p) := by
  refine spec_of_run Tryz.func121 rfl Tryz.ntmps121 rfl fun E hE => ?_
  refine r_sr ?_
  refine r_alloc rfl (fun b2 => ?_)
  refine r_nn ?_; refine r_seq ?_; refine r_block ?_; refine r_sr ?_; refine r_ev rfl rfl ?_
  refine r_callO 1 rfl rfl rfl (Kind5_spec g l lv hs b (.bad i p) 1) ?_
  refine r_ev rfl rfl ?_; refine r_nn ?_; refine r_cond_false rfl ?_; refine r_sr ?_; refine r_ev rfl rfl ?_
  refine r_callO 1 rfl rfl rfl (Kind5_spec g l lv hs b (.bad i p) 2) ?_
  refine r_ev rfl rfl ?_; refine r_nn ?_; refine r_cond_false rfl ?_; refine r_skip ?_; refine r_in_normal ?_; refine r_then_normal ?_; refine r_sr ?_; refine r_ev rfl rfl ?_
  refine r_callL 1 rfl rfl rfl (Need5_spec g l hb lv hs b (.bad i p) hi [40]) ?_
  rintro v g' r' ⟨rfl, rfl⟩ _
  refine r_nn ?_; refine r_seq ?_; refine r_sr ?_; refine r_ev rfl rfl ?_; refine r_ev rfl rfl ?_; refine r_fieldAddr rfl rfl ?_; refine r_loadB1 1 rfl rfl rfl rfl ?_; refine r_nn ?_; refine r_cond_true rfl ?_; refine r_sr ?_; refine r_build rfl rfl (by rfl) ?_; refine r_storeA 0 rfl rfl rfl rfl (by rfl) (by repeat' (first | exact rfl | assumption | refine all_cons ?_ ?_)) rfl ?_; refine r_nn ?_; refine r_retc ?_; refine r_then_ret ?_
  exact r_retA [_] rfl (res_blk 0 rfl rfl (by rfl)) (.cons _ (List.Sublist.refl _)) ⟨_, rfl, ⟨noT, noT_V g'⟩, rfl⟩
theorem Atom5_step {l : List Tok} (hb : TB l) (hkw : KW l) (m : Nat) (lv : Value) (b : Nat)
    (hW : ∀ g i, ToksAt g lv l → i ≤ l.length → l.length - i < m → SpecL Tryz.prog 89 [ptr b 0] g (rdB b lv (.good i)) (post5 l i b lv (tread l .whole i)))
    (g : Ghost) (i : Nat) (hs : ToksAt g lv l) (hi : i ≤ l.length) (hm : l.length - i < m + 1) : SpecL Tryz.prog 121 [ptr b 0] g (rdB b lv (.good i)) (post5 l i b lv (tread l .atom i)) := by
  have hb1 := hb.1
  have hr := tread_atom l i
  have hp : isAt l i [40] = markAt l i [40] := isAt_mark hkw (by decide) i
  refine spec_of_run Tryz.func121 rfl Tryz.ntmps121 rfl fun E hE => ?_
  refine r_sr ?_
  refine r_alloc rfl (fun b2 => ?_)
  refine r_nn ?_; refine r_seq ?_; refine r_block ?_; refine r_sr ?_; refine r_ev rfl rfl ?_
  refine r_callO 1 rfl rfl rfl (Kind5_spec g l lv hs b (.good i) 1) ?_
  rw [show RS.kindIs l 1 (.good i) = kindAt l i 1 from rfl]
  cases h1 : kindAt l i 1 with
  | true =>
    have hlt : i < l.length := by
      by_cases h : i < l.length
      · exact h
      · rw [kindAt_ge h] at h1; cases h1
    rw [kindAt_lt hlt] at h1
    have h1' : l[i].kind = 1 := of_decide_eq_true h1
    rw [toks_some hlt] at hr
    simp only [h1', if_true] at hr
    have e1 : RS.word l 1 (.good i) = .good (i + 1) := by simp [RS.word, kindAt_lt hlt, h1']
    have e2 : RS.text l 1 (.good i) = l[i].text := by
      show (match l[i]? with | some t => if t.kind = 1 then t.text else [] | none => []) = _
      rw [toks_some hlt]; simp [h1']
    refine r_ev rfl rfl ?_; refine r_nn ?_; refine r_cond_true rfl ?_; refine r_sr ?_; refine r_ev rfl rfl ?_
    refine r_callL 1 rfl rfl rfl (Word5_spec g l hb lv hs b (.good i) hi 1) ?_
    rintro v g' r' ⟨rfl, rfl, rfl⟩ _
    rw [e1, e2]
    refine r_callP rfl rfl (rNamed_spec g' l[i].text) ?_
    refine r_storeA 0 rfl rfl rfl rfl (by rfl) (by repeat' (first | exact rfl | assumption | refine all_cons ?_ ?_)) rfl ?_; refine r_nn ?_; refine r_retc ?_; refine r_in_ret ?_; refine r_then_ret ?_
    refine r_retA [_] rfl (res_blk 0 rfl rfl (by rfl)) (.cons _ (List.Sublist.refl _)) ⟨_, rfl, ?_⟩
    rw [hr]
    exact ⟨nameT_V g' _, rfl, by omega, by omega⟩
  | false =>
    refine r_ev rfl rfl ?_; refine r_nn ?_; refine r_cond_false rfl ?_; refine r_sr ?_; refine r_ev rfl rfl ?_
    refine r_callO 1 rfl rfl rfl (Kind5_spec g l lv hs b (.good i) 2) ?_
    rw [show RS.kindIs l 2 (.good i) = kindAt l i 2 from rfl]
    cases h2 : kindAt l i 2 with
    | true =>
      have hlt : i < l.length := by
        by_cases h : i < l.length
        · exact h
        · rw [kindAt_ge h] at h2; cases h2
      rw [kindAt_lt hlt] at h2
      have h2' : l[i].kind = 2 := of_decide_eq_true h2
      rw [toks_some hlt] at hr
      simp only [h2'] at hr
      have e1 : RS.word l 2 (.good i) = .good (i + 1) := by simp [RS.word, kindAt_lt hlt, h2']
      have e2 : RS.text l 2 (.good i) = l[i].text := by
        show (match l[i]? with | some t => if t.kind = 2 then t.text else [] | none => []) = _
        rw [toks_some hlt]; simp [h2']
      refine r_ev rfl rfl ?_; refine r_nn ?_; refine r_cond_true rfl ?_; refine r_sr ?_; refine r_ev rfl rfl ?_
      refine r_callL 1 rfl rfl rfl (Word5_spec g l hb lv hs b (.good i) hi 2) ?_
      rintro v g' r' ⟨rfl, rfl, rfl⟩ _
      rw [e1, e2]
      refine r_callP rfl rfl (rCon0_spec g' l[i].text) ?_
      refine r_storeA 0 rfl rfl rfl rfl (by rfl) (by repeat' (first | exact rfl | assumption | refine all_cons ?_ ?_)) rfl ?_; refine r_nn ?_; refine r_retc ?_; refine r_in_ret ?_; refine r_then_ret ?_
      refine r_retA [_] rfl (res_blk 0 rfl rfl (by rfl)) (.cons _ (List.Sublist.refl _)) ⟨_, rfl, ?_⟩
      rw [hr]
      exact ⟨conT_V g' _, rfl, by omega, by omega⟩
    | false =>
      refine r_ev rfl rfl ?_; refine r_nn ?_; refine r_cond_false rfl ?_; refine r_skip ?_; refine r_in_normal ?_; refine r_then_normal ?_; refine r_sr ?_; refine r_ev rfl rfl ?_
      refine r_callL 1 rfl rfl rfl (Need5_spec g l hb lv hs b (.good i) hi [40]) ?_
      rintro v g' r' ⟨rfl, rfl⟩ _
      cases hmk : markAt l i [40] with
      | false =>
        have e1 : RS.need l [40] (.good i) = .bad i (failPos l i) := by simp [RS.need, hp, hmk]
        have hr' : tread l .atom i = .error (failPos l i) := by
          rw [hr]
          by_cases hlt : i < l.length
          · rw [toks_some hlt]
            rw [kindAt_lt hlt] at h1 h2
            have h1' : ¬ l[i].kind = 1 := of_decide_eq_false h1
            have h2' : ¬ l[i].kind = 2 := of_decide_eq_false h2
            have h5' : ¬ (l[i].kind = 5 ∧ l[i].text = [40]) := by
              unfold markAt tokAt at hmk
              rw [toks_some hlt] at hmk
              intro h
              simp [h.1, h.2] at hmk
            simp only
            rw [if_neg h1', if_neg h2', if_neg h5']
          · rw [List.getElem?_eq_none (by omega)]
        rw [e1]
        refine r_nn ?_; refine r_seq ?_; refine r_sr ?_; refine r_ev rfl rfl ?_; refine r_ev rfl rfl ?_; refine r_fieldAddr rfl rfl ?_; refine r_loadB1 1 rfl rfl rfl rfl ?_; refine r_nn ?_; refine r_cond_true rfl ?_; refine r_sr ?_; refine r_build rfl rfl (by rfl) ?_; refine r_storeA 0 rfl rfl rfl rfl (by rfl) (by repeat' (first | exact rfl | assumption | refine all_cons ?_ ?_)) rfl ?_; refine r_nn ?_; refine r_retc ?_; refine r_then_ret ?_
        refine r_retA [_] rfl (res_blk 0 rfl rfl (by rfl)) (.cons _ (List.Sublist.refl _)) ⟨_, rfl, ?_⟩
        rw [hr']
        exact ⟨⟨noT, noT_V g'⟩, i, hi, rfl⟩
      | true =>
        have hlt := tokAt_lt hmk
        have e1 : RS.need l [40] (.good i) = .good (i + 1) := by simp [RS.need, hp, hmk]
        rw [toks_some hlt] at hr
        rw [kindAt_lt hlt] at h1 h2
        have h1' : ¬ l[i].kind = 1 := of_decide_eq_false h1
        have h2' : ¬ l[i].kind = 2 := of_decide_eq_false h2
        have h5' : l[i].kind = 5 ∧ l[i].text = [40] := by
          unfold markAt tokAt at hmk
          rw [toks_some hlt] at hmk
          simpa using hmk
        simp only at hr
        rw [if_neg h1', if_neg h2', if_pos h5'] at hr
        rw [e1]
        refine r_nn ?_; refine r_seq ?_; refine r_sr ?_; refine r_ev rfl rfl ?_; refine r_ev rfl rfl ?_; refine r_fieldAddr rfl rfl ?_; refine r_loadB1 1 rfl rfl rfl rfl ?_; refine r_nn ?_; refine r_cond_false rfl ?_; refine r_skip ?_; refine r_then_normal ?_; refine r_sr ?_; refine r_ev rfl rfl ?_
        refine r_callL 1 rfl rfl rfl (hW g' (i + 1) hs (by omega) (by omega)) ?_
        rintro v g1 r' hw hle
        have hs1 := hs.mono hle
        cases hq : tread l .whole (i + 1) with
        | error p =>
          rw [hq] at hw hr
          simp only at hr
          obtain ⟨⟨t, hty⟩, j, hj, rfl⟩ := hw
          obtain ⟨a, m', c, rfl, ht⟩ := hty.cells5
          skip
          refine r_alloc rfl (fun b3 => ?_)
          refine r_storeA 0 rfl rfl rfl rfl (by rfl) (by repeat' (first | exact rfl | assumption | refine all_cons ?_ ?_)) rfl ?_; refine r_nn ?_; refine r_sr ?_; refine r_ev rfl rfl ?_
          refine r_callL 2 rfl rfl rfl (Need5_spec g1 l hb lv hs1 b (.bad j p) hj [41]) ?_
          rintro v g2 r' ⟨rfl, rfl⟩ _
          refine r_nn ?_; refine r_sr ?_; refine r_loadB 0 rfl rfl rfl (by rfl) ?_; refine r_storeA 1 rfl rfl rfl rfl (by rfl) (by repeat' (first | exact rfl | assumption | refine all_cons ?_ ?_)) rfl ?_; refine r_nn ?_; refine r_retc ?_
          refine r_retA [_] rfl (res_blk 1 rfl rfl (by rfl)) (.cons _ (.cons _ (List.Sublist.refl _))) ⟨_, rfl, ?_⟩
          rw [hr]
          exact ⟨⟨t, _, rfl, ht⟩, j, hj, rfl⟩
        | ok q =>
          obtain ⟨t, j⟩ := q
          rw [hq] at hw hr
          simp only at hr
          obtain ⟨hty, rfl, hj1, hj2⟩ := hw
          obtain ⟨a, m', c, rfl, ht⟩ := hty.cells5
          have hp2 : isAt l j [41] = markAt l j [41] := isAt_mark hkw (by decide) j
          skip
          refine r_alloc rfl (fun b3 => ?_)
          refine r_storeA 0 rfl rfl rfl rfl (by rfl) (by repeat' (first | exact rfl | assumption | refine all_cons ?_ ?_)) rfl ?_; refine r_nn ?_; refine r_sr ?_; refine r_ev rfl rfl ?_
          refine r_callL 2 rfl rfl rfl (Need5_spec g1 l hb lv hs1 b (.good j) hj2 [41]) ?_
          rintro v g2 r' ⟨rfl, rfl⟩ _
          cases hk : markAt l j [41] with
          | true =>
            rw [hk] at hr
            have := tokAt_lt hk
            have e2 : RS.need l [41] (.good j) = .good (j + 1) := by simp [RS.need, hp2, hk]
            rw [e2]
            refine r_nn ?_; refine r_sr ?_; refine r_loadB 0 rfl rfl rfl (by rfl) ?_; refine r_storeA 1 rfl rfl rfl rfl (by rfl) (by repeat' (first | exact rfl | assumption | refine all_cons ?_ ?_)) rfl ?_; refine r_nn ?_; refine r_retc ?_
            refine r_retA [_] rfl (res_blk 1 rfl rfl (by rfl)) (.cons _ (.cons _ (List.Sublist.refl _))) ⟨_, rfl, ?_⟩
            rw [hr]
            exact ⟨⟨_, rfl, ht⟩, rfl, by omega, by omega⟩
          | false =>
            rw [hk] at hr
            have e2 : RS.need l [41] (.good j) = .bad j (failPos l j) := by simp [RS.need, hp2, hk]
            rw [e2]
            refine r_nn ?_; refine r_sr ?_; refine r_loadB 0 rfl rfl rfl (by rfl) ?_; refine r_storeA 1 rfl rfl rfl rfl (by rfl) (by repeat' (first | exact rfl | assumption | refine all_cons ?_ ?_)) rfl ?_; refine r_nn ?_; refine r_retc ?_
            refine r_retA [_] rfl (res_blk 1 rfl rfl (by rfl)) (.cons _ (.cons _ (List.Sublist.refl _))) ⟨_, rfl, ?_⟩
            rw [hr]
            exact ⟨⟨t, _, rfl, ht⟩, j, hj2, rfl⟩
end Go.Proofs.YtcapgcohhgjngaaGreatDoor
-- sum adf1d1d3c2159130

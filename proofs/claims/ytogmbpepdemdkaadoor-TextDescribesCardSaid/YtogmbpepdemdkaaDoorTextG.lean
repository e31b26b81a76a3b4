/- The walks of chapter 1's laws: TextNumbers, TextDescribes. -/
import Derived.Test.YtogmbpepdemdkaaDoorFrameT
namespace Go.Proofs.YtogmbpepdemdkaaDoor
open Go Go.Eng Go.Proofs
set_option maxRecDepth 10000
attribute [local irreducible] wpList Code.wp Run bodyPost Go.Eng.Ends Exit.then Exit.inBlock Again Wq Kq
theorem dec_le2 (n : Int) (h : -9223372036854775808 ≤ n ∧ n ≤ 9223372036854775807) : (Lib.decDigits n.natAbs).length ≤ 100 := Nat.le_trans (dec_le n.natAbs (by omega)) (by omega)
theorem TextNumbers_spec (g : Ghost) {o : Obj} (hp : PowTab o) (n : Int) (hn : -9223372036854775808 ≤ n ∧ n ≤ 9223372036854775807) : PureO Tryd.prog 5 [.int .i64 n] g (tabRes o) (.bool true) := by
  have ht := Int.natAbs_tmod n 1000
  have hb : -9223372036854775808 ≤ n.tmod 1000 ∧ n.tmod 1000 ≤ 9223372036854775807 := by
    have : (n.tmod 1000).natAbs = n.natAbs % 1000 := ht
    omega
  refine spec_of_run Tryd.func5 rfl Tryd.ntmps5 rfl fun E hE => ?_
  refine r_sr ?_; refine r_ev rfl rfl ?_; refine r_nn ?_; refine r_sr ?_
  refine r_callO 0 rfl rfl rfl (first_spec g hp) ?_
  refine r_ev rfl rfl ?_; refine r_tev rfl rfl rfl ?_; refine r_take rfl ?_
  refine r_callO 0 rfl rfl rfl (Number_spec g hp n hn) ?_
  refine r_tev rfl rfl rfl ?_; refine r_take rfl ?_
  refine r_callP rfl rfl (rNumber_spec g n hn (dec_le2 n hn)) ?_
  refine r_tev rfl rfl rfl ?_; refine r_ev rfl rfl ?_; refine r_ev rfl rfl ?_
  refine r_gdec rfl rfl (fun _ => ?_) (fun h => absurd rfl h)
  refine r_tev rfl rfl rfl ?_; refine r_take rfl ?_
  refine r_rem rfl rfl rfl (by omega) ?_
  refine r_take rfl ?_
  refine r_callO 0 rfl rfl rfl (Number_spec g hp _ hb) ?_
  refine r_tev rfl rfl rfl ?_; refine r_take rfl ?_
  refine r_rem rfl rfl rfl (by omega) ?_
  refine r_take rfl ?_
  refine r_callP rfl rfl (rNumber_spec g _ hb (dec_le2 _ hb)) ?_
  refine r_tev rfl rfl rfl ?_; refine r_ev rfl rfl ?_; refine r_ev rfl rfl ?_; refine r_nn ?_; refine r_retc ?_
  exact r_ret1 [_] rfl rfl (List.Sublist.refl _) ⟨by simp, rfl, rfl⟩
theorem TextDescribes_spec (g : Ghost) {o : Obj} (hp : PowTab o) (s : Bytes) (hs : s.length ≤ 9223372036854775807) (code : Int) (hcode : -9223372036854775808 ≤ code ∧ code ≤ 9223372036854775807) (pos : Int) (_hpos : -9223372036854775808 ≤ pos ∧ pos ≤ 9223372036854775807) :
    PureO Tryd.prog 6 [str s, .int .i64 code, .int .i64 pos] g (tabRes o) (.bool true) := by
  refine spec_of_run Tryd.func6 rfl Tryd.ntmps6 rfl fun E hE => ?_
  refine r_sr ?_; refine r_ev rfl rfl ?_; refine r_nn ?_; refine r_seq ?_; refine r_sr ?_
  refine r_callO 0 rfl rfl rfl (first_spec g hp) ?_
  refine r_ev rfl rfl ?_; refine r_nn ?_; refine r_cond_false rfl ?_; refine r_skip ?_; refine r_then_normal ?_; refine r_seq ?_; refine r_sr ?_; refine r_ev rfl rfl ?_; refine r_len_str rfl rfl ?_; refine r_ev rfl rfl ?_; refine r_nn ?_
  refine r_cond rfl (fun h300 => ?_) (fun h300 => ?_)
  · refine r_sr ?_; refine r_ev rfl rfl ?_; refine r_nn ?_; refine r_retc ?_; refine r_then_ret ?_
    exact r_ret1 [_] rfl rfl (List.Sublist.refl _) ⟨rfl, rfl, rfl⟩
  · have hm : 0 ≤ modI code 25 ∧ modI code 25 < 25 := by unfold modI; rw [if_neg (by omega)]; omega
    refine r_skip ?_; refine r_then_normal ?_; refine r_sr ?_; refine r_ev rfl rfl ?_
    refine r_callP rfl rfl (Mod_spec g code 25 (by omega)) ?_
    refine r_ev rfl rfl ?_; refine r_build rfl rfl (by rfl) ?_; refine r_alloc rfl (fun b => ?_); refine r_storeA 0 rfl rfl rfl rfl (by rfl) rfl rfl ?_; refine r_nn ?_; refine r_seq ?_
    refine r_qregion mixed (by kernel_rfl) ?_
    refine q_ev rfl rfl ?_; refine q_v rfl (val_loadB 0 rfl rfl (by rfl)) ?_
    refine q_callO 1 rfl rfl rfl (Describe_spec g hp s (by omega) _ pos (by omega) itoa_le') ?_
    refine q_ev rfl rfl ?_; refine q_v rfl (val_loadB 0 rfl rfl (by rfl)) ?_
    refine q_callP rfl rfl (rDescribe_spec g s (by omega) _ pos (by omega) itoa_le' dec_le') ?_
    refine q_ev rfl rfl ?_; refine q_ev rfl rfl ?_; refine q_end ?_; refine r_then_normal ?_; refine r_retc ?_
    exact r_ret1 [_] rfl rfl (List.Sublist.cons _ (List.Sublist.refl _)) ⟨by simp, rfl, rfl⟩
end Go.Proofs.YtogmbpepdemdkaaDoor

/- errors.As at readtype's errors: the walk. -/
import Derived.Test.YtblbbjhbigpgnaaDoorAsA
import Derived.Test.YtblbbjhbigpgnaaDoorTypE
namespace Go.Proofs.YtblbbjhbigpgnaaDoor
open Go Go.Eng Go.Th Go.Proofs Go.Extern Go.RowKit
set_option maxRecDepth 10000
set_option maxHeartbeats 4000000
attribute [local irreducible] wpList Code.wp Run bodyPost Go.Eng.Ends Exit.then Exit.inBlock Again Wq Kq
/-- The library's variable holds the type 'error'. -/
def ErrT (g : Ghost) : Prop := g 0 0 = some (rty 72)
theorem ErrT.mono {g g' : Ghost} (h : ErrT g) (hle : Ghost.le g g') : ErrT g' := hle _ _ _ h
theorem unwrap_spec (g : Ghost) (p : Int) : Pure Tryd.prog 116 [.agg #[.int .i64 p]] g (.iface 87 (.int .i64 p)) := by
  refine spec_of_run Tryd.func116 rfl Tryd.ntmps116 rfl fun E hE => ?_
  refine r_sr ?_; refine r_box rfl rfl rfl (fun b => ?_); refine r_ev rfl rfl ?_; refine r_nn ?_; refine r_sr ?_; refine r_fieldAddr rfl rfl ?_; refine r_loadB1 0 rfl rfl rfl rfl ?_; refine r_mkIface rfl rfl ?_; refine r_ev rfl rfl ?_; refine r_nn ?_; refine r_retc ?_
  exact r_ret1 [] rfl rfl (by simp) ⟨rfl, rfl, rfl⟩
abbrev posB (b : Nat) (p : Int) : Res := .blk b 87 [.int .i64 p]
theorem eas_spec (g : Ghost) (p q : Int) (b b5 : Nat) : Eng.Spec Tryd.prog 74 [failV p, .iface 89 (ptr b 0), vIn 89 b5 150, rty 87] g [posB b q, .blk b5 89 [ptr b 0]] fun v g' own' => v = .bool true ∧ g' = g ∧ own' = [posB b p, .blk b5 89 [ptr b 0]] := by
  refine spec_of_run Tryd.func74 rfl Tryd.ntmps74 rfl fun E hE => ?_
  refine r_sr ?_
  refine r_box rfl rfl rfl (fun b6 => ?_)
  refine r_ev rfl rfl ?_; refine r_nn ?_; refine r_block ?_
  -- STOP1
  refine r_loop (ι := Bool) (fun c => [(0, if c then .iface 87 (.int .i64 p) else failV p), (1, .iface 89 (ptr b 0)), (3, rty 87), (6, ptr b6 0)]) (fun _ => g)
    (fun _ => [.blk b6 109 [hnd 89, ptr b5 0, .int .u64 150], posB b q, .blk b5 89 [ptr b 0]]) (fun _ => True) (fun c => if c then 0 else 1) false trivial ⟨rfl, rfl, rfl, rfl, trivial⟩ rfl rfl ?_
  rintro c -
  cases c with
  | false =>
    show Run E _ [(0, failV p), (1, .iface 89 (ptr b 0)), (3, rty 87), (6, ptr b6 0)] g [.blk b6 109 [hnd 89, ptr b5 0, .int .u64 150], posB b q, .blk b5 89 [ptr b 0]] _
    unfold failV
    refine r_block ?_; refine r_seq ?_; refine r_sr ?_; refine r_ev rfl rfl ?_
    -- STOP2
    refine r_v rfl (val_ext rfl (as_to1 _)) ?_
    refine r_ev rfl rfl ?_
    refine r_v rfl (val_invoke rfl rfl (as_mAss _) as_as1) ?_
    refine r_nn ?_; refine r_cond_false rfl ?_; refine r_skip ?_; refine r_then_normal ?_; refine r_seq ?_; refine r_sr ?_; refine r_ev rfl rfl ?_
    refine r_v rfl (val_tassert rfl (as_ta1 _)) ?_
    refine r_ev rfl rfl ?_; refine r_ev rfl rfl ?_; refine r_ev rfl rfl ?_; refine r_ev rfl rfl ?_; refine r_ev rfl rfl ?_; refine r_nn ?_; refine r_sr ?_; refine r_ev rfl rfl ?_; refine r_ev rfl rfl ?_; refine r_pass rfl rfl rfl ?_; refine r_pass rfl rfl rfl ?_; refine r_pass rfl rfl rfl ?_; refine r_ev rfl rfl ?_; refine r_nn ?_; refine r_cond_false rfl ?_; refine r_skip ?_; refine r_then_normal ?_; refine r_sr ?_; refine r_ev rfl rfl ?_; refine r_nn ?_; refine r_block ?_; refine r_sr ?_
    refine r_v rfl (val_tassert rfl (as_ta2 _)) ?_
    refine r_ev rfl rfl ?_; refine r_ev rfl rfl ?_; refine r_nn ?_; refine r_cond_true rfl ?_; refine r_sr ?_; refine r_ev rfl rfl ?_; refine r_nn ?_; refine r_sr ?_; refine r_ev rfl rfl ?_
    refine r_invokeP rfl rfl rfl (as_mUnw p) (unwrap_spec g p) ?_
    refine r_ev rfl rfl ?_; refine r_nn ?_; refine r_sr ?_; refine r_ev rfl rfl ?_; refine r_eql_nil_held rfl rfl ?_; refine r_nn ?_; refine r_cond_false rfl ?_; refine r_skip ?_; refine r_in_normal ?_; refine r_in_normal ?_; refine r_then_normal ?_
    exact r_again true trivial (by decide) ⟨rfl, rfl, rfl, rfl, trivial⟩ rfl rfl
  | true =>
    show Run E _ [(0, .iface 87 (.int .i64 p)), (1, .iface 89 (ptr b 0)), (3, rty 87), (6, ptr b6 0)] g [.blk b6 109 [hnd 89, ptr b5 0, .int .u64 150], posB b q, .blk b5 89 [ptr b 0]] _
    refine r_block ?_; refine r_seq ?_; refine r_sr ?_; refine r_ev rfl rfl ?_
    refine r_v rfl (val_ext rfl (as_to2 _)) ?_
    refine r_ev rfl rfl ?_
    refine r_v rfl (val_invoke rfl rfl (as_mAss _) as_as2) ?_
    refine r_nn ?_; refine r_cond_true rfl ?_; refine r_sr ?_; refine r_loadB 0 rfl rfl rfl (by rfl) ?_
    refine r_v rfl (val_extI rfl (fun w hI => as_elV b5 b w (blk_cell (i := 2) hI rfl rfl))) ?_
    refine r_ev rfl rfl ?_
    refine r_extA (mk := fun s => vIn 87 s 130) rfl rfl (as_v2 p) (fun b7 => ?_)
    skip
    refine r_extW (b := b) 2 rfl rfl rfl (fun w hI => as_set b b7 _ p q w (blk_cell (i := 0) hI rfl rfl) (sat_at (i := 2) hI rfl)) ?_
    refine r_nn ?_; refine r_sr ?_; refine r_ev rfl rfl ?_; refine r_nn ?_; refine r_retc ?_; refine r_then_ret ?_; refine r_in_ret ?_; refine r_then_ret ?_; refine r_in_ret ?_
    exact r_ret1 [_, _] rfl rfl (.cons _ (.cons _ (List.Sublist.refl _))) ⟨rfl, rfl, rfl⟩
theorem eAs_nil (g : Ghost) (v : Value) : Pure Tryd.prog 48 [.nilIface, v] g (.bool false) := by
  refine spec_of_run Tryd.func48 rfl Tryd.ntmps48 rfl fun E hE => ?_
  refine r_sr ?_; refine r_ev rfl rfl ?_; refine r_nn ?_; refine r_seq ?_; refine r_sr ?_; refine r_ev rfl rfl ?_; refine r_eql_nil_nil rfl rfl ?_; refine r_nn ?_; refine r_cond_true rfl ?_; refine r_sr ?_; refine r_ev rfl rfl ?_; refine r_nn ?_; refine r_retc ?_; refine r_then_ret ?_
  exact r_ret1 [] rfl rfl (by simp) ⟨rfl, rfl, rfl⟩
theorem eAs_spec (g : Ghost) (hg : ErrT g) (p q : Int) (b : Nat) : SpecL Tryd.prog 48 [failV p, .iface 89 (ptr b 0)] g (posB b q) fun v g' r' => v = .bool true ∧ g' = g ∧ r' = posB b p := by
  refine spec_of_run Tryd.func48 rfl Tryd.ntmps48 rfl fun E hE => ?_
  unfold failV
  refine r_sr ?_; refine r_ev rfl rfl ?_; refine r_nn ?_; refine r_seq ?_; refine r_sr ?_; refine r_ev rfl rfl ?_; refine r_eql_nil_held rfl rfl ?_; refine r_nn ?_; refine r_cond_false rfl ?_; refine r_skip ?_; refine r_then_normal ?_; refine r_seq ?_; refine r_sr ?_; refine r_ev rfl rfl ?_; refine r_eql_nil_held rfl rfl ?_; refine r_nn ?_; refine r_cond_false rfl ?_; refine r_skip ?_; refine r_then_normal ?_; refine r_sr ?_; refine r_ev rfl rfl ?_
  refine r_extA (mk := fun s => vIn 89 s 150) rfl rfl (as_v1 b) (fun b5 => ?_)
  skip
  refine r_alloc rfl (fun b4 => ?_)
  refine r_storeA 0 rfl rfl rfl rfl (by rfl) (by repeat' (first | exact rfl | assumption | refine all_cons ?_ ?_)) rfl ?_; refine r_nn ?_; refine r_sr ?_; refine r_loadB 0 rfl rfl rfl (by rfl) ?_
  -- STOP3
  refine r_v rfl (val_ext rfl (as_ty b5)) ?_
  refine r_ev rfl rfl ?_; refine r_nn ?_; refine r_seq ?_; refine r_sr ?_; refine r_ev rfl rfl ?_
  refine r_v rfl (val_invoke rfl rfl (as_mKind _) as_kP) ?_
  refine r_ev rfl rfl ?_; refine r_ev rfl rfl ?_; refine r_take rfl ?_; refine r_loadB 0 rfl rfl rfl (by rfl) ?_; refine r_take rfl ?_
  refine r_v rfl (val_extI rfl (fun w hI => as_nil b5 0 b w (blk_cell (i := 1) hI rfl rfl))) ?_
  refine r_ev rfl rfl ?_; refine r_nn ?_; refine r_cond_false rfl ?_; refine r_skip ?_; refine r_then_normal ?_; refine r_sr ?_; refine r_ev rfl rfl ?_
  refine r_v rfl (val_invoke rfl rfl (as_mElem _) as_el) ?_
  refine r_ev rfl rfl ?_; refine r_nn ?_; refine r_seq ?_; refine r_sr ?_; refine r_ev rfl rfl ?_
  refine r_v rfl (val_invoke rfl rfl (as_mKind _) as_kI) ?_
  refine r_ev rfl rfl ?_; refine r_ev rfl rfl ?_; refine r_tev rfl rfl rfl ?_; refine r_take rfl ?_
  refine r_load1 rfl rfl (rd_g1 hg) ?_
  refine r_take rfl ?_
  refine r_v rfl (val_invoke rfl rfl (as_mImpl _) as_im) ?_
  refine r_tev rfl rfl rfl ?_; refine r_ev rfl rfl ?_; refine r_nn ?_; refine r_cond_false rfl ?_; refine r_skip ?_; refine r_then_normal ?_; refine r_sr ?_; refine r_ev rfl rfl ?_; refine r_ev rfl rfl ?_; refine r_loadB 0 rfl rfl rfl (by rfl) ?_; refine r_ev rfl rfl ?_
  refine r_call' (lent := [posB b q, .blk b5 89 [ptr b 0]]) (kept := [.blk b4 109 [hnd 89, ptr b5 0, .int .u64 150]]) rfl rfl (List.Perm.trans (List.Perm.cons _ (List.Perm.swap _ _ _)) (List.perm_append_comm (l₁ := [_]) (l₂ := [_, _]))) (eas_spec g p q b b5) ?_
  rintro v g' own' ⟨rfl, rfl, rfl⟩ _
  refine r_ev rfl rfl ?_; refine r_nn ?_; refine r_retc ?_
  exact r_ret1 [_] rfl rfl (.cons_cons _ (List.nil_sublist _)) ⟨_, rfl, rfl, rfl, rfl⟩
end Go.Proofs.YtblbbjhbigpgnaaDoor
-- sum c8ed6402a81048ba

/- errors.Is at readexpr's two kinds of error: the walk. -/
import Derived.Test.YtcapgcohhgjngaaGreatDoorK17
import Derived.Test.YtcapgcohhgjngaaGreatDoorExN
import Derived.Test.YtcapgcohhgjngaaGreatDoorK12
import Derived.Test.YtcapgcohhgjngaaGreatDoorK7
namespace Go.Eng
open Go Go.RowKit
section
variable {P : Program} {E : Env} {n : Nat} {L : Slots} {g : Ghost} {own : List Res}
variable {d : Nat} {ty : TypeId} {pos : String} {after : Array Edge}
theorem val_eql_ifs {x y : Operand} {T T' t t' : TypeId} {u u' : Value} {r : Bool} (hx : ev L x = some (.iface t u)) (hy : ev L y = some (.iface t' u')) (h : ∀ w, (Op.equal T (.iface t u) (.iface t' u')).run P w = .ok r w) :
    Val P E n L g own ty (.binOp .eql T x y T') (.bool r) := fun a w dst pos after hF _ => by
  simp [execOp, hF.eval hx, hF.eval hy, eqGuard, binOp, h]
theorem val_eql_nilif {x y : Operand} {T T' t' : TypeId} {u' : Value} {r : Bool} (hx : ev L x = some .nilIface) (hy : ev L y = some (.iface t' u')) (h : ∀ w, (Op.equal T .nilIface (.iface t' u')).run P w = .ok r w) :
    Val P E n L g own ty (.binOp .eql T x y T') (.bool r) := fun a w dst pos after hF _ => by
  simp [execOp, hF.eval hx, hF.eval hy, eqGuard, binOp, h]
end
end Go.Eng
namespace Go.Proofs.YtcapgcohhgjngaaGreatDoor
open Go Go.Eng Go.Th Go.Proofs Go.Extern Go.RowKit
set_option maxRecDepth 10000
set_option maxHeartbeats 4000000
attribute [local irreducible] wpList Code.wp Run bodyPost Go.Eng.Ends Exit.then Exit.inBlock Again Wq Kq
instance : Ext Tryz.prog 236 (ReflectliteType.method fun t => do Rtype.noPackHeld "Comparable" t; pure (.bool (← typeInfo t).comparable)) := ⟨_, Tryz.func236, by kernel_rfl, by kernel_rfl, by kernel_rfl, by kernel_rfl⟩
theorem is_to (v : Value) (w : World) : (ReflectliteType.typeOf #[.iface 143 v]).run Tryz.prog w = .ok (rty 143) w := by kernel_rfl
theorem is_mCmp (h : Value) (w : World) : (Go.method (Tryz.prog.types.size + Made.depth) 181 (.agg #[h]) "Comparable").run Tryz.prog w = .ok (236, .agg #[h]) w := by kernel_rfl
theorem is_cmp (w : World) : (ReflectliteType.method (fun t => do Rtype.noPackHeld "Comparable" t; pure (.bool (← typeInfo t).comparable)) #[.agg #[hnd 143]]).run Tryz.prog w = .ok (.bool true) w := by kernel_rfl
theorem is_eq1 (s : Value) (w : World) : (Op.equal 96 (.iface 171 (.agg #[s])) (.iface 143 (.agg #[]))).run Tryz.prog w = .ok false w := by kernel_rfl
theorem is_eq2 (w : World) : (Op.equal 96 (.iface 143 (.agg #[])) (.iface 143 (.agg #[]))).run Tryz.prog w = .ok true w := by kernel_rfl
theorem is_eq3 (w : World) : (Op.equal 96 .nilIface (.iface 143 (.agg #[]))).run Tryz.prog w = .ok false w := by kernel_rfl
theorem is_mUnw (s : Value) (w : World) : (Go.method (Tryz.prog.types.size + Made.depth) 171 (.agg #[s]) "Unwrap").run Tryz.prog w = .ok (232, .agg #[s]) w := by kernel_rfl
theorem is_ta1 (v : Value) (w : World) : (Instr.typeAssert (.iface 171 v) 96 183 true).run Tryz.prog w = .ok (.tuple #[.nilIface, .bool false]) w :=
  run_typeAssert_lacksB Tryz.underlying183 (by kernel_rfl) (by kernel_rfl) v _ w
theorem is_ta2 (v : Value) (w : World) : (Instr.typeAssert (.iface 171 v) 96 186 true).run Tryz.prog w = .ok (.tuple #[.iface 171 v, .bool true]) w :=
  run_typeAssert_hasB Tryz.underlying186 (by kernel_rfl) v _ w
theorem munwrap_spec (g : Ghost) (w : Bytes) : Pure Tryz.prog 232 [.agg #[str w]] g unexpV := by
  refine spec_of_run Tryz.func232 rfl Tryz.ntmps232 rfl fun E hE => ?_
  refine r_sr ?_
  refine r_box rfl rfl rfl (fun b1 => ?_)
  refine r_ev rfl rfl ?_; refine r_nn ?_; refine r_sr ?_; refine r_build rfl rfl (by rfl) ?_; refine r_mkIface rfl rfl ?_; refine r_ev rfl rfl ?_; refine r_nn ?_; refine r_retc ?_
  exact r_ret1 [] rfl rfl (by simp) ⟨rfl, rfl, rfl⟩
theorem eis_unexp (g : Ghost) : Pure Tryz.prog 140 [unexpV, unexpV, .bool true] g (.bool true) := by
  refine spec_of_run Tryz.func140 rfl Tryz.ntmps140 rfl fun E hE => ?_
  refine r_sr ?_; refine r_ev rfl rfl ?_; refine r_nn ?_; refine r_block ?_
  refine r_loop (ι := Unit) (fun _ => [(0, unexpV), (1, unexpV), (2, .bool true)]) (fun _ => g) (fun _ => []) (fun _ => True) (fun _ => 0) () trivial ⟨rfl, rfl, rfl, trivial⟩ rfl rfl ?_
  rintro _ -
  refine r_block ?_; refine r_seq ?_; refine r_sr ?_; refine r_ev rfl rfl ?_; refine r_ev rfl rfl ?_; refine r_tev rfl rfl rfl ?_; refine r_tev rfl rfl rfl ?_; refine r_take rfl ?_
  refine r_v rfl (val_eql_ifs rfl rfl is_eq2) ?_
  refine r_ev rfl rfl ?_; refine r_nn ?_; refine r_cond_true rfl ?_; refine r_sr ?_; refine r_ev rfl rfl ?_; refine r_nn ?_; refine r_retc ?_; refine r_then_ret ?_; refine r_in_ret ?_; refine r_then_ret ?_; refine r_in_ret ?_
  exact r_ret1 [] rfl rfl (by simp) ⟨rfl, rfl, rfl⟩
theorem eis_miss (g : Ghost) (s : Bytes) : Pure Tryz.prog 140 [missV s, unexpV, .bool true] g (.bool true) := by
  refine spec_of_run Tryz.func140 rfl Tryz.ntmps140 rfl fun E hE => ?_
  refine r_sr ?_; refine r_ev rfl rfl ?_; refine r_nn ?_; refine r_block ?_
  refine r_loop (ι := Bool) (fun c => [(0, if c then unexpV else missV s), (1, unexpV), (2, .bool true)]) (fun _ => g) (fun _ => []) (fun _ => True) (fun c => if c then 0 else 1) false trivial ⟨rfl, rfl, rfl, trivial⟩ rfl rfl ?_
  rintro c -
  cases c with
  | false =>
    show Run E _ [(0, missV s), (1, unexpV), (2, .bool true)] g [] _
    refine r_block ?_; refine r_seq ?_; refine r_sr ?_; refine r_ev rfl rfl ?_; refine r_ev rfl rfl ?_; refine r_tev rfl rfl rfl ?_; refine r_tev rfl rfl rfl ?_; refine r_take rfl ?_
    refine r_v rfl (val_eql_ifs rfl rfl (is_eq1 _)) ?_
    refine r_ev rfl rfl ?_; refine r_nn ?_; refine r_cond_false rfl ?_; refine r_skip ?_; refine r_then_normal ?_; refine r_seq ?_; refine r_sr ?_; refine r_ev rfl rfl ?_
    refine r_v rfl (val_tassert rfl (is_ta1 _)) ?_
    refine r_ev rfl rfl ?_; refine r_ev rfl rfl ?_; refine r_ev rfl rfl ?_; refine r_ev rfl rfl ?_; refine r_ev rfl rfl ?_; refine r_nn ?_; refine r_sr ?_; refine r_ev rfl rfl ?_; refine r_ev rfl rfl ?_; refine r_pass rfl rfl rfl ?_; refine r_pass rfl rfl rfl ?_; refine r_pass rfl rfl rfl ?_; refine r_ev rfl rfl ?_; refine r_nn ?_; refine r_cond_false rfl ?_; refine r_skip ?_; refine r_then_normal ?_; refine r_sr ?_; refine r_ev rfl rfl ?_; refine r_nn ?_; refine r_block ?_; refine r_sr ?_
    refine r_v rfl (val_tassert rfl (is_ta2 _)) ?_
    refine r_ev rfl rfl ?_; refine r_ev rfl rfl ?_; refine r_nn ?_; refine r_cond_true rfl ?_; refine r_sr ?_; refine r_ev rfl rfl ?_; refine r_nn ?_; refine r_sr ?_; refine r_ev rfl rfl ?_
    refine r_invokeP rfl rfl rfl (is_mUnw _) (munwrap_spec g s) ?_
    refine r_ev rfl rfl ?_; refine r_nn ?_; refine r_sr ?_; refine r_ev rfl rfl ?_; refine r_eql_nil_held rfl rfl ?_; refine r_nn ?_; refine r_cond_false rfl ?_; refine r_skip ?_; refine r_in_normal ?_; refine r_in_normal ?_; refine r_then_normal ?_
    exact r_again true trivial (by decide) ⟨rfl, rfl, rfl, trivial⟩ rfl rfl
  | true =>
    show Run E _ [(0, unexpV), (1, unexpV), (2, .bool true)] g [] _
    refine r_block ?_; refine r_seq ?_; refine r_sr ?_; refine r_ev rfl rfl ?_; refine r_ev rfl rfl ?_; refine r_tev rfl rfl rfl ?_; refine r_tev rfl rfl rfl ?_; refine r_take rfl ?_
    refine r_v rfl (val_eql_ifs rfl rfl is_eq2) ?_
    refine r_ev rfl rfl ?_; refine r_nn ?_; refine r_cond_true rfl ?_; refine r_sr ?_; refine r_ev rfl rfl ?_; refine r_nn ?_; refine r_retc ?_; refine r_then_ret ?_; refine r_in_ret ?_; refine r_then_ret ?_; refine r_in_ret ?_
    exact r_ret1 [] rfl rfl (by simp) ⟨rfl, rfl, rfl⟩
theorem eIs_nil (g : Ghost) : Pure Tryz.prog 92 [.nilIface, unexpV] g (.bool false) := by
  refine spec_of_run Tryz.func92 rfl Tryz.ntmps92 rfl fun E hE => ?_
  refine r_sr ?_; refine r_ev rfl rfl ?_; refine r_nn ?_; refine r_seq ?_; refine r_sr ?_; refine r_ev rfl rfl ?_; refine r_eql_nil_nil rfl rfl ?_; refine r_ev rfl rfl ?_; refine r_pass rfl rfl rfl ?_; refine r_pass rfl rfl rfl ?_; refine r_ev rfl rfl ?_; refine r_nn ?_; refine r_cond_true rfl ?_; refine r_sr ?_; refine r_ev rfl rfl ?_; refine r_ev rfl rfl ?_
  refine r_v rfl (val_eql_nilif rfl rfl is_eq3) ?_
  refine r_ev rfl rfl ?_; refine r_nn ?_; refine r_retc ?_; refine r_then_ret ?_
  exact r_ret1 [] rfl rfl (by simp) ⟨rfl, rfl, rfl⟩
theorem eIs_err (g : Ghost) (v : Value) (hv : ErrV v) : Pure Tryz.prog 92 [v, unexpV] g (.bool true) := by
  obtain ⟨t, u, rfl, ⟨rfl, s, rfl⟩ | ⟨rfl, rfl⟩⟩ := hv
  · refine spec_of_run Tryz.func92 rfl Tryz.ntmps92 rfl fun E hE => ?_
    refine r_sr ?_; refine r_ev rfl rfl ?_; refine r_nn ?_; refine r_seq ?_; refine r_sr ?_; refine r_ev rfl rfl ?_; refine r_eql_nil_held rfl rfl ?_; refine r_ev rfl rfl ?_; refine r_tev rfl rfl rfl ?_; refine r_take rfl ?_; refine r_eql_nil_held rfl rfl ?_; refine r_ev rfl rfl ?_; refine r_nn ?_; refine r_cond_false rfl ?_; refine r_skip ?_; refine r_then_normal ?_; refine r_sr ?_; refine r_ev rfl rfl ?_
    refine r_v rfl (val_ext rfl (is_to _)) ?_
    skip
    refine r_v rfl (val_invoke rfl rfl (is_mCmp _) is_cmp) ?_
    refine r_ev rfl rfl ?_; refine r_nn ?_; refine r_sr ?_; refine r_ev rfl rfl ?_; refine r_ev rfl rfl ?_; refine r_ev rfl rfl ?_
    refine r_callP rfl rfl (eis_miss g s) ?_
    refine r_ev rfl rfl ?_; refine r_nn ?_; refine r_retc ?_
    exact r_ret1 [] rfl rfl (by simp) ⟨rfl, rfl, rfl⟩
  · refine spec_of_run Tryz.func92 rfl Tryz.ntmps92 rfl fun E hE => ?_
    refine r_sr ?_; refine r_ev rfl rfl ?_; refine r_nn ?_; refine r_seq ?_; refine r_sr ?_; refine r_ev rfl rfl ?_; refine r_eql_nil_held rfl rfl ?_; refine r_ev rfl rfl ?_; refine r_tev rfl rfl rfl ?_; refine r_take rfl ?_; refine r_eql_nil_held rfl rfl ?_; refine r_ev rfl rfl ?_; refine r_nn ?_; refine r_cond_false rfl ?_; refine r_skip ?_; refine r_then_normal ?_; refine r_sr ?_; refine r_ev rfl rfl ?_
    refine r_v rfl (val_ext rfl (is_to _)) ?_
    skip
    refine r_v rfl (val_invoke rfl rfl (is_mCmp _) is_cmp) ?_
    refine r_ev rfl rfl ?_; refine r_nn ?_; refine r_sr ?_; refine r_ev rfl rfl ?_; refine r_ev rfl rfl ?_; refine r_ev rfl rfl ?_
    refine r_callP rfl rfl (eis_unexp g) ?_
    refine r_ev rfl rfl ?_; refine r_nn ?_; refine r_retc ?_
    exact r_ret1 [] rfl rfl (by simp) ⟨rfl, rfl, rfl⟩
end Go.Proofs.YtcapgcohhgjngaaGreatDoor
-- sum 2887c2d1e4320282
/- The walks of package readexpr: expr, the joint induction, result, Expr, Atom. -/
namespace Go.Proofs.YtcapgcohhgjngaaGreatDoor
open Go Go.Eng Go.Th Go.Proofs
set_option maxRecDepth 10000
set_option maxHeartbeats 4000000
attribute [local irreducible] wpList Code.wp Run bodyPost Go.Eng.Ends Exit.then Exit.inBlock Again Wq Kq
section
variable {l : List Tok} (hb : TB l) (hkw : KW l) (m : Nat) (lv : Value) (b : Nat)
  (hX : ∀ g i, ErrT g → ToksAt g lv l → i ≤ l.length → l.length - i < m → SpecL Tryz.prog 51 [ptr b 0] g (rdE b lv i 0) (postE l i b lv (eread l .expr i)))
include hb hkw hX
theorem eexpr_step (g : Ghost) (i : Nat) (hg : ErrT g) (hs : ToksAt g lv l) (hi : i ≤ l.length) (hm : l.length - i < m + 1) :
    SpecL Tryz.prog 51 [ptr b 0] g (rdE b lv i 0) (postE l i b lv (eread l .expr i)) := by
  have hb1 := hb.1
  have hr := eread_step l .expr i
  simp only [estep] at hr
  refine spec_of_run Tryz.func51 rfl Tryz.ntmps51 rfl fun E hE => ?_
  refine r_sr ?_
  refine r_alloc rfl (fun b2 => ?_)
  refine r_ev rfl rfl ?_; refine r_nn ?_; refine r_sr ?_; refine r_ev rfl rfl ?_
  refine r_callO 1 rfl rfl rfl (eplace_spec g l lv hs b i 0) ?_
  refine r_build rfl rfl (by rfl) ?_
  refine r_alloc rfl (fun b4 => ?_)
  refine r_storeA 0 rfl rfl rfl rfl (by rfl) (by repeat' (first | exact rfl | assumption | refine all_cons ?_ ?_)) rfl ?_; refine r_nn ?_; refine r_seq ?_; refine r_block ?_; refine r_sr ?_; refine r_ev rfl rfl ?_
  refine r_callL 2 rfl rfl rfl (eread_spec g l hb lv hs b i 0 5 [92]) ?_
  rintro v g1 r' ⟨rfl, rfl, rfl⟩ _
  rw [show tokAt l i 5 [92] = markAt l i [92] from rfl]
  cases h1 : markAt l i [92] with
  | true =>
    have hlt := tokAt_lt h1
    rw [h1] at hr
    simp only [if_true] at hr ⊢
    have hr' : eread l .expr i = funRes l (posOf l i) (i + 1) := hr
    refine r_ev rfl rfl ?_; refine r_nn ?_; refine r_cond_true rfl ?_; refine r_sr ?_; refine r_fieldAddr rfl rfl ?_; refine r_store1 0 rfl rfl rfl rfl rfl rfl ?_; refine r_nn ?_; refine r_sr ?_; refine r_ev rfl rfl ?_; refine r_loadB 0 rfl rfl rfl (by rfl) ?_
    refine r_callL 2 rfl rfl rfl (efunction_step hb m lv b hX g1 (i + 1) hg hs hlt (by omega) (posOf l i)) ?_
    rintro v g2 r' hw hle
    rw [← hr'] at hw
    cases hq : eread l .expr i with
    | error p =>
      rw [hq] at hw
      obtain ⟨ev, e, er, rfl, he, her, j, hj, rfl⟩ := hw
      obtain ⟨a1, m1, c1, a2, m2, c2, a3, m3, c3, rfl, he'⟩ := he.form
      refine r_ev rfl rfl ?_; refine r_ev rfl rfl ?_; refine r_storeA 1 rfl rfl rfl rfl (by rfl) (by repeat' (first | exact rfl | assumption | refine all_cons ?_ ?_)) rfl ?_; refine r_ev rfl rfl ?_; refine r_nn ?_; refine r_retc ?_; refine r_in_ret ?_; refine r_then_ret ?_
      refine r_ret2 [_] rfl (res_blk 1 rfl rfl (by rfl)) (.tmp rfl) (.cons _ (.cons _ (List.Sublist.refl _))) ⟨_, rfl, ?_⟩
      exact ⟨_, e, _, rfl, ⟨_, rfl, he'⟩, her, j, hj, rfl⟩
    | ok q =>
      obtain ⟨e, j⟩ := q
      rw [hq] at hw
      obtain ⟨ev, rfl, he, rfl, hj1, hj2⟩ := hw
      obtain ⟨a1, m1, c1, a2, m2, c2, a3, m3, c3, rfl, he'⟩ := he.form
      refine r_ev rfl rfl ?_; refine r_ev rfl rfl ?_; refine r_storeA 1 rfl rfl rfl rfl (by rfl) (by repeat' (first | exact rfl | assumption | refine all_cons ?_ ?_)) rfl ?_; refine r_ev rfl rfl ?_; refine r_nn ?_; refine r_retc ?_; refine r_in_ret ?_; refine r_then_ret ?_
      refine r_ret2 [_] rfl (res_blk 1 rfl rfl (by rfl)) (.tmp rfl) (.cons _ (.cons _ (List.Sublist.refl _))) ⟨_, rfl, ?_⟩
      exact ⟨_, rfl, ⟨_, rfl, he'⟩, rfl, by omega, hj2⟩
  | false =>
  rw [h1] at hr
  simp only [Bool.false_eq_true, if_false] at hr ⊢
  refine r_ev rfl rfl ?_; refine r_nn ?_; refine r_cond_false rfl ?_; refine r_sr ?_; refine r_ev rfl rfl ?_
  refine r_callL 2 rfl rfl rfl (eread_spec g1 l hb lv hs b i 0 4 letB) ?_
  rintro v g1 r' ⟨rfl, rfl, rfl⟩ _
  rw [show tokAt l i 4 letB = wordAt l i letB from rfl]
  cases h2 : wordAt l i letB with
  | true =>
    have hlt := tokAt_lt h2
    rw [h2] at hr
    simp only [if_true] at hr ⊢
    refine r_ev rfl rfl ?_; refine r_nn ?_; refine r_cond_true rfl ?_; refine r_sr ?_; refine r_fieldAddr rfl rfl ?_; refine r_store1 0 rfl rfl rfl rfl rfl rfl ?_; refine r_nn ?_; refine r_seq ?_; refine r_sr ?_; refine r_ev rfl rfl ?_
    refine r_callL 2 rfl rfl rfl (eread_spec g1 l hb lv hs b (i + 1) 0 4 recB) ?_
    rintro v g1 r' ⟨rfl, rfl, rfl⟩ _
    rw [show tokAt l (i + 1) 4 recB = wordAt l (i + 1) recB from rfl]
    cases h3 : wordAt l (i + 1) recB with
    | true =>
      have hlt2 := tokAt_lt h3
      rw [h3] at hr
      simp only [if_true] at hr ⊢
      refine r_nn ?_; refine r_cond_true rfl ?_; refine r_region ?_; refine r_fieldAddr rfl rfl ?_; refine r_store1 0 rfl rfl rfl rfl rfl rfl ?_; refine r_nn ?_; refine r_sr ?_; refine r_ev rfl rfl ?_; refine r_loadB 0 rfl rfl rfl (by rfl) ?_
      refine r_callL 2 rfl rfl rfl (elet_step hb m lv b hX g1 (i + 2) hg hs hlt2 (by omega) 7 (posOf l i)) ?_
      rintro v g2 r' hw hle
      rw [← hr] at hw
      cases hq : eread l .expr i with
      | error p =>
        rw [hq] at hw
        obtain ⟨ev, e, er, rfl, he, her, j, hj, rfl⟩ := hw
        obtain ⟨a1, m1, c1, a2, m2, c2, a3, m3, c3, rfl, he'⟩ := he.form
        refine r_ev rfl rfl ?_; refine r_ev rfl rfl ?_; refine r_storeA 1 rfl rfl rfl rfl (by rfl) (by repeat' (first | exact rfl | assumption | refine all_cons ?_ ?_)) rfl ?_; refine r_ev rfl rfl ?_; refine r_nn ?_; refine r_retc ?_; refine r_in_ret ?_; refine r_then_ret ?_
        refine r_ret2 [_] rfl (res_blk 1 rfl rfl (by rfl)) (.tmp rfl) (.cons _ (.cons _ (List.Sublist.refl _))) ⟨_, rfl, ?_⟩
        exact ⟨_, e, _, rfl, ⟨_, rfl, he'⟩, her, j, hj, rfl⟩
      | ok q =>
        obtain ⟨e, j⟩ := q
        rw [hq] at hw
        obtain ⟨ev, rfl, he, rfl, hj1, hj2⟩ := hw
        obtain ⟨a1, m1, c1, a2, m2, c2, a3, m3, c3, rfl, he'⟩ := he.form
        refine r_ev rfl rfl ?_; refine r_ev rfl rfl ?_; refine r_storeA 1 rfl rfl rfl rfl (by rfl) (by repeat' (first | exact rfl | assumption | refine all_cons ?_ ?_)) rfl ?_; refine r_ev rfl rfl ?_; refine r_nn ?_; refine r_retc ?_; refine r_in_ret ?_; refine r_then_ret ?_
        refine r_ret2 [_] rfl (res_blk 1 rfl rfl (by rfl)) (.tmp rfl) (.cons _ (.cons _ (List.Sublist.refl _))) ⟨_, rfl, ?_⟩
        exact ⟨_, rfl, ⟨_, rfl, he'⟩, rfl, by omega, hj2⟩
    | false =>
      rw [h3] at hr
      simp only [Bool.false_eq_true, if_false] at hr ⊢
      refine r_nn ?_; refine r_cond_false rfl ?_; refine r_skip ?_; refine r_then_normal ?_; refine r_sr ?_; refine r_ev rfl rfl ?_; refine r_loadB 0 rfl rfl rfl (by rfl) ?_
      refine r_callL 2 rfl rfl rfl (elet_step hb m lv b hX g1 (i + 1) hg hs hlt (by omega) 6 (posOf l i)) ?_
      rintro v g2 r' hw hle
      rw [← hr] at hw
      cases hq : eread l .expr i with
      | error p =>
        rw [hq] at hw
        obtain ⟨ev, e, er, rfl, he, her, j, hj, rfl⟩ := hw
        obtain ⟨a1, m1, c1, a2, m2, c2, a3, m3, c3, rfl, he'⟩ := he.form
        refine r_ev rfl rfl ?_; refine r_ev rfl rfl ?_; refine r_storeA 1 rfl rfl rfl rfl (by rfl) (by repeat' (first | exact rfl | assumption | refine all_cons ?_ ?_)) rfl ?_; refine r_ev rfl rfl ?_; refine r_nn ?_; refine r_retc ?_; refine r_in_ret ?_; refine r_then_ret ?_
        refine r_ret2 [_] rfl (res_blk 1 rfl rfl (by rfl)) (.tmp rfl) (.cons _ (.cons _ (List.Sublist.refl _))) ⟨_, rfl, ?_⟩
        exact ⟨_, e, _, rfl, ⟨_, rfl, he'⟩, her, j, hj, rfl⟩
      | ok q =>
        obtain ⟨e, j⟩ := q
        rw [hq] at hw
        obtain ⟨ev, rfl, he, rfl, hj1, hj2⟩ := hw
        obtain ⟨a1, m1, c1, a2, m2, c2, a3, m3, c3, rfl, he'⟩ := he.form
        refine r_ev rfl rfl ?_; refine r_ev rfl rfl ?_; refine r_storeA 1 rfl rfl rfl rfl (by rfl) (by repeat' (first | exact rfl | assumption | refine all_cons ?_ ?_)) rfl ?_; refine r_ev rfl rfl ?_; refine r_nn ?_; refine r_retc ?_; refine r_in_ret ?_; refine r_then_ret ?_
        refine r_ret2 [_] rfl (res_blk 1 rfl rfl (by rfl)) (.tmp rfl) (.cons _ (.cons _ (List.Sublist.refl _))) ⟨_, rfl, ?_⟩
        exact ⟨_, rfl, ⟨_, rfl, he'⟩, rfl, by omega, hj2⟩
  | false =>
  rw [h2] at hr
  simp only [Bool.false_eq_true, if_false] at hr ⊢
  refine r_ev rfl rfl ?_; refine r_nn ?_; refine r_cond_false rfl ?_; refine r_sr ?_; refine r_ev rfl rfl ?_
  refine r_callL 2 rfl rfl rfl (eread_spec g1 l hb lv hs b i 0 4 caseB) ?_
  rintro v g1 r' ⟨rfl, rfl, rfl⟩ _
  rw [show tokAt l i 4 caseB = wordAt l i caseB from rfl]
  cases h3 : wordAt l i caseB with
  | true =>
    have hlt := tokAt_lt h3
    rw [h3] at hr
    simp only [if_true] at hr ⊢
    have hr' : eread l .expr i = caseRes l (posOf l i) (i + 1) := hr
    refine r_ev rfl rfl ?_; refine r_nn ?_; refine r_cond_true rfl ?_; refine r_sr ?_; refine r_fieldAddr rfl rfl ?_; refine r_store1 0 rfl rfl rfl rfl rfl rfl ?_; refine r_nn ?_; refine r_sr ?_; refine r_ev rfl rfl ?_; refine r_loadB 0 rfl rfl rfl (by rfl) ?_
    refine r_callL 2 rfl rfl rfl (eanalysis_step hb m lv b hX g1 (i + 1) hg hs hlt (by omega) (posOf l i)) ?_
    rintro v g2 r' hw hle
    rw [← hr'] at hw
    cases hq : eread l .expr i with
    | error p =>
      rw [hq] at hw
      obtain ⟨ev, e, er, rfl, he, her, j, hj, rfl⟩ := hw
      obtain ⟨a1, m1, c1, a2, m2, c2, a3, m3, c3, rfl, he'⟩ := he.form
      refine r_ev rfl rfl ?_; refine r_ev rfl rfl ?_; refine r_storeA 1 rfl rfl rfl rfl (by rfl) (by repeat' (first | exact rfl | assumption | refine all_cons ?_ ?_)) rfl ?_; refine r_ev rfl rfl ?_; refine r_nn ?_; refine r_retc ?_; refine r_in_ret ?_; refine r_then_ret ?_
      refine r_ret2 [_] rfl (res_blk 1 rfl rfl (by rfl)) (.tmp rfl) (.cons _ (.cons _ (List.Sublist.refl _))) ⟨_, rfl, ?_⟩
      exact ⟨_, e, _, rfl, ⟨_, rfl, he'⟩, her, j, hj, rfl⟩
    | ok q =>
      obtain ⟨e, j⟩ := q
      rw [hq] at hw
      obtain ⟨ev, rfl, he, rfl, hj1, hj2⟩ := hw
      obtain ⟨a1, m1, c1, a2, m2, c2, a3, m3, c3, rfl, he'⟩ := he.form
      refine r_ev rfl rfl ?_; refine r_ev rfl rfl ?_; refine r_storeA 1 rfl rfl rfl rfl (by rfl) (by repeat' (first | exact rfl | assumption | refine all_cons ?_ ?_)) rfl ?_; refine r_ev rfl rfl ?_; refine r_nn ?_; refine r_retc ?_; refine r_in_ret ?_; refine r_then_ret ?_
      refine r_ret2 [_] rfl (res_blk 1 rfl rfl (by rfl)) (.tmp rfl) (.cons _ (.cons _ (List.Sublist.refl _))) ⟨_, rfl, ?_⟩
      exact ⟨_, rfl, ⟨_, rfl, he'⟩, rfl, by omega, hj2⟩
  | false =>
  rw [h3] at hr
  simp only [Bool.false_eq_true, if_false] at hr ⊢
  have hr' : eread l .expr i = appRes l i := hr
  refine r_ev rfl rfl ?_; refine r_nn ?_; refine r_cond_false rfl ?_; refine r_skip ?_; refine r_in_normal ?_; refine r_then_normal ?_; refine r_sr ?_; refine r_ev rfl rfl ?_
  refine r_callL 2 rfl rfl rfl (eapplied_step hb m lv b (fun g i => eatom_step hb hkw m lv b hX g i) g1 i hg hs hi hm) ?_
  rintro v g2 r' hw hle
  rw [← hr'] at hw
  cases hq : eread l .expr i with
  | error p =>
    rw [hq] at hw
    obtain ⟨ev, e, er, rfl, he, her, j, hj, rfl⟩ := hw
    obtain ⟨a1, m1, c1, a2, m2, c2, a3, m3, c3, rfl, he'⟩ := he.form
    refine r_ev rfl rfl ?_; refine r_ev rfl rfl ?_; refine r_storeA 1 rfl rfl rfl rfl (by rfl) (by repeat' (first | exact rfl | assumption | refine all_cons ?_ ?_)) rfl ?_; refine r_ev rfl rfl ?_; refine r_nn ?_; refine r_retc ?_
    refine r_ret2 [_] rfl (res_blk 1 rfl rfl (by rfl)) (.tmp rfl) (.cons _ (.cons _ (List.Sublist.refl _))) ⟨_, rfl, ?_⟩
    exact ⟨_, e, _, rfl, ⟨_, rfl, he'⟩, her, j, hj, rfl⟩
  | ok q =>
    obtain ⟨e, j⟩ := q
    rw [hq] at hw
    obtain ⟨ev, rfl, he, rfl, hj1, hj2⟩ := hw
    obtain ⟨a1, m1, c1, a2, m2, c2, a3, m3, c3, rfl, he'⟩ := he.form
    refine r_ev rfl rfl ?_; refine r_ev rfl rfl ?_; refine r_storeA 1 rfl rfl rfl rfl (by rfl) (by repeat' (first | exact rfl | assumption | refine all_cons ?_ ?_)) rfl ?_; refine r_ev rfl rfl ?_; refine r_nn ?_; refine r_retc ?_
    refine r_ret2 [_] rfl (res_blk 1 rfl rfl (by rfl)) (.tmp rfl) (.cons _ (.cons _ (List.Sublist.refl _))) ⟨_, rfl, ?_⟩
    exact ⟨_, rfl, ⟨_, rfl, he'⟩, rfl, by omega, hj2⟩
end
theorem eexpr_all {l : List Tok} (hb : TB l) (hkw : KW l) (lv : Value) (b : Nat) : ∀ m : Nat, ∀ g i, ErrT g → ToksAt g lv l → i ≤ l.length → l.length - i < m → SpecL Tryz.prog 51 [ptr b 0] g (rdE b lv i 0) (postE l i b lv (eread l .expr i))
  | 0 => fun _ _ _ _ _ h => by omega
  | m + 1 => fun g i => eexpr_step hb hkw m lv b (eexpr_all hb hkw lv b m) g i
theorem eexpr_spec {l : List Tok} (hb : TB l) (hkw : KW l) (lv : Value) (b : Nat) (g : Ghost) (i : Nat) (hg : ErrT g) (hs : ToksAt g lv l) (hi : i ≤ l.length) : SpecL Tryz.prog 51 [ptr b 0] g (rdE b lv i 0) (postE l i b lv (eread l .expr i)) := eexpr_all hb hkw lv b _ g i hg hs hi (Nat.lt_succ_self _)
theorem eatom_spec {l : List Tok} (hb : TB l) (hkw : KW l) (lv : Value) (b : Nat) (g : Ghost) (i : Nat) (hg : ErrT g) (hs : ToksAt g lv l) (hi : i ≤ l.length) : SpecL Tryz.prog 59 [ptr b 0] g (rdE b lv i 0) (postE l i b lv (eread l .atom i)) := eatom_step hb hkw _ lv b (eexpr_all hb hkw lv b _) g i hg hs hi (Nat.lt_succ_self _)
end Go.Proofs.YtcapgcohhgjngaaGreatDoor
-- sum 79c6b9a7309f5eea

/- readexpr.Expr, Atom and the reference's: both answer what the plain grammar reads. -/
namespace Go.Proofs.YtcapgcohhgjngaaGreatDoor
open Go Go.Eng Go.Th Go.Proofs
set_option maxRecDepth 10000
set_option maxHeartbeats 4000000
attribute [local irreducible] wpList Code.wp Run bodyPost Go.Eng.Ends Exit.then Exit.inBlock Again Wq Kq
def eansT : ER → Ex
  | .ok (t, _) => t
  | .error _ => noE
def eansI : ER → Int
  | .ok (_, j) => j
  | .error _ => 0
def eansE : ER → Int
  | .ok _ => 0
  | .error _ => 3
def eansP : ER → Int
  | .ok _ => 0
  | .error p => p
/-- What the exported functions hand back. -/
def eansPost (r : ER) (v : Value) (g' : Ghost) : Prop := ∃ tv, v = .tuple #[tv, .int .i64 (eansI r), .agg #[.int .i64 (eansE r), .int .i64 (eansP r)]] ∧ ExV g' tv (eansT r)
theorem eresult_ok (g : Ghost) (lv : Value) (b i : Nat) (tv : Value) (t : Ex) (ht : ExV g tv t) : PureO Tryz.prog 50 [ptr b 0, tv, .nilIface] g (rdE b lv i 0) (.tuple #[tv, .int .i64 i, .agg #[.int .i64 0, .int .i64 0]]) := by
  obtain ⟨a1, m1, c1, a2, m2, c2, a3, m3, c3, rfl, ht⟩ := ht.form
  refine spec_of_run Tryz.func50 rfl Tryz.ntmps50 rfl fun E hE => ?_
  refine r_sr ?_
  refine r_box rfl rfl rfl (fun b4 => ?_)
  refine r_alloc rfl (fun b6 => ?_)
  refine r_ev rfl rfl ?_
  refine r_alloc rfl (fun b8 => ?_)
  refine r_nn ?_; refine r_seq ?_; refine r_sr ?_; refine r_ev rfl rfl ?_; refine r_build rfl rfl (by rfl) ?_; refine r_mkIface rfl rfl ?_
  refine r_callP rfl rfl (eIs_nil g) ?_
  refine r_nn ?_; refine r_cond_false rfl ?_; refine r_skip ?_; refine r_then_normal ?_; refine r_seq ?_
  refine h_beginE [1, 0] mixed (fun hG => ?_)
  refine h_takeX 0 rfl (by kernel_rfl) rfl hG (by first | exact Ghost.le_refl _ | assumption) (by repeat' (first | exact List.nil_sublist _ | refine List.Sublist.cons_cons _ ?_ | refine List.Sublist.cons _ ?_)) ?_; refine ⟨_, (val_loadB 0 rfl rfl (by rfl)), ?_⟩; refine h_takeX 1 rfl (by kernel_rfl) rfl hG (by first | exact Ghost.le_refl _ | assumption) (by repeat' (first | exact List.nil_sublist _ | refine List.Sublist.cons_cons _ ?_ | refine List.Sublist.cons _ ?_)) ?_; refine ⟨_, (val_ev rfl), ?_⟩; refine h_takeX 2 rfl (by kernel_rfl) rfl hG (by first | exact Ghost.le_refl _ | assumption) (by repeat' (first | exact List.nil_sublist _ | refine List.Sublist.cons_cons _ ?_ | refine List.Sublist.cons _ ?_)) ?_; refine ⟨_, (val_ev rfl), ?_⟩; refine h_takeX 3 rfl (by kernel_rfl) rfl hG (by first | exact Ghost.le_refl _ | assumption) (by repeat' (first | exact List.nil_sublist _ | refine List.Sublist.cons_cons _ ?_ | refine List.Sublist.cons _ ?_)) ?_; refine ⟨_, (val_fieldAddr rfl), ?_⟩; refine h_takeX 4 rfl (by kernel_rfl) rfl hG (by first | exact Ghost.le_refl _ | assumption) (by repeat' (first | exact List.nil_sublist _ | refine List.Sublist.cons_cons _ ?_ | refine List.Sublist.cons _ ?_)) ?_; refine ⟨_, (val_loadB1 1 rfl rfl rfl), ?_⟩; refine h_takeX 5 rfl (by kernel_rfl) rfl hG (by first | exact Ghost.le_refl _ | assumption) (by repeat' (first | exact List.nil_sublist _ | refine List.Sublist.cons_cons _ ?_ | refine List.Sublist.cons _ ?_)) ?_; refine ⟨_, (val_build rfl (by rfl)), ?_⟩
  refine h_one 6 (by kernel_rfl) rfl ?_
  refine r_storeA 1 rfl rfl rfl rfl (by rfl) (by repeat' (first | exact rfl | assumption | refine all_cons ?_ ?_)) rfl ?_; refine r_nn ?_
  refine h_kept hG (by first | exact Ghost.le_refl _ | assumption) (by repeat' (first | exact List.nil_sublist _ | refine List.Sublist.cons_cons _ ?_ | refine List.Sublist.cons _ ?_)) ?_
  refine h_one 7 (by kernel_rfl) rfl ?_
  refine r_ev rfl rfl ?_; refine r_nn ?_
  refine h_kept hG (by first | exact Ghost.le_refl _ | assumption) (by repeat' (first | exact List.nil_sublist _ | refine List.Sublist.cons_cons _ ?_ | refine List.Sublist.cons _ ?_)) ?_
  refine h_one 8 (by kernel_rfl) rfl ?_
  refine r_storeA 0 rfl rfl rfl rfl (by rfl) (by repeat' (first | exact rfl | assumption | refine all_cons ?_ ?_)) rfl ?_; refine r_nn ?_
  refine h_kept hG (by first | exact Ghost.le_refl _ | assumption) (by repeat' (first | exact List.nil_sublist _ | refine List.Sublist.cons_cons _ ?_ | refine List.Sublist.cons _ ?_)) ?_
  refine h_done (by kernel_rfl) ?_
  refine r_then_normal ?_; refine r_retc ?_
  exact r_ret3 [_] rfl (res_blk 1 rfl rfl (by rfl)) (.tmp rfl) (res_blk 0 rfl rfl (by rfl)) (.cons _ (.cons _ (.cons _ (List.Sublist.refl _)))) ⟨rfl, rfl, rfl⟩
theorem eresult_err (g : Ghost) (lv : Value) (b j : Nat) (p : Int) (tv er : Value) (t : Ex) (ht : ExV g tv t) (he : ErrV er) : PureO Tryz.prog 50 [ptr b 0, tv, er] g (rdE b lv j p) (.tuple #[noEv, .int .i64 0, .agg #[.int .i64 3, .int .i64 p]]) := by
  obtain ⟨a1, m1, c1, a2, m2, c2, a3, m3, c3, rfl, ht⟩ := ht.form
  refine spec_of_run Tryz.func50 rfl Tryz.ntmps50 rfl fun E hE => ?_
  refine r_sr ?_
  refine r_box rfl rfl rfl (fun b4 => ?_)
  refine r_alloc rfl (fun b6 => ?_)
  refine r_ev rfl rfl ?_
  refine r_alloc rfl (fun b8 => ?_)
  refine r_nn ?_; refine r_seq ?_; refine r_sr ?_; refine r_ev rfl rfl ?_; refine r_build rfl rfl (by rfl) ?_; refine r_mkIface rfl rfl ?_
  refine r_callP rfl rfl (eIs_err g er he) ?_
  refine r_nn ?_; refine r_cond_true rfl ?_; refine r_seq ?_
  refine h_beginE [1, 0] mixed (fun hG => ?_)
  refine h_takeX 0 rfl (by kernel_rfl) rfl hG (by first | exact Ghost.le_refl _ | assumption) (by repeat' (first | exact List.nil_sublist _ | refine List.Sublist.cons_cons _ ?_ | refine List.Sublist.cons _ ?_)) ?_; refine ⟨_, (val_build rfl (by rfl)), ?_⟩; refine h_takeX 1 rfl (by kernel_rfl) rfl hG (by first | exact Ghost.le_refl _ | assumption) (by repeat' (first | exact List.nil_sublist _ | refine List.Sublist.cons_cons _ ?_ | refine List.Sublist.cons _ ?_)) ?_; refine ⟨_, (val_ev rfl), ?_⟩; refine h_takeX 2 rfl (by kernel_rfl) rfl hG (by first | exact Ghost.le_refl _ | assumption) (by repeat' (first | exact List.nil_sublist _ | refine List.Sublist.cons_cons _ ?_ | refine List.Sublist.cons _ ?_)) ?_; refine ⟨_, (val_ev rfl), ?_⟩; refine h_takeX 3 rfl (by kernel_rfl) rfl hG (by first | exact Ghost.le_refl _ | assumption) (by repeat' (first | exact List.nil_sublist _ | refine List.Sublist.cons_cons _ ?_ | refine List.Sublist.cons _ ?_)) ?_; refine ⟨_, (val_fieldAddr rfl), ?_⟩; refine h_takeX 4 rfl (by kernel_rfl) rfl hG (by first | exact Ghost.le_refl _ | assumption) (by repeat' (first | exact List.nil_sublist _ | refine List.Sublist.cons_cons _ ?_ | refine List.Sublist.cons _ ?_)) ?_; refine ⟨_, (val_loadB1 1 rfl rfl rfl), ?_⟩; refine h_takeX 5 rfl (by kernel_rfl) rfl hG (by first | exact Ghost.le_refl _ | assumption) (by repeat' (first | exact List.nil_sublist _ | refine List.Sublist.cons_cons _ ?_ | refine List.Sublist.cons _ ?_)) ?_; refine ⟨_, (val_build rfl (by rfl)), ?_⟩
  refine h_one 6 (by kernel_rfl) rfl ?_
  refine r_storeA 1 rfl rfl rfl rfl (by rfl) (by repeat' (first | exact rfl | assumption | refine all_cons ?_ ?_)) rfl ?_; refine r_nn ?_
  refine h_kept hG (by first | exact Ghost.le_refl _ | assumption) (by repeat' (first | exact List.nil_sublist _ | refine List.Sublist.cons_cons _ ?_ | refine List.Sublist.cons _ ?_)) ?_
  refine h_one 7 (by kernel_rfl) rfl ?_
  refine r_ev rfl rfl ?_; refine r_nn ?_
  refine h_kept hG (by first | exact Ghost.le_refl _ | assumption) (by repeat' (first | exact List.nil_sublist _ | refine List.Sublist.cons_cons _ ?_ | refine List.Sublist.cons _ ?_)) ?_
  refine h_one 8 (by kernel_rfl) rfl ?_
  refine r_storeA 0 rfl rfl rfl rfl (by rfl) (by repeat' (first | exact rfl | assumption | refine all_cons ?_ ?_)) rfl ?_; refine r_nn ?_
  refine h_kept hG (by first | exact Ghost.le_refl _ | assumption) (by repeat' (first | exact List.nil_sublist _ | refine List.Sublist.cons_cons _ ?_ | refine List.Sublist.cons _ ?_)) ?_
  refine h_done (by kernel_rfl) ?_
  refine r_then_normal ?_; refine r_retc ?_; refine r_then_ret ?_
  exact r_ret3 [_] rfl (res_blk 1 rfl rfl (by rfl)) (.tmp rfl) (res_blk 0 rfl rfl (by rfl)) (.cons _ (.cons _ (.cons _ (List.Sublist.refl _)))) ⟨rfl, rfl, rfl⟩
theorem eExpr_spec {l : List Tok} (hb : TB l) (hkw : KW l) (g : Ghost) (hg : ErrT g) (v : Value) (i : Int) (hs : ToksAt g v l) : SpecN Tryz.prog 15 [v, .int .i64 i] g (eansPost (eread l .expr (idxOf l.length i))) := by
  have hi : idxOf l.length i ≤ l.length := by unfold idxOf; split <;> omega
  refine spec_of_run Tryz.func15 rfl Tryz.ntmps15 rfl fun E hE => ?_
  refine r_sr ?_
  refine r_alloc rfl (fun b4 => ?_)
  refine r_ev rfl rfl ?_
  refine r_alloc rfl (fun b6 => ?_)
  refine r_nn ?_; refine r_sr ?_; refine r_ev rfl rfl ?_; refine r_ev rfl rfl ?_
  refine r_call' (lent := []) (kept := _) rfl rfl (List.Perm.refl _) (estart_spec g l v hs i) ?_
  rintro w g1 own' ⟨rfl, b, rfl, rfl⟩ _
  refine r_ev rfl rfl ?_; refine r_nn ?_; refine r_sr ?_; refine r_ev rfl rfl ?_; refine r_ev rfl rfl ?_
  refine r_callL 0 rfl rfl rfl (eexpr_spec hb hkw v b g1 _ hg hs hi) ?_
  rintro w g2 r' hw hle
  cases hq : eread l .expr (idxOf l.length i) with
  | error p =>
    rw [hq] at hw
    obtain ⟨ev, e, er, rfl, he, her, j, hj, rfl⟩ := hw
    refine r_ev rfl rfl ?_; refine r_ev rfl rfl ?_
    refine r_callO 0 rfl rfl rfl (eresult_err g2 v b j p _ _ e he her) ?_
    refine r_ev rfl rfl ?_; refine r_ev rfl rfl ?_; refine r_ev rfl rfl ?_; refine r_storeA 2 rfl rfl rfl rfl (by rfl) (by repeat' (first | exact rfl | assumption | refine all_cons ?_ ?_)) rfl ?_; refine r_ev rfl rfl ?_; refine r_storeA 1 rfl rfl rfl rfl (by rfl) (by repeat' (first | exact rfl | assumption | refine all_cons ?_ ?_)) rfl ?_; refine r_nn ?_; refine r_retc ?_
    exact r_ret3 [] rfl (res_blk 2 rfl rfl (by rfl)) (.tmp rfl) (res_blk 1 rfl rfl (by rfl)) (by simp) ⟨⟨_, rfl, noE_V _⟩, rfl⟩
  | ok q =>
    obtain ⟨t, j⟩ := q
    rw [hq] at hw
    obtain ⟨ev, rfl, he, rfl, hj1, hj2⟩ := hw
    have he0 := he
    obtain ⟨a1, m1, c1, a2, m2, c2, a3, m3, c3, rfl, he'⟩ := he0.form
    refine r_ev rfl rfl ?_; refine r_ev rfl rfl ?_
    refine r_callO 0 rfl rfl rfl (eresult_ok g2 v b j _ t he) ?_
    refine r_ev rfl rfl ?_; refine r_ev rfl rfl ?_; refine r_ev rfl rfl ?_; refine r_storeA 2 rfl rfl rfl rfl (by rfl) (by repeat' (first | exact rfl | assumption | refine all_cons ?_ ?_)) rfl ?_; refine r_ev rfl rfl ?_; refine r_storeA 1 rfl rfl rfl rfl (by rfl) (by repeat' (first | exact rfl | assumption | refine all_cons ?_ ?_)) rfl ?_; refine r_nn ?_; refine r_retc ?_
    exact r_ret3 [] rfl (res_blk 2 rfl rfl (by rfl)) (.tmp rfl) (res_blk 1 rfl rfl (by rfl)) (by simp) ⟨⟨_, rfl, ⟨_, rfl, he'⟩⟩, rfl⟩
theorem eAtom_spec {l : List Tok} (hb : TB l) (hkw : KW l) (g : Ghost) (hg : ErrT g) (v : Value) (i : Int) (hs : ToksAt g v l) : SpecN Tryz.prog 21 [v, .int .i64 i] g (eansPost (eread l .atom (idxOf l.length i))) := by
  have hi : idxOf l.length i ≤ l.length := by unfold idxOf; split <;> omega
  refine spec_of_run Tryz.func21 rfl Tryz.ntmps21 rfl fun E hE => ?_
  refine r_sr ?_
  refine r_alloc rfl (fun b4 => ?_)
  refine r_ev rfl rfl ?_
  refine r_alloc rfl (fun b6 => ?_)
  refine r_nn ?_; refine r_sr ?_; refine r_ev rfl rfl ?_; refine r_ev rfl rfl ?_
  refine r_call' (lent := []) (kept := _) rfl rfl (List.Perm.refl _) (estart_spec g l v hs i) ?_
  rintro w g1 own' ⟨rfl, b, rfl, rfl⟩ _
  refine r_ev rfl rfl ?_; refine r_nn ?_; refine r_sr ?_; refine r_ev rfl rfl ?_; refine r_ev rfl rfl ?_
  refine r_callL 0 rfl rfl rfl (eatom_spec hb hkw v b g1 _ hg hs hi) ?_
  rintro w g2 r' hw hle
  cases hq : eread l .atom (idxOf l.length i) with
  | error p =>
    rw [hq] at hw
    obtain ⟨ev, e, er, rfl, he, her, j, hj, rfl⟩ := hw
    refine r_ev rfl rfl ?_; refine r_ev rfl rfl ?_
    refine r_callO 0 rfl rfl rfl (eresult_err g2 v b j p _ _ e he her) ?_
    refine r_ev rfl rfl ?_; refine r_ev rfl rfl ?_; refine r_ev rfl rfl ?_; refine r_storeA 2 rfl rfl rfl rfl (by rfl) (by repeat' (first | exact rfl | assumption | refine all_cons ?_ ?_)) rfl ?_; refine r_ev rfl rfl ?_; refine r_storeA 1 rfl rfl rfl rfl (by rfl) (by repeat' (first | exact rfl | assumption | refine all_cons ?_ ?_)) rfl ?_; refine r_nn ?_; refine r_retc ?_
    exact r_ret3 [] rfl (res_blk 2 rfl rfl (by rfl)) (.tmp rfl) (res_blk 1 rfl rfl (by rfl)) (by simp) ⟨⟨_, rfl, noE_V _⟩, rfl⟩
  | ok q =>
    obtain ⟨t, j⟩ := q
    rw [hq] at hw
    obtain ⟨ev, rfl, he, rfl, hj1, hj2⟩ := hw
    have he0 := he
    obtain ⟨a1, m1, c1, a2, m2, c2, a3, m3, c3, rfl, he'⟩ := he0.form
    refine r_ev rfl rfl ?_; refine r_ev rfl rfl ?_
    refine r_callO 0 rfl rfl rfl (eresult_ok g2 v b j _ t he) ?_
    refine r_ev rfl rfl ?_; refine r_ev rfl rfl ?_; refine r_ev rfl rfl ?_; refine r_storeA 2 rfl rfl rfl rfl (by rfl) (by repeat' (first | exact rfl | assumption | refine all_cons ?_ ?_)) rfl ?_; refine r_ev rfl rfl ?_; refine r_storeA 1 rfl rfl rfl rfl (by rfl) (by repeat' (first | exact rfl | assumption | refine all_cons ?_ ?_)) rfl ?_; refine r_nn ?_; refine r_retc ?_
    exact r_ret3 [] rfl (res_blk 2 rfl rfl (by rfl)) (.tmp rfl) (res_blk 1 rfl rfl (by rfl)) (by simp) ⟨⟨_, rfl, ⟨_, rfl, he'⟩⟩, rfl⟩
theorem edone_good (g : Ghost) (lv : Value) (b i : Nat) (tv : Value) (t : Ex) (ht : ExV g tv t) : PureO Tryz.prog 54 [ptr b 0, tv] g (rdB b lv (.good i)) (.tuple #[tv, .int .i64 i, .agg #[.int .i64 0, .int .i64 0]]) := by
  obtain ⟨a1, m1, c1, a2, m2, c2, a3, m3, c3, rfl, ht⟩ := ht.form
  refine spec_of_run Tryz.func54 rfl Tryz.ntmps54 rfl fun E hE => ?_
  refine r_sr ?_
  refine r_box rfl rfl rfl (fun b3 => ?_)
  refine r_alloc rfl (fun b4 => ?_)
  refine r_ev rfl rfl ?_
  refine r_alloc rfl (fun b6 => ?_)
  refine r_nn ?_; refine r_seq ?_; refine r_sr ?_; refine r_ev rfl rfl ?_; refine r_ev rfl rfl ?_; refine r_fieldAddr rfl rfl ?_; refine r_loadB1 3 rfl rfl rfl rfl ?_; refine r_nn ?_; refine r_cond_false rfl ?_; refine r_skip ?_; refine r_then_normal ?_; refine r_seq ?_
  refine h_beginE [1, 0] mixed (fun hG => ?_)
  refine h_takeX 0 rfl (by kernel_rfl) rfl hG (by first | exact Ghost.le_refl _ | assumption) (by repeat' (first | exact List.nil_sublist _ | refine List.Sublist.cons_cons _ ?_ | refine List.Sublist.cons _ ?_)) ?_; refine ⟨_, (val_loadB 0 rfl rfl (by rfl)), ?_⟩; refine h_takeX 1 rfl (by kernel_rfl) rfl hG (by first | exact Ghost.le_refl _ | assumption) (by repeat' (first | exact List.nil_sublist _ | refine List.Sublist.cons_cons _ ?_ | refine List.Sublist.cons _ ?_)) ?_; refine ⟨_, (val_ev rfl), ?_⟩; refine h_takeX 2 rfl (by kernel_rfl) rfl hG (by first | exact Ghost.le_refl _ | assumption) (by repeat' (first | exact List.nil_sublist _ | refine List.Sublist.cons_cons _ ?_ | refine List.Sublist.cons _ ?_)) ?_; refine ⟨_, (val_ev rfl), ?_⟩; refine h_takeX 3 rfl (by kernel_rfl) rfl hG (by first | exact Ghost.le_refl _ | assumption) (by repeat' (first | exact List.nil_sublist _ | refine List.Sublist.cons_cons _ ?_ | refine List.Sublist.cons _ ?_)) ?_; refine ⟨_, (val_fieldAddr rfl), ?_⟩; refine h_takeX 4 rfl (by kernel_rfl) rfl hG (by first | exact Ghost.le_refl _ | assumption) (by repeat' (first | exact List.nil_sublist _ | refine List.Sublist.cons_cons _ ?_ | refine List.Sublist.cons _ ?_)) ?_; refine ⟨_, (val_loadB1 1 rfl rfl rfl), ?_⟩; refine h_takeX 5 rfl (by kernel_rfl) rfl hG (by first | exact Ghost.le_refl _ | assumption) (by repeat' (first | exact List.nil_sublist _ | refine List.Sublist.cons_cons _ ?_ | refine List.Sublist.cons _ ?_)) ?_; refine ⟨_, (val_build rfl (by rfl)), ?_⟩
  refine h_one 6 (by kernel_rfl) rfl ?_
  refine r_storeA 1 rfl rfl rfl rfl (by rfl) (by repeat' (first | exact rfl | assumption | refine all_cons ?_ ?_)) rfl ?_; refine r_nn ?_
  refine h_kept hG (by first | exact Ghost.le_refl _ | assumption) (by repeat' (first | exact List.nil_sublist _ | refine List.Sublist.cons_cons _ ?_ | refine List.Sublist.cons _ ?_)) ?_
  refine h_one 7 (by kernel_rfl) rfl ?_
  refine r_ev rfl rfl ?_; refine r_nn ?_
  refine h_kept hG (by first | exact Ghost.le_refl _ | assumption) (by repeat' (first | exact List.nil_sublist _ | refine List.Sublist.cons_cons _ ?_ | refine List.Sublist.cons _ ?_)) ?_
  refine h_one 8 (by kernel_rfl) rfl ?_
  refine r_storeA 0 rfl rfl rfl rfl (by rfl) (by repeat' (first | exact rfl | assumption | refine all_cons ?_ ?_)) rfl ?_; refine r_nn ?_
  refine h_kept hG (by first | exact Ghost.le_refl _ | assumption) (by repeat' (first | exact List.nil_sublist _ | refine List.Sublist.cons_cons _ ?_ | refine List.Sublist.cons _ ?_)) ?_
  refine h_done (by kernel_rfl) ?_
  refine r_then_normal ?_; refine r_retc ?_
  exact r_ret3 [_] rfl (res_blk 1 rfl rfl (by rfl)) (.tmp rfl) (res_blk 0 rfl rfl (by rfl)) (.cons _ (.cons _ (.cons _ (List.Sublist.refl _)))) ⟨rfl, rfl, rfl⟩
theorem edone_bad (g : Ghost) (lv : Value) (b i : Nat) (p : Int) (tv : Value) (t : Ex) (ht : ExV g tv t) : PureO Tryz.prog 54 [ptr b 0, tv] g (rdB b lv (.bad i p)) (.tuple #[noEv, .int .i64 0, .agg #[.int .i64 3, .int .i64 p]]) := by
  obtain ⟨a1, m1, c1, a2, m2, c2, a3, m3, c3, rfl, ht⟩ := ht.form
  refine spec_of_run Tryz.func54 rfl Tryz.ntmps54 rfl fun E hE => ?_
  refine r_sr ?_
  refine r_box rfl rfl rfl (fun b3 => ?_)
  refine r_alloc rfl (fun b4 => ?_)
  refine r_ev rfl rfl ?_
  refine r_alloc rfl (fun b6 => ?_)
  refine r_nn ?_; refine r_seq ?_; refine r_sr ?_; refine r_ev rfl rfl ?_; refine r_ev rfl rfl ?_; refine r_fieldAddr rfl rfl ?_; refine r_loadB1 3 rfl rfl rfl rfl ?_; refine r_nn ?_; refine r_cond_true rfl ?_; refine r_seq ?_
  refine h_beginE [1, 0] mixed (fun hG => ?_)
  refine h_takeX 0 rfl (by kernel_rfl) rfl hG (by first | exact Ghost.le_refl _ | assumption) (by repeat' (first | exact List.nil_sublist _ | refine List.Sublist.cons_cons _ ?_ | refine List.Sublist.cons _ ?_)) ?_; refine ⟨_, (val_build rfl (by rfl)), ?_⟩; refine h_takeX 1 rfl (by kernel_rfl) rfl hG (by first | exact Ghost.le_refl _ | assumption) (by repeat' (first | exact List.nil_sublist _ | refine List.Sublist.cons_cons _ ?_ | refine List.Sublist.cons _ ?_)) ?_; refine ⟨_, (val_ev rfl), ?_⟩; refine h_takeX 2 rfl (by kernel_rfl) rfl hG (by first | exact Ghost.le_refl _ | assumption) (by repeat' (first | exact List.nil_sublist _ | refine List.Sublist.cons_cons _ ?_ | refine List.Sublist.cons _ ?_)) ?_; refine ⟨_, (val_ev rfl), ?_⟩; refine h_takeX 3 rfl (by kernel_rfl) rfl hG (by first | exact Ghost.le_refl _ | assumption) (by repeat' (first | exact List.nil_sublist _ | refine List.Sublist.cons_cons _ ?_ | refine List.Sublist.cons _ ?_)) ?_; refine ⟨_, (val_fieldAddr rfl), ?_⟩; refine h_takeX 4 rfl (by kernel_rfl) rfl hG (by first | exact Ghost.le_refl _ | assumption) (by repeat' (first | exact List.nil_sublist _ | refine List.Sublist.cons_cons _ ?_ | refine List.Sublist.cons _ ?_)) ?_; refine ⟨_, (val_loadB1 1 rfl rfl rfl), ?_⟩; refine h_takeX 5 rfl (by kernel_rfl) rfl hG (by first | exact Ghost.le_refl _ | assumption) (by repeat' (first | exact List.nil_sublist _ | refine List.Sublist.cons_cons _ ?_ | refine List.Sublist.cons _ ?_)) ?_; refine ⟨_, (val_build rfl (by rfl)), ?_⟩
  refine h_one 6 (by kernel_rfl) rfl ?_
  refine r_storeA 1 rfl rfl rfl rfl (by rfl) (by repeat' (first | exact rfl | assumption | refine all_cons ?_ ?_)) rfl ?_; refine r_nn ?_
  refine h_kept hG (by first | exact Ghost.le_refl _ | assumption) (by repeat' (first | exact List.nil_sublist _ | refine List.Sublist.cons_cons _ ?_ | refine List.Sublist.cons _ ?_)) ?_
  refine h_one 7 (by kernel_rfl) rfl ?_
  refine r_ev rfl rfl ?_; refine r_nn ?_
  refine h_kept hG (by first | exact Ghost.le_refl _ | assumption) (by repeat' (first | exact List.nil_sublist _ | refine List.Sublist.cons_cons _ ?_ | refine List.Sublist.cons _ ?_)) ?_
  refine h_one 8 (by kernel_rfl) rfl ?_
  refine r_storeA 0 rfl rfl rfl rfl (by rfl) (by repeat' (first | exact rfl | assumption | refine all_cons ?_ ?_)) rfl ?_; refine r_nn ?_
  refine h_kept hG (by first | exact Ghost.le_refl _ | assumption) (by repeat' (first | exact List.nil_sublist _ | refine List.Sublist.cons_cons _ ?_ | refine List.Sublist.cons _ ?_)) ?_
  refine h_done (by kernel_rfl) ?_
  refine r_then_normal ?_; refine r_retc ?_; refine r_then_ret ?_
  exact r_ret3 [_] rfl (res_blk 1 rfl rfl (by rfl)) (.tmp rfl) (res_blk 0 rfl rfl (by rfl)) (.cons _ (.cons _ (.cons _ (List.Sublist.refl _)))) ⟨rfl, rfl, rfl⟩
theorem r6Expr_spec {l : List Tok} (hb : TB l) (hkw : KW l) (g : Ghost) (v : Value) (i : Int) (hs : ToksAt g v l) : SpecN Tryz.prog 17 [v, .int .i64 i] g (eansPost (eread l .expr (idxOf l.length i))) := by
  have hi : idxOf l.length i ≤ l.length := by unfold idxOf; split <;> omega
  refine spec_of_run Tryz.func17 rfl Tryz.ntmps17 rfl fun E hE => ?_
  refine r_sr ?_
  refine r_alloc rfl (fun b4 => ?_)
  refine r_ev rfl rfl ?_
  refine r_alloc rfl (fun b6 => ?_)
  refine r_nn ?_; refine r_sr ?_; refine r_ev rfl rfl ?_; refine r_ev rfl rfl ?_
  refine r_call' (lent := []) (kept := _) rfl rfl (List.Perm.refl _) (New5_spec g l v hs i) ?_
  rintro w g1 own' ⟨rfl, b, rfl, rfl⟩ _
  refine r_ev rfl rfl ?_; refine r_nn ?_; refine r_sr ?_; refine r_ev rfl rfl ?_; refine r_ev rfl rfl ?_
  refine r_callL 0 rfl rfl rfl (Read6_spec hb hkw g1 v b _ hs hi) ?_
  rintro w g2 r' hw hle
  cases hq : eread l .expr (idxOf l.length i) with
  | error p =>
    rw [hq] at hw
    obtain ⟨⟨t, hty⟩, j, hj, rfl⟩ := hw
    have hty0 := hty
    obtain ⟨a1, m1, c1, a2, m2, c2, a3, m3, c3, rfl, hty'⟩ := hty0.form
    skip
    refine r_callO 0 rfl rfl rfl (edone_bad g2 v b j p _ t hty) ?_
    refine r_ev rfl rfl ?_; refine r_ev rfl rfl ?_; refine r_ev rfl rfl ?_; refine r_storeA 2 rfl rfl rfl rfl (by rfl) (by repeat' (first | exact rfl | assumption | refine all_cons ?_ ?_)) rfl ?_; refine r_ev rfl rfl ?_; refine r_storeA 1 rfl rfl rfl rfl (by rfl) (by repeat' (first | exact rfl | assumption | refine all_cons ?_ ?_)) rfl ?_; refine r_nn ?_; refine r_retc ?_
    exact r_ret3 [] rfl (res_blk 2 rfl rfl (by rfl)) (.tmp rfl) (res_blk 1 rfl rfl (by rfl)) (by simp) ⟨⟨_, rfl, noE_V _⟩, rfl⟩
  | ok q =>
    obtain ⟨t, j⟩ := q
    rw [hq] at hw
    obtain ⟨hty, rfl, hj1, hj2⟩ := hw
    have hty0 := hty
    obtain ⟨a1, m1, c1, a2, m2, c2, a3, m3, c3, rfl, hty'⟩ := hty0.form
    skip
    refine r_callO 0 rfl rfl rfl (edone_good g2 v b j _ t hty) ?_
    refine r_ev rfl rfl ?_; refine r_ev rfl rfl ?_; refine r_ev rfl rfl ?_; refine r_storeA 2 rfl rfl rfl rfl (by rfl) (by repeat' (first | exact rfl | assumption | refine all_cons ?_ ?_)) rfl ?_; refine r_ev rfl rfl ?_; refine r_storeA 1 rfl rfl rfl rfl (by rfl) (by repeat' (first | exact rfl | assumption | refine all_cons ?_ ?_)) rfl ?_; refine r_nn ?_; refine r_retc ?_
    exact r_ret3 [] rfl (res_blk 2 rfl rfl (by rfl)) (.tmp rfl) (res_blk 1 rfl rfl (by rfl)) (by simp) ⟨⟨_, rfl, ⟨_, rfl, hty'⟩⟩, rfl⟩
end Go.Proofs.YtcapgcohhgjngaaGreatDoor
-- sum eb935ab890523882
/- The walks of chapter 6's laws: scan, words. -/
namespace Go.Proofs.YtcapgcohhgjngaaGreatDoor
open Go Go.Eng Go.Th Go.Proofs
set_option maxRecDepth 10000
set_option maxHeartbeats 4000000
attribute [local irreducible] wpList Code.wp Run bodyPost Go.Eng.Ends Exit.then Exit.inBlock Again Wq Kq
instance : Pair Tryz.prog 43 := ⟨by kernel_rfl⟩
theorem toksOf_TB (s : Bytes) : TB (toksOf s) := by
  obtain ⟨h1, h2⟩ := toksOf_facts s
  refine ⟨by omega, fun t ht => ?_⟩
  obtain ⟨a1, a2, a3, a4⟩ := h2 t ht
  exact ⟨by omega, by omega, by omega⟩
theorem toksOf_KW (s : Bytes) : KW (toksOf s) := fun t ht => ((toksOf_facts s).2 t ht).1
theorem scan6_spec (g : Ghost) (s : Bytes) (hs : s.length ≤ 9223372036854775807) : SpecN Tryz.prog 13 [str s] g fun v g' => ToksAt g' v (toksOf s) := by
  refine spec_of_run Tryz.func13 rfl Tryz.ntmps13 rfl fun E hE => ?_
  refine r_sr ?_
  refine r_ev rfl rfl ?_; refine r_nn ?_; refine r_sr ?_; refine r_ev rfl rfl ?_
  refine r_call rfl rfl (refScan_spec g s hs) ?_
  rintro v g' own' ⟨rfl, hp⟩ _
  cases hsc : scan s with
  | ok l =>
    rw [hsc] at hp
    obtain ⟨sv, rfl, rfl⟩ := hp
    refine r_publishRow (fun g1 hg1 h1 => ?_)
    obtain ⟨a, m, c, rfl⟩ := SlAt.form h1
    refine r_ev rfl rfl ?_; refine r_ev rfl rfl ?_; refine r_ev rfl rfl ?_
    refine r_alloc rfl (fun b4 => ?_)
    refine r_ev rfl rfl ?_; refine r_storeA 0 rfl rfl rfl rfl (by rfl) (by repeat' (first | exact rfl | assumption | refine all_cons ?_ ?_)) rfl ?_; refine r_nn ?_; refine r_sr ?_; refine r_ev rfl rfl ?_; refine r_ev rfl rfl ?_; refine r_nn ?_; refine r_retc ?_
    exact r_ret1 [] rfl rfl (by simp) ⟨by unfold toksOf; rw [hsc]; exact h1, rfl⟩
  | bad e p =>
    rw [hsc] at hp
    obtain ⟨rfl, rfl⟩ := hp
    refine r_ev rfl rfl ?_; refine r_ev rfl rfl ?_; refine r_ev rfl rfl ?_
    refine r_alloc rfl (fun b4 => ?_)
    refine r_ev rfl rfl ?_; refine r_storeA 0 rfl rfl rfl rfl (by rfl) (by repeat' (first | exact rfl | assumption | refine all_cons ?_ ?_)) rfl ?_; refine r_nn ?_; refine r_sr ?_; refine r_ev rfl rfl ?_; refine r_ev rfl rfl ?_; refine r_nn ?_; refine r_retc ?_
    exact r_ret1 [] rfl rfl (by simp) ⟨by unfold toksOf; rw [hsc]; exact slNil g' 3, rfl⟩
theorem scan6_row (g : Ghost) (s : Bytes) (hs : s.length ≤ 9223372036854775807) : Eng.Spec Tryz.prog 13 [str s] g [] fun v g' own' => g' = g ∧ own' = [.row 101 3 v (toksOf s).length ((toksOf s).flatMap tokCells)] := by
  refine spec_of_run Tryz.func13 rfl Tryz.ntmps13 rfl fun E hE => ?_
  refine r_sr ?_
  refine r_ev rfl rfl ?_; refine r_nn ?_; refine r_sr ?_; refine r_ev rfl rfl ?_
  refine r_call rfl rfl (refScan_spec g s hs) ?_
  rintro v g' own' ⟨rfl, hp⟩ _
  cases hsc : scan s with
  | ok l =>
    rw [hsc] at hp
    obtain ⟨sv, rfl, rfl⟩ := hp
    refine r_rowForm 0 rfl ?_
    rintro ⟨a, m, c, rfl⟩
    refine r_ev rfl rfl ?_; refine r_ev rfl rfl ?_; refine r_ev rfl rfl ?_
    refine r_alloc rfl (fun b4 => ?_)
    refine r_ev rfl rfl ?_; refine r_storeA 0 rfl rfl rfl rfl (by rfl) (by repeat' (first | exact rfl | assumption | refine all_cons ?_ ?_)) rfl ?_; refine r_nn ?_; refine r_sr ?_; refine r_ev rfl rfl ?_; refine r_ev rfl rfl ?_; refine r_nn ?_; refine r_retc ?_
    exact r_ret1 [_] rfl rfl (.cons _ (List.Sublist.refl _)) ⟨rfl, by unfold toksOf; rw [hsc]; rfl⟩
  | bad e p =>
    rw [hsc] at hp
    obtain ⟨rfl, rfl⟩ := hp
    refine r_ev rfl rfl ?_; refine r_ev rfl rfl ?_; refine r_ev rfl rfl ?_
    refine r_alloc rfl (fun b4 => ?_)
    refine r_ev rfl rfl ?_; refine r_storeA 0 rfl rfl rfl rfl (by rfl) (by repeat' (first | exact rfl | assumption | refine all_cons ?_ ?_)) rfl ?_; refine r_nn ?_; refine r_sr ?_; refine r_ev rfl rfl ?_; refine r_ev rfl rfl ?_; refine r_nn ?_; refine r_retc ?_
    refine r_nilRow 101 3 ?_
    exact r_ret1 [_] rfl rfl (.cons_cons _ (List.nil_sublist _)) ⟨rfl, by unfold toksOf; rw [hsc]; rfl⟩
def pieces6 : List Bytes := [[120], [102], [67, 111, 110, 115], [78, 105, 108], [51], [92], [46], [108, 101, 116], [114, 101, 99], [61], [105, 110], [99, 97, 115, 101], [111, 102], [124], [101, 110, 100], [40], [41], [123], [125], [63], [58], [73, 110, 116], [45, 62], [59], [92, 32, 120, 32, 46], [108, 101, 116, 32, 120, 32, 61], [99, 97, 115, 101, 32, 120, 32, 111, 102], [78, 105, 108, 32, 46]]
def word6 (k : Int) : Bytes := pieces6.getD (modI k 28).toNat [] ++ [32]
def words6 (l : List Int) : Bytes := l.flatMap word6
theorem word6_len (k : Int) : (word6 k).length ≤ 10 := by
  unfold word6
  rw [List.getD_eq_getElem?_getD, List.length_append]
  cases h : pieces6[(modI k 28).toNat]? with
  | none => simp
  | some x =>
    have : ∀ x ∈ pieces6, x.length ≤ 9 := by decide
    have := this x (List.mem_of_getElem? h)
    simp
    omega
theorem words6_len (l : List Int) : (words6 l).length ≤ 10 * l.length := by
  induction l with
  | nil => simp [words6]
  | cons x r ih =>
    have := word6_len x
    simp only [words6, List.flatMap_cons, List.length_append, List.length_cons] at ih ⊢
    omega
theorem words6_succ {l : List Int} {k : Nat} (h : k < l.length) : words6 (l.take (k + 1)) = words6 (l.take k) ++ word6 l[k] := by
  rw [List.take_succ_eq_append_getElem h, words6, List.flatMap_append]; simp [words6]
def ints (l : List Int) : List Value := l.map (Value.int .i64)
theorem words6_spec (g : Ghost) (v : Value) (l : List Int) (hl : l.length ≤ 1000) (hs : SlAt g 1 v l.length (ints l)) : SpecN Tryz.prog 52 [v] g fun v' g' => ToksAt g' v' (toksOf (words6 l)) := by
  refine spec_of_run Tryz.func52 rfl Tryz.ntmps52 rfl fun E hE => ?_
  refine r_sr ?_; refine r_ev rfl rfl ?_; refine r_nn ?_; refine r_sr ?_
  refine r_buildSlice rfl rfl (by rfl) (by rfl) (by rfl) (by rfl) (by rfl) (fun b3 => ?_)
  refine r_ev rfl rfl ?_; refine r_nn ?_; refine r_sr ?_; refine r_ev rfl rfl ?_; refine r_nn ?_; refine r_seq ?_; refine r_sr ?_; refine r_ev rfl rfl ?_; refine r_nn ?_; refine r_block ?_
  refine r_loop (ι := Nat) (fun k => [(0, v), (3, .slice (some ⟨b3, 0, none⟩) 28 28), (4, str (words6 (l.take k))), (5, .int .i64 k)]) (fun _ => g) (fun _ => [.row 9 1 (.slice (some ⟨b3, 0, none⟩) 28 28) 28 (pieces6.map str)]) (fun k => k ≤ l.length) (fun k => l.length - k) 0 (by omega) ⟨rfl, rfl, rfl, rfl, trivial⟩ rfl rfl ?_
  intro k hk
  refine r_seq ?_; refine r_sr ?_; refine r_ev rfl rfl ?_; refine r_ev rfl rfl ?_; refine r_len_at rfl rfl (by assumption) ?_; refine r_ev rfl rfl ?_; refine r_nn ?_
  refine r_cond rfl (fun hlt => ?_) (fun hlt => ?_)
  · have hlt' : k < l.length := by omega
    have hlen := words6_len (l.take k)
    rw [List.length_take] at hlen
    have hlw := word6_len l[k]
    obtain ⟨b, off, cap, rfl, hx⟩ := hs.held hlt'
    have hm : 0 ≤ modI l[k] 28 ∧ modI l[k] 28 < 28 := by unfold modI; rw [if_neg (by omega)]; omega
    refine r_skip ?_; refine r_then_normal ?_; refine r_seq ?_; refine r_block ?_; refine r_region ?_; refine r_ev rfl rfl ?_; refine r_ev rfl rfl ?_; refine r_ev rfl rfl ?_; refine r_ev rfl rfl ?_; refine r_indexAddr rfl rfl rfl rfl (by omega) ?_
    refine r_load1 rfl rfl (v := .int .i64 l[k]) (rd_g1 (hx (k * 1) _ (by simp [ints, hlt']))) ?_
    refine r_ev rfl rfl ?_; refine r_len_sl rfl rfl ?_
    refine r_callP rfl rfl (Mod_spec g l[k] 28 (by omega)) ?_
    skip
    refine r_indexAddr (j := (modI l[k] 28).toNat) rfl rfl rfl (by omega) (by omega) ?_
    refine r_load1 rfl rfl (v := str (pieces6.getD (modI l[k] 28).toNat [])) (rd_row1 0 rfl ?_) ?_
    · have hl : (modI l[k] 28).toNat < pieces6.length := by show _ < 28; omega
      rw [show 0 + (modI l[k] 28).toNat * 1 = (modI l[k] 28).toNat by omega, List.getElem?_map, List.getElem?_eq_getElem hl]
      simp only [List.getD_eq_getElem?_getD, List.getElem?_eq_getElem hl]
      rfl
    skip
    have hw5 : (pieces6.getD (modI l[k] 28).toNat [] ++ [32]).length ≤ 10 := hlw
    refine r_add_str rfl rfl rfl (by simp at hw5 ⊢; omega) ?_
    refine r_add_str rfl rfl rfl (by simp at hw5 ⊢; omega) ?_
    refine r_ev rfl rfl ?_; refine r_nil ?_; refine r_in_normal ?_; refine r_then_normal ?_; refine r_region ?_; refine r_ev rfl rfl ?_; refine r_add rfl rfl rfl (by omega) ?_; refine r_ev rfl rfl ?_; refine r_nn ?_
    exact r_again (k + 1) (by omega) (by omega) ⟨rfl, rfl, by rw [words6_succ hlt']; rfl, rfl, trivial⟩ rfl rfl
  · have hkl : k = l.length := by omega
    subst hkl
    have hlen := words6_len l
    refine r_exit ?_; refine r_then_exit ?_; refine r_then_exit ?_; refine r_in_exit ?_; refine r_then_normal ?_; refine r_sr ?_; refine r_ev rfl rfl ?_
    rw [List.take_length]
    refine r_callN rfl rfl (scan6_spec g (words6 l) (by omega)) ?_
    rintro w g1 hw hle
    obtain ⟨a, m, c, rfl⟩ := SlAt.form hw
    refine r_ev rfl rfl ?_; refine r_nn ?_; refine r_retc ?_
    exact r_ret1 [] rfl rfl (by simp) ⟨hw, rfl⟩
theorem words6_row (g : Ghost) (v : Value) (l : List Int) (hl : l.length ≤ 1000) (hs : SlAt g 1 v l.length (ints l)) : Eng.Spec Tryz.prog 52 [v] g [] fun v' g' own' => g' = g ∧ own' = [.row 101 3 v' (toksOf (words6 l)).length ((toksOf (words6 l)).flatMap tokCells)] := by
  refine spec_of_run Tryz.func52 rfl Tryz.ntmps52 rfl fun E hE => ?_
  refine r_sr ?_; refine r_ev rfl rfl ?_; refine r_nn ?_; refine r_sr ?_
  refine r_buildSlice rfl rfl (by rfl) (by rfl) (by rfl) (by rfl) (by rfl) (fun b3 => ?_)
  refine r_ev rfl rfl ?_; refine r_nn ?_; refine r_sr ?_; refine r_ev rfl rfl ?_; refine r_nn ?_; refine r_seq ?_; refine r_sr ?_; refine r_ev rfl rfl ?_; refine r_nn ?_; refine r_block ?_
  refine r_loop (ι := Nat) (fun k => [(0, v), (3, .slice (some ⟨b3, 0, none⟩) 28 28), (4, str (words6 (l.take k))), (5, .int .i64 k)]) (fun _ => g) (fun _ => [.row 9 1 (.slice (some ⟨b3, 0, none⟩) 28 28) 28 (pieces6.map str)]) (fun k => k ≤ l.length) (fun k => l.length - k) 0 (by omega) ⟨rfl, rfl, rfl, rfl, trivial⟩ rfl rfl ?_
  intro k hk
  refine r_seq ?_; refine r_sr ?_; refine r_ev rfl rfl ?_; refine r_ev rfl rfl ?_; refine r_len_at rfl rfl (by assumption) ?_; refine r_ev rfl rfl ?_; refine r_nn ?_
  refine r_cond rfl (fun hlt => ?_) (fun hlt => ?_)
  · have hlt' : k < l.length := by omega
    have hlen := words6_len (l.take k)
    rw [List.length_take] at hlen
    have hlw := word6_len l[k]
    obtain ⟨b, off, cap, rfl, hx⟩ := hs.held hlt'
    have hm : 0 ≤ modI l[k] 28 ∧ modI l[k] 28 < 28 := by unfold modI; rw [if_neg (by omega)]; omega
    refine r_skip ?_; refine r_then_normal ?_; refine r_seq ?_; refine r_block ?_; refine r_region ?_; refine r_ev rfl rfl ?_; refine r_ev rfl rfl ?_; refine r_ev rfl rfl ?_; refine r_ev rfl rfl ?_; refine r_indexAddr rfl rfl rfl rfl (by omega) ?_
    refine r_load1 rfl rfl (v := .int .i64 l[k]) (rd_g1 (hx (k * 1) _ (by simp [ints, hlt']))) ?_
    refine r_ev rfl rfl ?_; refine r_len_sl rfl rfl ?_
    refine r_callP rfl rfl (Mod_spec g l[k] 28 (by omega)) ?_
    skip
    refine r_indexAddr (j := (modI l[k] 28).toNat) rfl rfl rfl (by omega) (by omega) ?_
    refine r_load1 rfl rfl (v := str (pieces6.getD (modI l[k] 28).toNat [])) (rd_row1 0 rfl ?_) ?_
    · have hl : (modI l[k] 28).toNat < pieces6.length := by show _ < 28; omega
      rw [show 0 + (modI l[k] 28).toNat * 1 = (modI l[k] 28).toNat by omega, List.getElem?_map, List.getElem?_eq_getElem hl]
      simp only [List.getD_eq_getElem?_getD, List.getElem?_eq_getElem hl]
      rfl
    skip
    have hw5 : (pieces6.getD (modI l[k] 28).toNat [] ++ [32]).length ≤ 10 := hlw
    refine r_add_str rfl rfl rfl (by simp at hw5 ⊢; omega) ?_
    refine r_add_str rfl rfl rfl (by simp at hw5 ⊢; omega) ?_
    refine r_ev rfl rfl ?_; refine r_nil ?_; refine r_in_normal ?_; refine r_then_normal ?_; refine r_region ?_; refine r_ev rfl rfl ?_; refine r_add rfl rfl rfl (by omega) ?_; refine r_ev rfl rfl ?_; refine r_nn ?_
    exact r_again (k + 1) (by omega) (by omega) ⟨rfl, rfl, by rw [words6_succ hlt']; rfl, rfl, trivial⟩ rfl rfl
  · have hkl : k = l.length := by omega
    subst hkl
    have hlen := words6_len l
    refine r_exit ?_; refine r_then_exit ?_; refine r_then_exit ?_; refine r_in_exit ?_; refine r_then_normal ?_; refine r_sr ?_; refine r_ev rfl rfl ?_
    rw [List.take_length]
    refine r_call' (lent := []) (kept := _) rfl rfl (List.Perm.refl _) (scan6_row g (words6 l) (by omega)) ?_
    rintro w g1 own' ⟨rfl, rfl⟩ hle
    refine r_rowForm 0 rfl ?_
    rintro ⟨a, m, c, rfl⟩
    refine r_ev rfl rfl ?_; refine r_nn ?_; refine r_retc ?_
    exact r_ret1 [_] rfl rfl (.cons_cons _ (List.nil_sublist _)) ⟨rfl, rfl⟩
end Go.Proofs.YtcapgcohhgjngaaGreatDoor
-- sum 669e8da9116f031c

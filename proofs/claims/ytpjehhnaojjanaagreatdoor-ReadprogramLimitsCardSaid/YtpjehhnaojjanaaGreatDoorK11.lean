/- errors.Is at readexpr's two kinds of error: the walk. -/
import Derived.Test.YtpjehhnaojjanaaGreatDoorK9
import Derived.Test.YtpjehhnaojjanaaGreatDoorExN
import Derived.Test.YtpjehhnaojjanaaGreatDoorK8
import Derived.Test.YtpjehhnaojjanaaGreatDoorK6
import Derived.Test.YtpjehhnaojjanaaGreatDoorK7
namespace Go.Eng
open Go Go.RowKit
section
variable {P : Program} {E : Env} {n : Nat} {L : Slots} {g : Ghost} {own : List Res}
variable {d : Nat} {ty : TypeId} {pos : String} {after : Array Edge}
theorem val_eql_ifs {x y : Operand} {T T' t t' : TypeId} {u u' : Value} {r : Bool} (hx : ev L x = some (.iface t u)) (hy : ev L y = some (.iface t' u')) (h : ∀ w, (Op.equal T (.iface t u) (.iface t' u')).run P w = .ok r w) :
  Val P E n L g own ty (.binOp .eql T x y T') (.bool r) := fun a w dst pos after hF _ => by
 simp [execOp, hF.eval hx, hF.eval hy, eqGuard, binOp, h]
theorem val_eql_nilif {x y : Operand} {T T' t' : TypeId} {u' : Value} {r : Bool} (hx : ev L x = some .nilIface) (hy : ev L y = some (.iface t' u')) (h : ∀ w, (Op.equal T .nilIface (.iface t' u')).run P w = .ok r w) :
  Val P E n L g own ty (.binOp .eql T x y T') (.bool r) := fun a w dst pos after hF _ => by
 simp [execOp, hF.eval hx, hF.eval hy, eqGuard, binOp, h]
end
end Go.Eng
namespace Go.Proofs.YtpjehhnaojjanaaGreatDoor
open Go Go.Eng Go.Th Go.Proofs Go.Extern Go.RowKit
set_option maxRecDepth 10000
set_option maxHeartbeats 4000000
attribute [local irreducible] wpList Code.wp Run bodyPost Go.Eng.Ends Exit.then Exit.inBlock Again Wq Kq
instance : Ext Tryz.prog 296 (ReflectliteType.method fun t => do Rtype.noPackHeld "Comparable" t; pure (.bool (← typeInfo t).comparable)) := ⟨_, Tryz.func296, by kernel_rfl, by kernel_rfl, by kernel_rfl, by kernel_rfl⟩
theorem is_to (v : Value) (w : World) : (ReflectliteType.typeOf #[.iface 183 v]).run Tryz.prog w = .ok (rty 183) w := by kernel_rfl
theorem is_mCmp (h : Value) (w : World) : (Go.method (Tryz.prog.types.size + Made.depth) 253 (.agg #[h]) "Comparable").run Tryz.prog w = .ok (296, .agg #[h]) w := by kernel_rfl
theorem is_cmp (w : World) : (ReflectliteType.method (fun t => do Rtype.noPackHeld "Comparable" t; pure (.bool (← typeInfo t).comparable)) #[.agg #[hnd 183]]).run Tryz.prog w = .ok (.bool true) w := by kernel_rfl
theorem is_eq1 (s : Value) (w : World) : (Op.equal 153 (.iface 282 (.agg #[s])) (.iface 183 (.agg #[]))).run Tryz.prog w = .ok false w := by kernel_rfl
theorem is_eq2 (w : World) : (Op.equal 153 (.iface 183 (.agg #[])) (.iface 183 (.agg #[]))).run Tryz.prog w = .ok true w := by kernel_rfl
theorem is_eq3 (w : World) : (Op.equal 153 .nilIface (.iface 183 (.agg #[]))).run Tryz.prog w = .ok false w := by kernel_rfl
theorem is_mUnw (s : Value) (w : World) : (Go.method (Tryz.prog.types.size + Made.depth) 282 (.agg #[s]) "Unwrap").run Tryz.prog w = .ok (306, .agg #[s]) w := by kernel_rfl
theorem is_ta1 (v : Value) (w : World) : (Instr.typeAssert (.iface 282 v) 153 265 true).run Tryz.prog w = .ok (.tuple #[.nilIface, .bool false]) w :=
 run_typeAssert_lacksB Tryz.underlying265 (by kernel_rfl) (by kernel_rfl) v _ w
theorem is_ta2 (v : Value) (w : World) : (Instr.typeAssert (.iface 282 v) 153 260 true).run Tryz.prog w = .ok (.tuple #[.iface 282 v, .bool true]) w :=
 run_typeAssert_hasB Tryz.underlying260 (by kernel_rfl) v _ w
theorem munwrap_spec (g : Ghost) (w : Bytes) : Pure Tryz.prog 306 [.agg #[str w]] g unexpV := by
 refine spec_of_run Tryz.func306 rfl Tryz.ntmps306 rfl fun E hE => ?_
 refine r_sr ?_
 refine r_box rfl rfl rfl (fun b1 => ?_)
 refine r_ev rfl rfl <| r_nn <| r_sr <| r_build rfl rfl (by rfl) ?_; refine r_mkIface rfl rfl <| r_ev rfl rfl <| r_nn <| r_retc ?_
 exact r_ret1 [] rfl rfl (by simp) ⟨rfl, rfl, rfl⟩
theorem eis_unexp (g : Ghost) : Pure Tryz.prog 186 [unexpV, unexpV, .bool true] g (.bool true) := by
 refine spec_of_run Tryz.func186 rfl Tryz.ntmps186 rfl fun E hE => ?_
 refine r_sr <| r_ev rfl rfl <| r_nn <| r_block ?_
 refine r_loop (ι := Unit) (fun _ => [(0, unexpV), (1, unexpV), (2, .bool true)]) (fun _ => g) (fun _ => []) (fun _ => True) (fun _ => 0) () trivial ⟨rfl, rfl, rfl, trivial⟩ rfl rfl ?_
 rintro _ -
 refine r_block <| r_seq <| r_sr <| r_ev rfl rfl <| r_ev rfl rfl <| r_tev rfl rfl rfl <| r_tev rfl rfl rfl <| r_take rfl ?_
 refine r_v rfl (val_eql_ifs rfl rfl is_eq2) ?_
 refine r_ev rfl rfl <| r_nn <| r_cond_true rfl <| r_sr <| r_ev rfl rfl <| r_nn <| r_retc <| r_then_ret <| r_in_ret <| r_then_ret <| r_in_ret ?_
 exact r_ret1 [] rfl rfl (by simp) ⟨rfl, rfl, rfl⟩
theorem eis_miss (g : Ghost) (s : Bytes) : Pure Tryz.prog 186 [missV s, unexpV, .bool true] g (.bool true) := by
 refine spec_of_run Tryz.func186 rfl Tryz.ntmps186 rfl fun E hE => ?_
 refine r_sr <| r_ev rfl rfl <| r_nn <| r_block ?_
 refine r_loop (ι := Bool) (fun c => [(0, if c then unexpV else missV s), (1, unexpV), (2, .bool true)]) (fun _ => g) (fun _ => []) (fun _ => True) (fun c => if c then 0 else 1) false trivial ⟨rfl, rfl, rfl, trivial⟩ rfl rfl ?_
 rintro c -
 cases c with
 | false =>
  show Run E _ [(0, missV s), (1, unexpV), (2, .bool true)] g [] _
  refine r_block <| r_seq <| r_sr <| r_ev rfl rfl <| r_ev rfl rfl <| r_tev rfl rfl rfl <| r_tev rfl rfl rfl <| r_take rfl ?_
  refine r_v rfl (val_eql_ifs rfl rfl (is_eq1 _)) ?_
  refine r_ev rfl rfl <| r_nn <| r_cond_false rfl <| r_skip <| r_then_normal <| r_seq <| r_sr <| r_ev rfl rfl ?_
  refine r_v rfl (val_tassert rfl (is_ta1 _)) ?_
  refine r_ev rfl rfl <| r_ev rfl rfl <| r_ev rfl rfl <| r_ev rfl rfl <| r_ev rfl rfl <| r_nn <| r_sr <| r_ev rfl rfl <| r_ev rfl rfl <| r_pass rfl rfl rfl <| r_pass rfl rfl rfl <| r_pass rfl rfl rfl <| r_ev rfl rfl <| r_nn ?_; refine r_cond_false rfl <| r_skip <| r_then_normal <| r_sr <| r_ev rfl rfl <| r_nn <| r_block <| r_sr ?_
  refine r_v rfl (val_tassert rfl (is_ta2 _)) ?_
  refine r_ev rfl rfl <| r_ev rfl rfl <| r_nn <| r_cond_true rfl <| r_sr <| r_ev rfl rfl <| r_nn <| r_sr <| r_ev rfl rfl ?_
  refine r_invokeP rfl rfl rfl (is_mUnw _) (munwrap_spec g s) ?_
  refine r_ev rfl rfl <| r_nn <| r_sr <| r_ev rfl rfl <| r_eql_nil_held rfl rfl <| r_nn <| r_cond_false rfl <| r_skip <| r_in_normal <| r_in_normal <| r_then_normal ?_
  exact r_again true trivial (by decide) ⟨rfl, rfl, rfl, trivial⟩ rfl rfl
 | true =>
  show Run E _ [(0, unexpV), (1, unexpV), (2, .bool true)] g [] _
  refine r_block <| r_seq <| r_sr <| r_ev rfl rfl <| r_ev rfl rfl <| r_tev rfl rfl rfl <| r_tev rfl rfl rfl <| r_take rfl ?_
  refine r_v rfl (val_eql_ifs rfl rfl is_eq2) ?_
  refine r_ev rfl rfl <| r_nn <| r_cond_true rfl <| r_sr <| r_ev rfl rfl <| r_nn <| r_retc <| r_then_ret <| r_in_ret <| r_then_ret <| r_in_ret ?_
  exact r_ret1 [] rfl rfl (by simp) ⟨rfl, rfl, rfl⟩
theorem eIs_nil (g : Ghost) : Pure Tryz.prog 152 [.nilIface, unexpV] g (.bool false) := by
 refine spec_of_run Tryz.func152 rfl Tryz.ntmps152 rfl fun E hE => ?_
 refine r_sr <| r_ev rfl rfl <| r_nn <| r_seq <| r_sr <| r_ev rfl rfl <| r_eql_nil_nil rfl rfl <| r_ev rfl rfl <| r_pass rfl rfl rfl <| r_pass rfl rfl rfl <| r_ev rfl rfl <| r_nn <| r_cond_true rfl <| r_sr ?_; refine r_ev rfl rfl <| r_ev rfl rfl ?_
 refine r_v rfl (val_eql_nilif rfl rfl is_eq3) ?_
 refine r_ev rfl rfl <| r_nn <| r_retc <| r_then_ret ?_
 exact r_ret1 [] rfl rfl (by simp) ⟨rfl, rfl, rfl⟩
theorem eIs_err (g : Ghost) (v : Value) (hv : ErrV v) : Pure Tryz.prog 152 [v, unexpV] g (.bool true) := by
 obtain ⟨t, u, rfl, ⟨rfl, s, rfl⟩ | ⟨rfl, rfl⟩⟩ := hv
 ·refine spec_of_run Tryz.func152 rfl Tryz.ntmps152 rfl fun E hE => ?_
  refine r_sr <| r_ev rfl rfl <| r_nn <| r_seq <| r_sr <| r_ev rfl rfl <| r_eql_nil_held rfl rfl <| r_ev rfl rfl <| r_tev rfl rfl rfl <| r_take rfl <| r_eql_nil_held rfl rfl <| r_ev rfl rfl <| r_nn <| r_cond_false rfl ?_; refine r_skip <| r_then_normal <| r_sr <| r_ev rfl rfl ?_
  refine r_v rfl (val_ext rfl (is_to _)) ?_
  skip
  refine r_v rfl (val_invoke rfl rfl (is_mCmp _) is_cmp) ?_
  refine r_ev rfl rfl <| r_nn <| r_sr <| r_ev rfl rfl <| r_ev rfl rfl <| r_ev rfl rfl ?_
  refine r_callP rfl rfl (eis_miss g s) ?_
  refine r_ev rfl rfl <| r_nn <| r_retc ?_
  exact r_ret1 [] rfl rfl (by simp) ⟨rfl, rfl, rfl⟩
 ·refine spec_of_run Tryz.func152 rfl Tryz.ntmps152 rfl fun E hE => ?_
  refine r_sr <| r_ev rfl rfl <| r_nn <| r_seq <| r_sr <| r_ev rfl rfl <| r_eql_nil_held rfl rfl <| r_ev rfl rfl <| r_tev rfl rfl rfl <| r_take rfl <| r_eql_nil_held rfl rfl <| r_ev rfl rfl <| r_nn <| r_cond_false rfl ?_; refine r_skip <| r_then_normal <| r_sr <| r_ev rfl rfl ?_
  refine r_v rfl (val_ext rfl (is_to _)) ?_
  skip
  refine r_v rfl (val_invoke rfl rfl (is_mCmp _) is_cmp) ?_
  refine r_ev rfl rfl <| r_nn <| r_sr <| r_ev rfl rfl <| r_ev rfl rfl <| r_ev rfl rfl ?_
  refine r_callP rfl rfl (eis_unexp g) ?_
  refine r_ev rfl rfl <| r_nn <| r_retc ?_
  exact r_ret1 [] rfl rfl (by simp) ⟨rfl, rfl, rfl⟩
end Go.Proofs.YtpjehhnaojjanaaGreatDoor
-- sum 2887c2d1e4320282

/- The walks of package readexpr: expr, the joint induction, result, Expr, Atom. -/
namespace Go.Proofs.YtpjehhnaojjanaaGreatDoor
open Go Go.Eng Go.Th Go.Proofs
set_option maxRecDepth 10000
set_option maxHeartbeats 4000000
attribute [local irreducible] wpList Code.wp Run bodyPost Go.Eng.Ends Exit.then Exit.inBlock Again Wq Kq
section
variable {l : List Tok} (hb : TB l) (hkw : KW l) (m : Nat) (lv : Value) (b : Nat)
 (hX : ∀ g i, ErrT g → ToksAt g lv l → i ≤ l.length → l.length - i < m → SpecL Tryz.prog 118 [ptr b 0] g (rdE b lv i 0) (postE l i b lv (eread l .expr i)))
include hb hkw hX
theorem eexpr_step (g : Ghost) (i : Nat) (hg : ErrT g) (hs : ToksAt g lv l) (hi : i ≤ l.length) (hm : l.length - i < m + 1) :
  SpecL Tryz.prog 118 [ptr b 0] g (rdE b lv i 0) (postE l i b lv (eread l .expr i)) := by
 have hb1 := hb.1
 have hr := eread_step l .expr i
 simp only [estep] at hr
 refine spec_of_run Tryz.func118 rfl Tryz.ntmps118 rfl fun E hE => ?_
 refine r_sr ?_
 refine r_alloc rfl (fun b2 => ?_)
 refine r_ev rfl rfl <| r_nn <| r_sr <| r_ev rfl rfl ?_
 refine r_callO 1 rfl rfl rfl (eplace_spec g l lv hs b i 0) ?_
 refine r_build rfl rfl (by rfl) ?_
 refine r_alloc rfl (fun b4 => ?_)
 refine r_storeA 0 rfl rfl rfl rfl (by rfl) (by repeat' (first | exact rfl | assumption | refine all_cons ?_ ?_)) rfl ?_; refine r_nn <| r_seq <| r_block <| r_sr <| r_ev rfl rfl ?_
 refine r_callL 2 rfl rfl rfl (eread_spec g l hb lv hs b i 0 5 [92]) ?_
 rintro v g1 r' ⟨rfl, rfl, rfl⟩ _
 rw [show tokAt l i 5 [92] = markAt l i [92] from rfl]
 cases h1 : markAt l i [92] with
 | true =>
  have hlt := tokAt_lt h1
  rw [h1] at hr
  simp only [if_true] at hr ⊢
  have hr' : eread l .expr i = funRes l (posOf l i) (i + 1) := hr
  refine r_ev rfl rfl <| r_nn <| r_cond_true rfl <| r_sr <| r_fieldAddr rfl rfl <| r_store1 0 rfl rfl rfl rfl rfl rfl <| r_nn <| r_sr <| r_ev rfl rfl <| r_loadB 0 rfl rfl rfl (by rfl) ?_
  refine r_callL 2 rfl rfl rfl (efunction_step hb m lv b hX g1 (i + 1) hg hs hlt (by omega) (posOf l i)) ?_
  rintro v g2 r' hw hle
  rw [← hr'] at hw
  cases hq : eread l .expr i with
  | error p =>
   rw [hq] at hw
   obtain ⟨ev, e, er, rfl, he, her, j, hj, rfl⟩ := hw
   obtain ⟨a1, m1, c1, a2, m2, c2, a3, m3, c3, rfl, he'⟩ := he.form
   refine r_ev rfl rfl <| r_ev rfl rfl <| r_storeA 1 rfl rfl rfl rfl (by rfl) (by repeat' (first | exact rfl | assumption | refine all_cons ?_ ?_)) rfl ?_; refine r_ev rfl rfl <| r_nn <| r_retc <| r_in_ret <| r_then_ret ?_
   refine r_ret2 [_] rfl (res_blk 1 rfl rfl (by rfl)) (.tmp rfl) (.cons _ (.cons _ (List.Sublist.refl _))) ⟨_, rfl, ?_⟩
   exact ⟨_, e, _, rfl, ⟨_, rfl, he'⟩, her, j, hj, rfl⟩
  | ok q =>
   obtain ⟨e, j⟩ := q
   rw [hq] at hw
   obtain ⟨ev, rfl, he, rfl, hj1, hj2⟩ := hw
   obtain ⟨a1, m1, c1, a2, m2, c2, a3, m3, c3, rfl, he'⟩ := he.form
   refine r_ev rfl rfl <| r_ev rfl rfl <| r_storeA 1 rfl rfl rfl rfl (by rfl) (by repeat' (first | exact rfl | assumption | refine all_cons ?_ ?_)) rfl ?_; refine r_ev rfl rfl <| r_nn <| r_retc <| r_in_ret <| r_then_ret ?_
   refine r_ret2 [_] rfl (res_blk 1 rfl rfl (by rfl)) (.tmp rfl) (.cons _ (.cons _ (List.Sublist.refl _))) ⟨_, rfl, ?_⟩
   exact ⟨_, rfl, ⟨_, rfl, he'⟩, rfl, by omega, hj2⟩
 | false =>
 rw [h1] at hr
 simp only [Bool.false_eq_true, if_false] at hr ⊢
 refine r_ev rfl rfl <| r_nn <| r_cond_false rfl <| r_sr <| r_ev rfl rfl ?_
 refine r_callL 2 rfl rfl rfl (eread_spec g1 l hb lv hs b i 0 4 letB) ?_
 rintro v g1 r' ⟨rfl, rfl, rfl⟩ _
 rw [show tokAt l i 4 letB = wordAt l i letB from rfl]
 cases h2 : wordAt l i letB with
 | true =>
  have hlt := tokAt_lt h2
  rw [h2] at hr
  simp only [if_true] at hr ⊢
  refine r_ev rfl rfl <| r_nn <| r_cond_true rfl <| r_sr <| r_fieldAddr rfl rfl <| r_store1 0 rfl rfl rfl rfl rfl rfl <| r_nn <| r_seq <| r_sr <| r_ev rfl rfl ?_
  refine r_callL 2 rfl rfl rfl (eread_spec g1 l hb lv hs b (i + 1) 0 4 recB) ?_
  rintro v g1 r' ⟨rfl, rfl, rfl⟩ _
  rw [show tokAt l (i + 1) 4 recB = wordAt l (i + 1) recB from rfl]
  cases h3 : wordAt l (i + 1) recB with
  | true =>
   have hlt2 := tokAt_lt h3
   rw [h3] at hr
   simp only [if_true] at hr ⊢
   refine r_nn <| r_cond_true rfl <| r_region <| r_fieldAddr rfl rfl <| r_store1 0 rfl rfl rfl rfl rfl rfl <| r_nn <| r_sr <| r_ev rfl rfl <| r_loadB 0 rfl rfl rfl (by rfl) ?_
   refine r_callL 2 rfl rfl rfl (elet_step hb m lv b hX g1 (i + 2) hg hs hlt2 (by omega) 7 (posOf l i)) ?_
   rintro v g2 r' hw hle
   rw [← hr] at hw
   cases hq : eread l .expr i with
   | error p =>
    rw [hq] at hw
    obtain ⟨ev, e, er, rfl, he, her, j, hj, rfl⟩ := hw
    obtain ⟨a1, m1, c1, a2, m2, c2, a3, m3, c3, rfl, he'⟩ := he.form
    refine r_ev rfl rfl <| r_ev rfl rfl <| r_storeA 1 rfl rfl rfl rfl (by rfl) (by repeat' (first | exact rfl | assumption | refine all_cons ?_ ?_)) rfl ?_; refine r_ev rfl rfl <| r_nn <| r_retc <| r_in_ret <| r_then_ret ?_
    refine r_ret2 [_] rfl (res_blk 1 rfl rfl (by rfl)) (.tmp rfl) (.cons _ (.cons _ (List.Sublist.refl _))) ⟨_, rfl, ?_⟩
    exact ⟨_, e, _, rfl, ⟨_, rfl, he'⟩, her, j, hj, rfl⟩
   | ok q =>
    obtain ⟨e, j⟩ := q
    rw [hq] at hw
    obtain ⟨ev, rfl, he, rfl, hj1, hj2⟩ := hw
    obtain ⟨a1, m1, c1, a2, m2, c2, a3, m3, c3, rfl, he'⟩ := he.form
    refine r_ev rfl rfl <| r_ev rfl rfl <| r_storeA 1 rfl rfl rfl rfl (by rfl) (by repeat' (first | exact rfl | assumption | refine all_cons ?_ ?_)) rfl ?_; refine r_ev rfl rfl <| r_nn <| r_retc <| r_in_ret <| r_then_ret ?_
    refine r_ret2 [_] rfl (res_blk 1 rfl rfl (by rfl)) (.tmp rfl) (.cons _ (.cons _ (List.Sublist.refl _))) ⟨_, rfl, ?_⟩
    exact ⟨_, rfl, ⟨_, rfl, he'⟩, rfl, by omega, hj2⟩
  | false =>
   rw [h3] at hr
   simp only [Bool.false_eq_true, if_false] at hr ⊢
   refine r_nn <| r_cond_false rfl <| r_skip <| r_then_normal <| r_sr <| r_ev rfl rfl <| r_loadB 0 rfl rfl rfl (by rfl) ?_
   refine r_callL 2 rfl rfl rfl (elet_step hb m lv b hX g1 (i + 1) hg hs hlt (by omega) 6 (posOf l i)) ?_
   rintro v g2 r' hw hle
   rw [← hr] at hw
   cases hq : eread l .expr i with
   | error p =>
    rw [hq] at hw
    obtain ⟨ev, e, er, rfl, he, her, j, hj, rfl⟩ := hw
    obtain ⟨a1, m1, c1, a2, m2, c2, a3, m3, c3, rfl, he'⟩ := he.form
    refine r_ev rfl rfl <| r_ev rfl rfl <| r_storeA 1 rfl rfl rfl rfl (by rfl) (by repeat' (first | exact rfl | assumption | refine all_cons ?_ ?_)) rfl ?_; refine r_ev rfl rfl <| r_nn <| r_retc <| r_in_ret <| r_then_ret ?_
    refine r_ret2 [_] rfl (res_blk 1 rfl rfl (by rfl)) (.tmp rfl) (.cons _ (.cons _ (List.Sublist.refl _))) ⟨_, rfl, ?_⟩
    exact ⟨_, e, _, rfl, ⟨_, rfl, he'⟩, her, j, hj, rfl⟩
   | ok q =>
    obtain ⟨e, j⟩ := q
    rw [hq] at hw
    obtain ⟨ev, rfl, he, rfl, hj1, hj2⟩ := hw
    obtain ⟨a1, m1, c1, a2, m2, c2, a3, m3, c3, rfl, he'⟩ := he.form
    refine r_ev rfl rfl <| r_ev rfl rfl <| r_storeA 1 rfl rfl rfl rfl (by rfl) (by repeat' (first | exact rfl | assumption | refine all_cons ?_ ?_)) rfl ?_; refine r_ev rfl rfl <| r_nn <| r_retc <| r_in_ret <| r_then_ret ?_
    refine r_ret2 [_] rfl (res_blk 1 rfl rfl (by rfl)) (.tmp rfl) (.cons _ (.cons _ (List.Sublist.refl _))) ⟨_, rfl, ?_⟩
    exact ⟨_, rfl, ⟨_, rfl, he'⟩, rfl, by omega, hj2⟩
 | false =>
 rw [h2] at hr
 simp only [Bool.false_eq_true, if_false] at hr ⊢
 refine r_ev rfl rfl <| r_nn <| r_cond_false rfl <| r_sr <| r_ev rfl rfl ?_
 refine r_callL 2 rfl rfl rfl (eread_spec g1 l hb lv hs b i 0 4 caseB) ?_
 rintro v g1 r' ⟨rfl, rfl, rfl⟩ _
 rw [show tokAt l i 4 caseB = wordAt l i caseB from rfl]
 cases h3 : wordAt l i caseB with
 | true =>
  have hlt := tokAt_lt h3
  rw [h3] at hr
  simp only [if_true] at hr ⊢
  have hr' : eread l .expr i = caseRes l (posOf l i) (i + 1) := hr
  refine r_ev rfl rfl <| r_nn <| r_cond_true rfl <| r_sr <| r_fieldAddr rfl rfl <| r_store1 0 rfl rfl rfl rfl rfl rfl <| r_nn <| r_sr <| r_ev rfl rfl <| r_loadB 0 rfl rfl rfl (by rfl) ?_
  refine r_callL 2 rfl rfl rfl (eanalysis_step hb m lv b hX g1 (i + 1) hg hs hlt (by omega) (posOf l i)) ?_
  rintro v g2 r' hw hle
  rw [← hr'] at hw
  cases hq : eread l .expr i with
  | error p =>
   rw [hq] at hw
   obtain ⟨ev, e, er, rfl, he, her, j, hj, rfl⟩ := hw
   obtain ⟨a1, m1, c1, a2, m2, c2, a3, m3, c3, rfl, he'⟩ := he.form
   refine r_ev rfl rfl <| r_ev rfl rfl <| r_storeA 1 rfl rfl rfl rfl (by rfl) (by repeat' (first | exact rfl | assumption | refine all_cons ?_ ?_)) rfl ?_; refine r_ev rfl rfl <| r_nn <| r_retc <| r_in_ret <| r_then_ret ?_
   refine r_ret2 [_] rfl (res_blk 1 rfl rfl (by rfl)) (.tmp rfl) (.cons _ (.cons _ (List.Sublist.refl _))) ⟨_, rfl, ?_⟩
   exact ⟨_, e, _, rfl, ⟨_, rfl, he'⟩, her, j, hj, rfl⟩
  | ok q =>
   obtain ⟨e, j⟩ := q
   rw [hq] at hw
   obtain ⟨ev, rfl, he, rfl, hj1, hj2⟩ := hw
   obtain ⟨a1, m1, c1, a2, m2, c2, a3, m3, c3, rfl, he'⟩ := he.form
   refine r_ev rfl rfl <| r_ev rfl rfl <| r_storeA 1 rfl rfl rfl rfl (by rfl) (by repeat' (first | exact rfl | assumption | refine all_cons ?_ ?_)) rfl ?_; refine r_ev rfl rfl <| r_nn <| r_retc <| r_in_ret <| r_then_ret ?_
   refine r_ret2 [_] rfl (res_blk 1 rfl rfl (by rfl)) (.tmp rfl) (.cons _ (.cons _ (List.Sublist.refl _))) ⟨_, rfl, ?_⟩
   exact ⟨_, rfl, ⟨_, rfl, he'⟩, rfl, by omega, hj2⟩
 | false =>
 rw [h3] at hr
 simp only [Bool.false_eq_true, if_false] at hr ⊢
 have hr' : eread l .expr i = appRes l i := hr
 refine r_ev rfl rfl <| r_nn <| r_cond_false rfl <| r_skip <| r_in_normal <| r_then_normal <| r_sr <| r_ev rfl rfl ?_
 refine r_callL 2 rfl rfl rfl (eapplied_step hb m lv b (fun g i => eatom_step hb hkw m lv b hX g i) g1 i hg hs hi hm) ?_
 rintro v g2 r' hw hle
 rw [← hr'] at hw
 cases hq : eread l .expr i with
 | error p =>
  rw [hq] at hw
  obtain ⟨ev, e, er, rfl, he, her, j, hj, rfl⟩ := hw
  obtain ⟨a1, m1, c1, a2, m2, c2, a3, m3, c3, rfl, he'⟩ := he.form
  refine r_ev rfl rfl <| r_ev rfl rfl <| r_storeA 1 rfl rfl rfl rfl (by rfl) (by repeat' (first | exact rfl | assumption | refine all_cons ?_ ?_)) rfl ?_; refine r_ev rfl rfl <| r_nn <| r_retc ?_
  refine r_ret2 [_] rfl (res_blk 1 rfl rfl (by rfl)) (.tmp rfl) (.cons _ (.cons _ (List.Sublist.refl _))) ⟨_, rfl, ?_⟩
  exact ⟨_, e, _, rfl, ⟨_, rfl, he'⟩, her, j, hj, rfl⟩
 | ok q =>
  obtain ⟨e, j⟩ := q
  rw [hq] at hw
  obtain ⟨ev, rfl, he, rfl, hj1, hj2⟩ := hw
  obtain ⟨a1, m1, c1, a2, m2, c2, a3, m3, c3, rfl, he'⟩ := he.form
  refine r_ev rfl rfl <| r_ev rfl rfl <| r_storeA 1 rfl rfl rfl rfl (by rfl) (by repeat' (first | exact rfl | assumption | refine all_cons ?_ ?_)) rfl ?_; refine r_ev rfl rfl <| r_nn <| r_retc ?_
  refine r_ret2 [_] rfl (res_blk 1 rfl rfl (by rfl)) (.tmp rfl) (.cons _ (.cons _ (List.Sublist.refl _))) ⟨_, rfl, ?_⟩
  exact ⟨_, rfl, ⟨_, rfl, he'⟩, rfl, by omega, hj2⟩
end
theorem eexpr_all {l : List Tok} (hb : TB l) (hkw : KW l) (lv : Value) (b : Nat) : ∀ m : Nat, ∀ g i, ErrT g → ToksAt g lv l → i ≤ l.length → l.length - i < m → SpecL Tryz.prog 118 [ptr b 0] g (rdE b lv i 0) (postE l i b lv (eread l .expr i))
 | 0 => fun _ _ _ _ _ h => by omega
 | m + 1 => fun g i => eexpr_step hb hkw m lv b (eexpr_all hb hkw lv b m) g i
theorem eexpr_spec {l : List Tok} (hb : TB l) (hkw : KW l) (lv : Value) (b : Nat) (g : Ghost) (i : Nat) (hg : ErrT g) (hs : ToksAt g lv l) (hi : i ≤ l.length) : SpecL Tryz.prog 118 [ptr b 0] g (rdE b lv i 0) (postE l i b lv (eread l .expr i)) := eexpr_all hb hkw lv b _ g i hg hs hi (Nat.lt_succ_self _)
end Go.Proofs.YtpjehhnaojjanaaGreatDoor
-- sum 79c6b9a7309f5eea


/- readexpr.Expr, Atom and the reference's: both answer what the plain grammar reads. -/
namespace Go.Proofs.YtpjehhnaojjanaaGreatDoor
open Go Go.Eng Go.Th Go.Proofs
set_option maxRecDepth 10000
set_option maxHeartbeats 4000000
attribute [local irreducible] wpList Code.wp Run bodyPost Go.Eng.Ends Exit.then Exit.inBlock Again Wq Kq
def eansT : ER → Ex
 | .ok (t, _) => t
 | .error _ => noE
def eansI : ER → Int
 | .ok (_, j) => j
 | .error _ => 0
def eansE : ER → Int
 | .ok _ => 0
 | .error _ => 3
def eansP : ER → Int
 | .ok _ => 0
 | .error p => p
def eansPost (r : ER) (v : Value) (g' : Ghost) : Prop := ∃ tv, v = .tuple #[tv, .int .i64 (eansI r), .agg #[.int .i64 (eansE r), .int .i64 (eansP r)]] ∧ ExV g' tv (eansT r)
theorem eresult_ok (g : Ghost) (lv : Value) (b i : Nat) (tv : Value) (t : Ex) (ht : ExV g tv t) : PureO Tryz.prog 117 [ptr b 0, tv, .nilIface] g (rdE b lv i 0) (.tuple #[tv, .int .i64 i, .agg #[.int .i64 0, .int .i64 0]]) := by
 obtain ⟨a1, m1, c1, a2, m2, c2, a3, m3, c3, rfl, ht⟩ := ht.form
 refine spec_of_run Tryz.func117 rfl Tryz.ntmps117 rfl fun E hE => ?_
 refine r_sr ?_
 refine r_box rfl rfl rfl (fun b4 => ?_)
 refine r_alloc rfl (fun b6 => ?_)
 refine r_ev rfl rfl ?_
 refine r_alloc rfl (fun b8 => ?_)
 refine r_nn <| r_seq <| r_sr <| r_ev rfl rfl <| r_build rfl rfl (by rfl) ?_; refine r_mkIface rfl rfl ?_
 refine r_callP rfl rfl (eIs_nil g) ?_
 refine r_nn <| r_cond_false rfl <| r_skip <| r_then_normal <| r_seq ?_
 refine h_beginE [1, 0] mixed (fun hG => ?_)
 refine h_takeXA 0 rfl (by kernel_rfl) rfl hG ?_; refine ⟨_, (val_loadB 0 rfl rfl (by rfl)), ?_⟩; refine h_takeXA 1 rfl (by kernel_rfl) rfl hG ?_; refine ⟨_, (val_ev rfl), ?_⟩; refine h_takeXA 2 rfl (by kernel_rfl) rfl hG ?_; refine ⟨_, (val_ev rfl), ?_⟩; refine h_takeXA 3 rfl (by kernel_rfl) rfl hG ?_; refine ⟨_, (val_fieldAddr rfl), ?_⟩; refine h_takeXA 4 rfl (by kernel_rfl) rfl hG ?_; refine ⟨_, (val_loadB1 1 rfl rfl rfl), ?_⟩; refine h_takeXA 5 rfl (by kernel_rfl) rfl hG ?_; refine ⟨_, (val_build rfl (by rfl)), ?_⟩
 refine h_one 6 (by kernel_rfl) rfl ?_
 refine r_storeA 1 rfl rfl rfl rfl (by rfl) (by repeat' (first | exact rfl | assumption | refine all_cons ?_ ?_)) rfl ?_; refine r_nn ?_
 refine h_keptA hG ?_
 refine h_one 7 (by kernel_rfl) rfl ?_
 refine r_ev rfl rfl <| r_nn ?_
 refine h_keptA hG ?_
 refine h_one 8 (by kernel_rfl) rfl ?_
 refine r_storeA 0 rfl rfl rfl rfl (by rfl) (by repeat' (first | exact rfl | assumption | refine all_cons ?_ ?_)) rfl ?_; refine r_nn ?_
 refine h_keptA hG ?_
 refine h_done (by kernel_rfl) ?_
 refine r_then_normal <| r_retc ?_
 exact r_ret3 [_] rfl (res_blk 1 rfl rfl (by rfl)) (.tmp rfl) (res_blk 0 rfl rfl (by rfl)) (.cons _ (.cons _ (.cons _ (List.Sublist.refl _)))) ⟨rfl, rfl, rfl⟩
theorem eresult_err (g : Ghost) (lv : Value) (b j : Nat) (p : Int) (tv er : Value) (t : Ex) (ht : ExV g tv t) (he : ErrV er) : PureO Tryz.prog 117 [ptr b 0, tv, er] g (rdE b lv j p) (.tuple #[noEv, .int .i64 0, .agg #[.int .i64 3, .int .i64 p]]) := by
 obtain ⟨a1, m1, c1, a2, m2, c2, a3, m3, c3, rfl, ht⟩ := ht.form
 refine spec_of_run Tryz.func117 rfl Tryz.ntmps117 rfl fun E hE => ?_
 refine r_sr ?_
 refine r_box rfl rfl rfl (fun b4 => ?_)
 refine r_alloc rfl (fun b6 => ?_)
 refine r_ev rfl rfl ?_
 refine r_alloc rfl (fun b8 => ?_)
 refine r_nn <| r_seq <| r_sr <| r_ev rfl rfl <| r_build rfl rfl (by rfl) ?_; refine r_mkIface rfl rfl ?_
 refine r_callP rfl rfl (eIs_err g er he) ?_
 refine r_nn <| r_cond_true rfl <| r_seq ?_
 refine h_beginE [1, 0] mixed (fun hG => ?_)
 refine h_takeXA 0 rfl (by kernel_rfl) rfl hG ?_; refine ⟨_, (val_build rfl (by rfl)), ?_⟩; refine h_takeXA 1 rfl (by kernel_rfl) rfl hG ?_; refine ⟨_, (val_ev rfl), ?_⟩; refine h_takeXA 2 rfl (by kernel_rfl) rfl hG ?_; refine ⟨_, (val_ev rfl), ?_⟩; refine h_takeXA 3 rfl (by kernel_rfl) rfl hG ?_; refine ⟨_, (val_fieldAddr rfl), ?_⟩; refine h_takeXA 4 rfl (by kernel_rfl) rfl hG ?_; refine ⟨_, (val_loadB1 1 rfl rfl rfl), ?_⟩; refine h_takeXA 5 rfl (by kernel_rfl) rfl hG ?_; refine ⟨_, (val_build rfl (by rfl)), ?_⟩
 refine h_one 6 (by kernel_rfl) rfl ?_
 refine r_storeA 1 rfl rfl rfl rfl (by rfl) (by repeat' (first | exact rfl | assumption | refine all_cons ?_ ?_)) rfl ?_; refine r_nn ?_
 refine h_keptA hG ?_
 refine h_one 7 (by kernel_rfl) rfl ?_
 refine r_ev rfl rfl <| r_nn ?_
 refine h_keptA hG ?_
 refine h_one 8 (by kernel_rfl) rfl ?_
 refine r_storeA 0 rfl rfl rfl rfl (by rfl) (by repeat' (first | exact rfl | assumption | refine all_cons ?_ ?_)) rfl ?_; refine r_nn ?_
 refine h_keptA hG ?_
 refine h_done (by kernel_rfl) ?_
 refine r_then_normal <| r_retc <| r_then_ret ?_
 exact r_ret3 [_] rfl (res_blk 1 rfl rfl (by rfl)) (.tmp rfl) (res_blk 0 rfl rfl (by rfl)) (.cons _ (.cons _ (.cons _ (List.Sublist.refl _)))) ⟨rfl, rfl, rfl⟩
theorem eExpr_spec {l : List Tok} (hb : TB l) (hkw : KW l) (g : Ghost) (hg : ErrT g) (v : Value) (i : Int) (hs : ToksAt g v l) : SpecN Tryz.prog 72 [v, .int .i64 i] g (eansPost (eread l .expr (idxOf l.length i))) := by
 have hi : idxOf l.length i ≤ l.length := by unfold idxOf; split <;> omega
 refine spec_of_run Tryz.func72 rfl Tryz.ntmps72 rfl fun E hE => ?_
 refine r_sr ?_
 refine r_alloc rfl (fun b4 => ?_)
 refine r_ev rfl rfl ?_
 refine r_alloc rfl (fun b6 => ?_)
 refine r_nn <| r_sr <| r_ev rfl rfl <| r_ev rfl rfl ?_
 refine r_call' (lent := []) (kept := _) rfl rfl (List.Perm.refl _) (estart_spec g l v hs i) ?_
 rintro w g1 own' ⟨rfl, b, rfl, rfl⟩ _
 refine r_ev rfl rfl <| r_nn <| r_sr <| r_ev rfl rfl <| r_ev rfl rfl ?_
 refine r_callL 0 rfl rfl rfl (eexpr_spec hb hkw v b g1 _ hg hs hi) ?_
 rintro w g2 r' hw hle
 cases hq : eread l .expr (idxOf l.length i) with
 | error p =>
  rw [hq] at hw
  obtain ⟨ev, e, er, rfl, he, her, j, hj, rfl⟩ := hw
  refine r_ev rfl rfl <| r_ev rfl rfl ?_
  refine r_callO 0 rfl rfl rfl (eresult_err g2 v b j p _ _ e he her) ?_
  refine r_ev rfl rfl <| r_ev rfl rfl <| r_ev rfl rfl <| r_storeA 2 rfl rfl rfl rfl (by rfl) (by repeat' (first | exact rfl | assumption | refine all_cons ?_ ?_)) rfl ?_; refine r_ev rfl rfl <| r_storeA 1 rfl rfl rfl rfl (by rfl) (by repeat' (first | exact rfl | assumption | refine all_cons ?_ ?_)) rfl ?_; refine r_nn <| r_retc ?_
  exact r_ret3 [] rfl (res_blk 2 rfl rfl (by rfl)) (.tmp rfl) (res_blk 1 rfl rfl (by rfl)) (by simp) ⟨⟨_, rfl, noE_V _⟩, rfl⟩
 | ok q =>
  obtain ⟨t, j⟩ := q
  rw [hq] at hw
  obtain ⟨ev, rfl, he, rfl, hj1, hj2⟩ := hw
  have he0 := he
  obtain ⟨a1, m1, c1, a2, m2, c2, a3, m3, c3, rfl, he'⟩ := he0.form
  refine r_ev rfl rfl <| r_ev rfl rfl ?_
  refine r_callO 0 rfl rfl rfl (eresult_ok g2 v b j _ t he) ?_
  refine r_ev rfl rfl <| r_ev rfl rfl <| r_ev rfl rfl <| r_storeA 2 rfl rfl rfl rfl (by rfl) (by repeat' (first | exact rfl | assumption | refine all_cons ?_ ?_)) rfl ?_; refine r_ev rfl rfl <| r_storeA 1 rfl rfl rfl rfl (by rfl) (by repeat' (first | exact rfl | assumption | refine all_cons ?_ ?_)) rfl ?_; refine r_nn <| r_retc ?_
  exact r_ret3 [] rfl (res_blk 2 rfl rfl (by rfl)) (.tmp rfl) (res_blk 1 rfl rfl (by rfl)) (by simp) ⟨⟨_, rfl, ⟨_, rfl, he'⟩⟩, rfl⟩
end Go.Proofs.YtpjehhnaojjanaaGreatDoor
-- sum eb935ab890523882


/- The walks of chapter 6's laws: scan, words. -/
namespace Go.Proofs.YtpjehhnaojjanaaGreatDoor
open Go Go.Eng Go.Th Go.Proofs
set_option maxRecDepth 10000
set_option maxHeartbeats 4000000
attribute [local irreducible] wpList Code.wp Run bodyPost Go.Eng.Ends Exit.then Exit.inBlock Again Wq Kq
instance : Pair Tryz.prog 32 := ⟨by kernel_rfl⟩
theorem toksOf_TB (s : Bytes) : TB (toksOf s) := by
 obtain ⟨h1, h2⟩ := toksOf_facts s
 refine ⟨by omega, fun t ht => ?_⟩
 obtain ⟨a1, a2, a3, a4⟩ := h2 t ht
 exact ⟨by omega, by omega, by omega⟩
theorem toksOf_KW (s : Bytes) : KW (toksOf s) := fun t ht => ((toksOf_facts s).2 t ht).1
end Go.Proofs.YtpjehhnaojjanaaGreatDoor
-- sum 669e8da9116f031c


/- The walks of chapter 6's laws: the sanity check; ReadexprStarts. -/
namespace Go.Proofs.YtpjehhnaojjanaaGreatDoor
open Go Go.Eng Go.Th Go.Proofs
set_option maxRecDepth 10000
set_option maxHeartbeats 4000000
attribute [local irreducible] wpList Code.wp Run bodyPost Go.Eng.Ends Exit.then Exit.inBlock Again Wq Kq
theorem exs_rdA {g : Ghost} {ks : List Ex} {xa : List Value} {b off : Nat} (ht : ExsAt g ks xa) (hx : ∀ k x, xa[k]? = some x → g b (off + k) = some x) {i : Nat} (h : i < ks.length) :
  ∃ c, ExAt g ks[i] c ∧ ∀ own, Rd g own b (off + i * 11) c := by
 obtain ⟨c, h1, h2⟩ := AllAt.get (fun _ _ h => h.one.1) (exs_all.1 ht) i h
 exact ⟨c, h1, fun own => rd_g fun j x hj => by rw [Nat.add_assoc]; exact hx _ _ (h2 j x hj)⟩
end Go.Proofs.YtpjehhnaojjanaaGreatDoor
-- sum d22a06953772d895

/- Texts of expressions: the walk of typedholesref8.Expr at a case. -/
namespace Go.Th
end Go.Th
namespace Go.Proofs.YtpjehhnaojjanaaGreatDoor
open Go Go.Eng Go.Th Go.Proofs
set_option maxRecDepth 10000
set_option maxHeartbeats 4000000
attribute [local irreducible] wpList Code.wp Run bodyPost Go.Eng.Ends Exit.then Exit.inBlock Again Wq Kq
theorem ars_rdA {g : Ghost} {ra : List Ar} {xa : List Value} {b off : Nat} (ht : ArsAt g ra xa) (hx : ∀ k x, xa[k]? = some x → g b (off + k) = some x) {i : Nat} (h : i < ra.length) :
  ∃ sv bc, SlAt g 1 sv ra[i].vars.length (ra[i].vars.map str) ∧ ExAt g ra[i].body bc ∧ ∀ own, Rd g own b (off + i * 14) (.int .i64 ra[i].pos :: str ra[i].con :: sv :: bc) := by
 obtain ⟨c, h1, h2⟩ := AllAt.get (fun _ _ h => h.one.1) (ars_all.1 ht) i h
 generalize ra[i] = a at h1 ⊢
 cases a with
 | mk p cn vs e =>
  unfold ArAt at h1
  obtain ⟨slv, bc, rfl, h3, h4⟩ := h1
  exact ⟨slv, bc, h3, h4, fun own => rd_g fun j x hj => by rw [Nat.add_assoc]; exact hx _ _ (h2 j x hj)⟩
end Go.Proofs.YtpjehhnaojjanaaGreatDoor
-- sum 062d20be28c4ef8c

/- The walks of the program's depth and width of types and expressions: types.Depth, tree.Children, tree.Depth; readprogram's wide, annotated, deep. -/
namespace Go.Proofs.YtpjehhnaojjanaaGreatDoor
open Go Go.Eng Go.Th Go.Proofs
set_option maxRecDepth 10000
set_option maxHeartbeats 4000000
attribute [local irreducible] wpList Code.wp Run bodyPost Go.Eng.Ends Exit.then Exit.inBlock Again Wq Kq
theorem tDepth_aux (g : Ghost) : ∀ (N : Nat) (t : Ty) (v : Value), SizeOf.sizeOf t < N → depthT t ≤ 1000000 → TyV g v t → Pure Tryz.prog 64 [v] g (.int .i64 (depthT t))
 | 0, _, _, h, _, _ => by omega
 | N + 1, t, v, h, hd, hv => by
  have ih := tDepth_aux g N
  obtain ⟨sl, rfl, h1⟩ := hv
  obtain ⟨xs, hs1, ht1⟩ := h1.args
  obtain ⟨a, c, rfl⟩ := slForm2 hs1
  have hle := hs1.le
  rw [depthT_eq] at hd ⊢
  refine spec_of_run Tryz.func64 rfl Tryz.ntmps64 rfl fun E hE => ?_
  refine r_sr ?_
  refine r_box rfl rfl rfl (fun b1 => ?_)
  refine r_ev rfl rfl <| r_nn <| r_sr <| r_ev rfl rfl <| r_nn <| r_seq <| r_sr <| r_fieldAddr rfl rfl <| r_loadB1 0 rfl rfl rfl rfl <| r_len_sl rfl rfl <| r_ev rfl rfl <| r_nn <| r_block ?_
  refine r_drop (own' := []) (List.nil_sublist _) ?_
  refine r_loop (ι := Nat) (fun i => [(3, .int .i64 (depthTs (t.args.take i))), (7, .slice a t.args.length c), (8, .int .i64 t.args.length), (9, .int .i64 i)]) (fun _ => g) (fun _ => []) (fun i => i ≤ t.args.length) (fun i => t.args.length - i) 0 (Nat.zero_le _) ⟨rfl, rfl, rfl, rfl, trivial⟩ rfl rfl ?_
  intro i hi
  refine r_sr <| r_ev rfl rfl <| r_nn <| r_seq ?_
  refine r_cond rfl (fun hlt => ?_) (fun hlt => ?_)
  ·have hlt' : i < t.args.length := by omega
   obtain ⟨b, off, cap, hsl, hx⟩ := hs1.held hlt'
   cases hsl
   obtain ⟨sl', h2, hr⟩ := tys_rdA ht1 hx hlt'
   obtain ⟨_, hq, _⟩ := h2.args
   obtain ⟨u1, w1, rfl⟩ := slForm2 hq
   have hm := depthTs_mem (List.getElem_mem hlt')
   have hsz : SizeOf.sizeOf t.args[i] < N := by
    have := List.sizeOf_lt_of_mem (List.getElem_mem hlt')
    cases t with
    | mk k n i hh ta => simp only [Ty.args] at this ⊢; simp at h; omega
   have hsu := depthTs_succ hlt'
   have hdi : depthTs (t.args.take i) ≤ depthTs t.args := by
    have := depthTs_app (t.args.take i) (t.args.drop i)
    rw [List.take_append_drop] at this
    omega
   refine r_skip <| r_then_normal <| r_seq <| r_block <| r_sr <| r_indexAddr rfl rfl rfl rfl (by omega) ?_
   refine r_load rfl rfl (hr _) rfl ?_
   refine r_alloc rfl (fun b5 => ?_)
   refine r_storeA 0 rfl rfl rfl rfl (by rfl) (by repeat' (first | exact rfl | assumption | refine all_cons ?_ ?_)) rfl ?_; refine r_nn <| r_region <| r_ev rfl rfl <| r_loadB 0 rfl rfl rfl (by rfl) ?_
   refine r_callP rfl rfl (ih t.args[i] _ hsz (by omega) ⟨_, rfl, h2⟩) ?_
   refine r_add rfl rfl rfl (by omega) ?_; refine r_max rfl rfl rfl <| r_ev rfl rfl <| r_nil <| r_in_normal <| r_then_normal <| r_region <| r_add rfl rfl rfl (by omega) ?_; refine r_ev rfl rfl <| r_nn ?_
   refine r_drop (own' := []) (List.nil_sublist _) ?_
   refine r_again (i + 1) (by omega) (by omega) ⟨?_, rfl, rfl, rfl, trivial⟩ rfl rfl
   rw [hsu]
   refine lkInt rfl ?_
   omega
  ·have hil : i = t.args.length := by omega
   subst hil
   refine r_exit <| r_then_exit <| r_then_exit <| r_in_exit <| r_then_normal <| r_sr <| r_ev rfl rfl <| r_ev rfl rfl <| r_nn <| r_retc ?_
   exact r_ret1 [] rfl rfl (by simp) ⟨by rw [List.take_length], rfl, rfl⟩
theorem tDepth_spec (g : Ghost) (t : Ty) (v : Value) (hd : depthT t ≤ 1000000) (hv : TyV g v t) : Pure Tryz.prog 64 [v] g (.int .i64 (depthT t)) := tDepth_aux g _ t v (Nat.lt_succ_self _) hd hv
theorem CloneE_spec (g : Ghost) (v : Value) (n : Nat) (xs : List Value) (hs : SlAt g 11 v n xs) (h1 : ∀ u ∈ xs, oneC u = true) (hn : n ≤ 1000000) : Eng.Spec Tryz.prog 147 [v] g [] fun w g' own' => g' = g ∧ own' = [.row 51 11 w n xs] := by
 obtain ⟨a, m, c, rfl⟩ := SlAt.form hs
 refine spec_of_run Tryz.func147 rfl Tryz.ntmps147 rfl fun E hE => ?_
 refine r_sr <| r_ev rfl rfl <| r_nn <| r_seq <| r_sr <| r_ev rfl rfl ?_
 refine r_v rfl (val_eql_slnil rfl rfl) ?_
 refine r_nn ?_
 cases a with
 | none =>
  have h0 : n = 0 ∧ xs = [] := by
   rcases hs.2 with ⟨_, h0⟩ | ⟨b, off, cap, he, _⟩
   ·have hl := hs.1
    rw [h0, Nat.zero_mul] at hl
    exact ⟨h0, List.eq_nil_of_length_eq_zero hl⟩
   ·simp at he
  obtain ⟨rfl, rfl⟩ := h0
  refine r_cond_true rfl <| r_sr <| r_ev rfl rfl <| r_nn <| r_retc <| r_then_ret ?_
  refine r_nilRow 51 11 ?_
  exact r_ret1 [_] rfl rfl (List.Sublist.refl _) ⟨rfl, rfl⟩
 | some ad =>
  refine r_cond_false rfl <| r_skip <| r_then_normal <| r_sr ?_
  refine r_buildSlice rfl rfl (by rfl) (by rfl) (by rfl) (by rfl) (by rfl) (fun b2 => ?_)
  refine r_ev rfl rfl ?_
  refine r_appendAt 0 rfl rfl rfl rfl hs (by rfl) (by rfl) h1 (by unfold maxLen; omega) (by omega) (fun v' _ => ?_)
  rw [Nat.zero_add]
  refine r_ev rfl rfl <| r_nn <| r_retc ?_
  exact r_ret1 [_] rfl rfl (List.Sublist.refl _) ⟨rfl, rfl⟩
theorem tChildren_spec (g : Ghost) (v : Value) (e : Ex) (hv : ExV g v e) (hsz : sizeE e ≤ 1000000) : SpecN Tryz.prog 112 [v] g fun w g' => ∃ xs, SlAt g' 11 w (childE e).length xs ∧ ExsAt g' (childE e) xs := by
 obtain ⟨a1, c1, a2, c2, a3, m3, c3, xk, xa, rfl, h1, h2, h3, h4, h5⟩ := hv.open
 have hlen := childE_len e
 have hcl : (childE e).length = e.kids.length + e.arms.length := by simp [childE]
 refine spec_of_run Tryz.func112 rfl Tryz.ntmps112 rfl fun E hE => ?_
 refine r_sr ?_
 refine r_box rfl rfl rfl (fun b1 => ?_)
 refine r_ev rfl rfl <| r_nn <| r_sr <| r_fieldAddr rfl rfl <| r_loadB1 0 rfl rfl rfl rfl ?_
 refine r_call' (lent := []) (kept := _) rfl rfl (List.Perm.refl _) (CloneE_spec g _ _ _ h1 (exs_one h2).2 (by omega)) ?_
 rintro w g1 own' ⟨rfl, rfl⟩ _
 refine r_ev rfl rfl <| r_nn <| r_seq <| r_sr <| r_fieldAddr rfl rfl <| r_loadB1 1 rfl rfl rfl rfl <| r_len_sl rfl rfl <| r_ev rfl rfl <| r_nn <| r_block ?_
 refine r_drop (own' := [_]) (.cons_cons _ (List.nil_sublist _)) ?_
 refine r_loop (ι := Nat × Value × List Value) (fun p => [(3, p.2.1), (10, .slice a2 e.arms.length c2), (11, .int .i64 e.arms.length), (12, .int .i64 p.1)]) (fun _ => g1) (fun p => [.row 51 11 p.2.1 (e.kids.length + p.1) p.2.2])
  (fun p => p.1 ≤ e.arms.length ∧ ExsAt g1 (e.kids ++ (e.arms.take p.1).map Ar.body) p.2.2) (fun p => e.arms.length - p.1) (0, w, xk) ⟨Nat.zero_le _, by simpa using h2⟩ ⟨rfl, rfl, rfl, rfl, trivial⟩ rfl (by simp) ?_
 rintro ⟨i, sv, xs⟩ ⟨hi, hx⟩
 simp only at hi hx
 show Run E _ [(3, sv), (10, .slice a2 e.arms.length c2), (11, .int .i64 e.arms.length), (12, .int .i64 i)] g1 [.row 51 11 sv (e.kids.length + i) xs] _
 refine r_sr <| r_ev rfl rfl <| r_nn <| r_seq ?_
 refine r_cond rfl (fun hlt => ?_) (fun hlt => ?_)
 ·have hlt' : i < e.arms.length := by omega
  obtain ⟨b, off, cap, hsl, hxx⟩ := h3.held hlt'
  cases hsl
  obtain ⟨slv, bc, hv1, hb2, hr⟩ := ars_rdA h4 hxx hlt'
  obtain ⟨va, vc, rfl⟩ := slForm2 hv1
  obtain ⟨d1, n1, o1, d2, n2, o2, d3, n3, o3, yk, ya, rfl, _⟩ := hb2.form
  refine r_skip <| r_then_normal <| r_seq <| r_block <| r_sr <| r_indexAddr rfl rfl rfl rfl (by omega) ?_
  refine r_load rfl rfl (hr _) rfl ?_
  refine r_alloc rfl (fun b5 => ?_)
  refine r_storeA 0 rfl rfl rfl rfl (by rfl) (by repeat' (first | exact rfl | assumption | refine all_cons ?_ ?_)) rfl ?_; refine r_nn <| r_region <| r_ev rfl rfl <| r_fieldAddr rfl rfl <| r_loadB 0 rfl rfl rfl (by rfl) ?_
  refine r_buildSlice rfl rfl (by rfl) (by rfl) (by rfl) (by rfl) (by rfl) (fun b22 => ?_)
  refine r_appendRow 2 0 rfl rfl rfl rfl rfl (by rfl) (by rfl) rfl (by unfold maxLen; omega) (by omega) (fun w' _ => ?_)
  refine r_drop (own' := [_]) (.cons _ (.cons _ (List.Sublist.refl _))) ?_
  refine r_ev rfl rfl <| r_nil <| r_in_normal <| r_then_normal <| r_region <| r_add rfl rfl rfl (by omega) ?_; refine r_ev rfl rfl <| r_nn ?_
  refine r_again (i + 1, w', xs ++ [.int .i64 e.arms[i].body.kind, .int .i64 e.arms[i].body.pos, str e.arms[i].body.name, .int .i64 e.arms[i].body.num, .slice d1 n1 o1, .slice d2 n2 o2, .int .i64 e.arms[i].body.ty.kind, str e.arms[i].body.ty.name, .int .i64 e.arms[i].body.ty.id, .int .i64 e.arms[i].body.ty.home, .slice d3 n3 o3]) ⟨hlt', ?_⟩ (by simp only; omega) ⟨rfl, rfl, rfl, rfl, trivial⟩ rfl ?_
  ·simp only
   rw [take_snoc hlt', List.map_append, ← List.append_assoc]
   exact exs_snoc hx hb2
  ·simp [repN, Nat.add_assoc]
 ·have hil : i = e.arms.length := by omega
  subst hil
  rw [List.take_length] at hx
  refine r_publishRow (fun g2 hg2 hs2 => ?_)
  refine r_exit <| r_then_exit <| r_then_exit <| r_in_exit <| r_then_normal <| r_sr <| r_ev rfl rfl <| r_ev rfl rfl <| r_nn <| r_retc ?_
  exact r_ret1 [] rfl rfl (by simp) ⟨⟨_, by rw [hcl]; exact hs2, ExsAt.mono hg2 _ _ hx⟩, rfl⟩
theorem treeDepth_aux : ∀ (N : Nat) (g : Ghost) (e : Ex) (v : Value), sizeE e < N → sizeE e ≤ 1000000 → ExV g v e → Pure Tryz.prog 110 [v] g (.int .i64 (depthE e))
 | 0, _, _, _, h, _, _ => by omega
 | N + 1, g, e, v, h, hsz, hv => by
  have ih := treeDepth_aux N
  have hcl := childE_len e
  have hds := depthE_size e
  have hv0 := hv
  obtain ⟨a1, c1, a2, c2, a3, m3, c3, xk, xa, rfl, h1, h2, h3, h4, h5⟩ := hv.open
  rw [depthE_child] at hds ⊢
  refine spec_of_run Tryz.func110 rfl Tryz.ntmps110 rfl fun E hE => ?_
  refine r_sr ?_
  refine r_box rfl rfl rfl (fun b1 => ?_)
  refine r_ev rfl rfl <| r_nn <| r_sr <| r_ev rfl rfl <| r_nn <| r_seq <| r_sr <| r_loadB 0 rfl rfl rfl (by rfl) ?_
  refine r_callN rfl rfl (tChildren_spec g _ e hv0 hsz) ?_
  rintro w g1 ⟨xs, hs1, hx1⟩ hle1
  obtain ⟨sa, sc, rfl⟩ := slForm2 hs1
  refine r_len_sl rfl rfl <| r_ev rfl rfl <| r_nn <| r_block ?_
  refine r_drop (own' := []) (List.nil_sublist _) ?_
  refine r_loop (ι := Nat) (fun i => [(3, .int .i64 (depthEs ((childE e).take i))), (7, .slice sa (childE e).length sc), (8, .int .i64 (childE e).length), (9, .int .i64 i)]) (fun _ => g1) (fun _ => []) (fun i => i ≤ (childE e).length) (fun i => (childE e).length - i) 0 (Nat.zero_le _) ⟨rfl, rfl, rfl, rfl, trivial⟩ rfl rfl ?_
  intro i hi
  refine r_sr <| r_ev rfl rfl <| r_nn <| r_seq ?_
  refine r_cond rfl (fun hlt => ?_) (fun hlt => ?_)
  ·have hlt' : i < (childE e).length := by omega
   obtain ⟨b, off, cap, hsl, hxc⟩ := hs1.held hlt'
   cases hsl
   obtain ⟨cs, k1, hr⟩ := exs_rdA hx1 hxc hlt'
   have hsz2 := childE_size (List.getElem_mem hlt')
   have hsu := depthEs_succ hlt'
   have hdt := depthEs_take (childE e) (i + 1)
   have k2 := k1
   obtain ⟨d1, n1, o1, d2, n2, o2, d3, n3, o3, yk, ya, rfl, _⟩ := k1.form
   refine r_skip <| r_then_normal <| r_seq <| r_block <| r_sr <| r_indexAddr rfl rfl rfl rfl (by omega) ?_
   refine r_load rfl rfl (hr _) rfl ?_
   refine r_alloc rfl (fun b5 => ?_)
   refine r_storeA 0 rfl rfl rfl rfl (by rfl) (by repeat' (first | exact rfl | assumption | refine all_cons ?_ ?_)) rfl ?_; refine r_nn <| r_region <| r_ev rfl rfl <| r_loadB 0 rfl rfl rfl (by rfl) ?_
   refine r_callP rfl rfl (ih g1 (childE e)[i] _ (by omega) (by omega) ⟨_, rfl, k2⟩) ?_
   refine r_add rfl rfl rfl (by omega) ?_; refine r_max rfl rfl rfl <| r_ev rfl rfl <| r_nil <| r_in_normal <| r_then_normal <| r_region <| r_add rfl rfl rfl (by omega) ?_; refine r_ev rfl rfl <| r_nn ?_
   refine r_drop (own' := []) (List.nil_sublist _) ?_
   refine r_again (i + 1) (by omega) (by omega) ⟨?_, rfl, rfl, rfl, trivial⟩ rfl rfl
   rw [hsu]
   refine lkInt rfl ?_
   omega
  ·have hil : i = (childE e).length := by omega
   subst hil
   refine r_exit <| r_then_exit <| r_then_exit <| r_in_exit <| r_then_normal <| r_sr <| r_ev rfl rfl <| r_ev rfl rfl <| r_nn <| r_retc ?_
   refine r_shrink hE hle1 ?_
   exact r_ret1 [] rfl rfl (by simp) ⟨by rw [List.take_length], rfl, rfl⟩
theorem treeDepth_spec (g : Ghost) (e : Ex) (v : Value) (hsz : sizeE e ≤ 1000000) (hv : ExV g v e) : Pure Tryz.prog 110 [v] g (.int .i64 (depthE e)) := treeDepth_aux _ g e v (Nat.lt_succ_self _) hsz hv
end Go.Proofs.YtpjehhnaojjanaaGreatDoor
-- sum 90623d9c6dcc471b

